/- SoftMore and SoftEdges answer true: what is kept is kept with more free, at a greater rate, later asked, at an earlier time; at the limit one is kept and one later not; for all ints, times of sixteen bits. -/
import Derived.Test.YtgaopepomfjjbaaWalks
namespace Go.Proofs.Ytgaopepomfjjbaa.Fns
open Go Go.RowKit

def upv (x k : Int) : Int := min (x + k) 9223372036854775807
theorem up_c (x k : Int) (w : World) (h0 : -9223372036854775808 ≤ x) (h1 : x ≤ 9223372036854775807) (k0 : 0 ≤ k) (k1 : k ≤ 9223372036854775807) :
    Calls Try.prog 17 #[.int .i64 x, .int .i64 k] w fun e w' => e = .returned (.int .i64 (upv x k)) ∧ w = w' := by
  by_cases g : 9223372036854775807 - k < x
  all_goals
    go_enter Try.func17, Try.ntmps17
    go_wp2
    go_ret
    exact ⟨ret_int (by show _ = upv x k; unfold upv; omega), rfl⟩

theorem nn_mono (a b : Int) (h : a ≤ b) : nn a ≤ nn b := by have := nn_bd a; have := nn_bd b; omega
theorem lim_pos (a b : Int) : 0 ≤ lim a b := by
  have hp : 0 ≤ nn a * nn b := Int.mul_nonneg (nn_bd a).1 (nn_bd b).1
  unfold lim; split <;> omega
theorem lim_mono (a b a' b' : Int) (h : a ≤ a') (h' : b ≤ b') : lim a b ≤ lim a' b' := by
  have g : nn a * nn b ≤ nn a' * nn b' := Int.mul_le_mul (nn_mono _ _ h) (nn_mono _ _ h') (nn_bd b).1 (nn_bd a').1
  unfold lim
  split <;> split <;> omega
theorem idl_mono (a b a' b' : Int) (h : a ≤ a') (h' : b' ≤ b) : idl a b ≤ idl a' b' := by
  have h1 := nn_mono _ _ h; have h2 := nn_mono _ _ h'
  exact nn_mono _ _ (by omega)
theorem one_cell (w : World) (x : Int) (b : Nat) (hb : b = w.heap.size) : Ints (w.alloc (.cells #[.int .i64 x] 3)) (b + 1) (some ⟨b, 0, none⟩) 1 [x] := by
  subst hb
  refine ⟨rfl, fun _ => ⟨_, rfl, by simp, fun j hj => ?_⟩⟩
  obtain rfl : j = 0 := by omega
  exact cell_one_new _ _ _ 0 _ rfl

theorem keep_t (a b c d : Int) (w : World) (ha : a ≤ 9223372036854775807) (hb : b ≤ 9223372036854775807) (hc : c ≤ 9223372036854775807) (hd : d ≤ 9223372036854775807) (h : idl a b ≤ lim c d) :
    Calls Try.prog 10 #[.int .i64 a, .int .i64 b, .int .i64 c, .int .i64 d] w fun e w' => e = .returned (.bool true) ∧ w = w' := by
  have k := keep_c a b c d w ha hb hc hd
  rwa [decide_eq_true h] at k
theorem keep_f (a b c d : Int) (w : World) (ha : a ≤ 9223372036854775807) (hb : b ≤ 9223372036854775807) (hc : c ≤ 9223372036854775807) (hd : d ≤ 9223372036854775807) (h : lim c d < idl a b) :
    Calls Try.prog 10 #[.int .i64 a, .int .i64 b, .int .i64 c, .int .i64 d] w fun e w' => e = .returned (.bool false) ∧ w = w' := by
  have k := keep_c a b c d w ha hb hc hd
  rwa [decide_eq_false (by omega)] at k
attribute [local irreducible] lim idl lat upv nn S

set_option maxHeartbeats 8000000 in
theorem more_c (a b c d m : Int) (w : World) (ha : (Lit.int .i64 a).wf = true) (hb : (Lit.int .i64 b).wf = true) (hc : (Lit.int .i64 c).wf = true) (hd : (Lit.int .i64 d).wf = true) (hm : (Lit.int .i64 m).wf = true) :
    Calls Try.prog 5 #[.int .i64 a, .int .i64 b, .int .i64 c, .int .i64 d, .int .i64 m] w fun e w' => e = .returned (.bool true) ∧ Below w.heap.size w w' := by
  obtain ⟨ha0, ha⟩ := bounds_i64 ha
  obtain ⟨hb0, hb⟩ := bounds_i64 hb
  obtain ⟨hc0, hc⟩ := bounds_i64 hc
  obtain ⟨hd0, hd⟩ := bounds_i64 hd
  obtain ⟨hm0, hm⟩ := bounds_i64 hm
  have l0 := lim_pos c d
  have i0 := (idl_bd a b ha).1
  have hs : ∀ k, 0 ≤ k → k ≤ 9223372036854775807 → lim c d ≤ lim (upv c k) d ∧ lim c d ≤ lim c (upv d k) ∧ idl a (upv b k) ≤ idl a b ∧ idl a b ≤ idl (upv a k) b ∧ a ≤ lat a [k] 1 ∧ 0 ≤ lat a [k] 1 ∧ k ≤ lat a [k] 1 ∧
      (upv a k ≤ 9223372036854775807 ∧ upv b k ≤ 9223372036854775807 ∧ upv c k ≤ 9223372036854775807 ∧ upv d k ≤ 9223372036854775807) := by
    intro k h0 h1
    have e : ∀ x : Int, x ≤ 9223372036854775807 → x ≤ upv x k ∧ upv x k ≤ 9223372036854775807 := fun x hx => by unfold upv; omega
    have := nn_bd a; have := nn_bd k
    exact ⟨lim_mono _ _ _ _ (e c hc).1 (Int.le_refl _), lim_mono _ _ _ _ (Int.le_refl _) (e d hd).1, idl_mono _ _ _ _ (Int.le_refl _) (e b hb).1, idl_mono _ _ _ _ (e a ha).1 (Int.le_refl _),
      by unfold lat; simp [S]; omega, (lat_bd _ _ _).1, by unfold lat; simp [S]; omega, (e a ha).2, (e b hb).2, (e c hc).2, (e d hd).2⟩
  rcases (show m < 0 ∨ 0 ≤ m by omega) with gm | gm
  · obtain ⟨s1, s2, s3, s4, s5, s6, s7, u1, u2, u3, u4⟩ := hs 0 (by omega) (by omega)
    clear hs
    rcases (show idl a b ≤ lim c d ∨ lim c d < idl a b by omega) with hk | hk
    · skip
      go_enter Try.func5, Try.ntmps5
      simp only [List.append]
      go_wp2_with (first | (go_at_call 11; refine (awake_c _).mono ?_; rintro e w' ⟨rfl, rfl⟩) | (go_at_call 8; refine (idle_c _ _ _ ha hb).mono ?_; rintro e w' ⟨rfl, rfl⟩) | (go_at_call 9; refine (limit_c _ _ _ hc hd).mono ?_; rintro e w' ⟨rfl, rfl⟩) | (go_at_call 10; refine (keep_t _ _ _ _ _ (by omega) (by omega) (by omega) (by omega) (by omega)).mono ?_; rintro e w' ⟨rfl, rfl⟩) | (go_at_call 15; refine (later_c _ _ _ _ _ _ ha _ (one_cell _ _ _ (by simp)) (by omega)).mono ?_; rintro e w' ⟨rfl, rfl⟩) | (go_at_call 17; refine (up_c _ _ _ (by omega) (by omega) (by omega) (by omega)).mono ?_; rintro e w' ⟨rfl, rfl⟩))
      all_goals
        go_ret
        exact ⟨rfl, (Below.refl _ _).alloc (Nat.le_refl _) _⟩
    · skip
      go_enter Try.func5, Try.ntmps5
      simp only [List.append]
      go_wp2_with (first | (go_at_call 11; refine (awake_c _).mono ?_; rintro e w' ⟨rfl, rfl⟩) | (go_at_call 8; refine (idle_c _ _ _ ha hb).mono ?_; rintro e w' ⟨rfl, rfl⟩) | (go_at_call 9; refine (limit_c _ _ _ hc hd).mono ?_; rintro e w' ⟨rfl, rfl⟩) | (go_at_call 10; refine (keep_f _ _ _ _ _ (by omega) (by omega) (by omega) (by omega) (by omega)).mono ?_; rintro e w' ⟨rfl, rfl⟩) | (go_at_call 15; refine (later_c _ _ _ _ _ _ ha _ (one_cell _ _ _ (by simp)) (by omega)).mono ?_; rintro e w' ⟨rfl, rfl⟩) | (go_at_call 17; refine (up_c _ _ _ (by omega) (by omega) (by omega) (by omega)).mono ?_; rintro e w' ⟨rfl, rfl⟩))
      all_goals
        go_ret
        exact ⟨rfl, (Below.refl _ _).alloc (Nat.le_refl _) _⟩
  · obtain ⟨s1, s2, s3, s4, s5, s6, s7, u1, u2, u3, u4⟩ := hs m gm hm
    clear hs
    rcases (show idl a b ≤ lim c d ∨ lim c d < idl a b by omega) with hk | hk
    · skip
      go_enter Try.func5, Try.ntmps5
      simp only [List.append]
      go_wp2_with (first | (go_at_call 11; refine (awake_c _).mono ?_; rintro e w' ⟨rfl, rfl⟩) | (go_at_call 8; refine (idle_c _ _ _ ha hb).mono ?_; rintro e w' ⟨rfl, rfl⟩) | (go_at_call 9; refine (limit_c _ _ _ hc hd).mono ?_; rintro e w' ⟨rfl, rfl⟩) | (go_at_call 10; refine (keep_t _ _ _ _ _ (by omega) (by omega) (by omega) (by omega) (by omega)).mono ?_; rintro e w' ⟨rfl, rfl⟩) | (go_at_call 15; refine (later_c _ _ _ _ _ _ ha _ (one_cell _ _ _ (by simp)) (by omega)).mono ?_; rintro e w' ⟨rfl, rfl⟩) | (go_at_call 17; refine (up_c _ _ _ (by omega) (by omega) (by omega) (by omega)).mono ?_; rintro e w' ⟨rfl, rfl⟩))
      all_goals
        go_ret
        exact ⟨rfl, (Below.refl _ _).alloc (Nat.le_refl _) _⟩
    · skip
      go_enter Try.func5, Try.ntmps5
      simp only [List.append]
      go_wp2_with (first | (go_at_call 11; refine (awake_c _).mono ?_; rintro e w' ⟨rfl, rfl⟩) | (go_at_call 8; refine (idle_c _ _ _ ha hb).mono ?_; rintro e w' ⟨rfl, rfl⟩) | (go_at_call 9; refine (limit_c _ _ _ hc hd).mono ?_; rintro e w' ⟨rfl, rfl⟩) | (go_at_call 10; refine (keep_f _ _ _ _ _ (by omega) (by omega) (by omega) (by omega) (by omega)).mono ?_; rintro e w' ⟨rfl, rfl⟩) | (go_at_call 15; refine (later_c _ _ _ _ _ _ ha _ (one_cell _ _ _ (by simp)) (by omega)).mono ?_; rintro e w' ⟨rfl, rfl⟩) | (go_at_call 17; refine (up_c _ _ _ (by omega) (by omega) (by omega) (by omega)).mono ?_; rintro e w' ⟨rfl, rfl⟩))
      all_goals
        go_ret
        exact ⟨rfl, (Below.refl _ _).alloc (Nat.le_refl _) _⟩

theorem limit_v (a b v : Int) (w : World) (ha : a ≤ 9223372036854775807) (hb : b ≤ 9223372036854775807) (h : lim a b = v) :
    Calls Try.prog 9 #[.int .i64 a, .int .i64 b] w fun e w' => e = .returned (.int .i64 v) ∧ w = w' := by
  rw [← h]; exact limit_c a b w ha hb
theorem later_v (a : Int) (A : Option Addr) (n c : Nat) (xs : List Int) (v : Int) (w : World) (ha : a ≤ 9223372036854775807) (B : Nat) (hr : Ints w B A n xs) (hn : n ≤ 140737488351232) (h : lat a xs n = v) :
    Calls Try.prog 15 #[.int .i64 a, .slice A n c] w fun e w' => e = .returned (.int .i64 v) ∧ w = w' := by
  rw [← h]; exact later_c a A n c xs w ha B hr hn
theorem idl_of (x y : Int) (hx : 0 ≤ x) (hy : 0 ≤ y) : idl x y = x - y ∧ y ≤ x ∨ idl x y = 0 ∧ x ≤ y := by
  have t1 := nn_bd x; have t2 := nn_bd y; have t3 := nn_bd (nn x - nn y)
  unfold idl; omega
theorem lim_none (a b : Int) (h : a ≤ 0 ∨ b ≤ 0) : lim a b = 0 := by
  have h1 := nn_bd a; have h2 := nn_bd b
  have : nn a * nn b = 0 := by
    rcases h with h | h
    · rw [show nn a = 0 by omega, Int.zero_mul]
    · rw [show nn b = 0 by omega, Int.mul_zero]
  unfold lim; rw [this]; decide
theorem lat_one (a x : Int) : lat a [x] 1 = min (nn a + nn x) 9223372036854775807 := by unfold lat; simp [S]

set_option maxHeartbeats 4000000 in
theorem edges_q (s f r n q : Int) (w : World) (hs0 : 0 ≤ s) (hs : s ≤ 65535) (hf0 : 0 ≤ f) (hf : f ≤ 65535) (hr0 : 0 ≤ r) (hr : r ≤ 65535) (hn0 : -9223372036854775808 ≤ n) (hn : n ≤ 9223372036854775807)
    (hq : (0 < n ∧ q = 0) ∨ (n ≤ 0 ∧ q = n)) :
    Calls Try.prog 6 #[.int .u16 s, .int .u16 f, .int .u16 r, .int .i64 n] w fun e w' => e = .returned (.bool true) ∧ Below w.heap.size w w' := by
  have p0 : 0 ≤ f * r := Int.mul_nonneg hf0 hr0
  have p1 : f * r ≤ 4294836225 := Int.mul_le_mul hf hr hr0 (by omega)
  have hl : lim f r = f * r := by
    unfold lim
    have := nn_bd f; have := nn_bd r
    rw [show nn f = f by omega, show nn r = r by omega, if_neg (by omega)]
  have i1 := idl_of (s + f * r) s (by omega) (by omega)
  have i2 := idl_of (s + f * r + 1) s (by omega) (by omega)
  have i3 := idl_of s s (by omega) (by omega)
  have i4 := idl_of (s + 1) s (by omega) (by omega)
  have i5 := idl_of s (s + 9) (by omega) (by omega)
  have z1 := lim_none 0 r (by omega)
  have z2 := lim_none f 0 (by omega)
  have z3 := lim_none 0 0 (by omega)
  have ns := nn_bd s; have nq := nn_bd q
  have k1 : idl (s + f * r) s ≤ lim f r := by omega
  have k2 : lim f r < idl (s + f * r + 1) s := by omega
  have k3 : idl s s ≤ lim 0 r := by omega
  have k4 : lim 0 r < idl (s + 1) s := by omega
  have k5 : lim f 0 < idl (s + 1) s := by omega
  have k6 : idl s (s + 9) ≤ lim 0 0 := by omega
  have LF := Lib.hid hl
  have LQ := Lib.hid (lim_none q r (by omega))
  have L1 := Lib.hid (show lat 9223372036854775807 [1] 1 = 9223372036854775807 by rw [lat_one]; unfold nn; decide)
  have L2 := Lib.hid (show lat 9223372036854775802 [3] 1 = 9223372036854775805 by rw [lat_one]; unfold nn; decide)
  have L3 := Lib.hid (show lat s [q] 1 = s by rw [lat_one]; omega)
  have L4 := Lib.hid (show lat q [s] 1 = s by rw [lat_one]; omega)
  clear i1 i2 i3 i4 i5 z1 z2 z3 hl ns nq
  rcases hq with ⟨g, rfl⟩ | ⟨g, rfl⟩
  all_goals
    go_enter Try.func6, Try.ntmps6
    simp only [List.append]
    go_wp2_with (first | (go_at_call 11; refine (awake_c _).mono ?_; rintro e w' ⟨rfl, rfl⟩) | (go_at_call 9; with_reducible (first | refine (limit_v _ _ _ _ (by omega) (by omega) LF.out).mono ?_ | refine (limit_v _ _ _ _ (by omega) (by omega) LQ.out).mono ?_); rintro e w' ⟨rfl, rfl⟩) | (go_at_call 10; (first | refine (keep_t _ _ _ _ _ (by omega) (by omega) (by omega) (by omega) (by omega)).mono ?_ | refine (keep_f _ _ _ _ _ (by omega) (by omega) (by omega) (by omega) (by omega)).mono ?_); rintro e w' ⟨rfl, rfl⟩) | (go_at_call 15; with_reducible (first | refine (later_v _ _ _ _ _ _ _ (by omega) _ (one_cell _ _ _ (by simp)) (by omega) L1.out).mono ?_ | refine (later_v _ _ _ _ _ _ _ (by omega) _ (one_cell _ _ _ (by simp)) (by omega) L2.out).mono ?_ | refine (later_v _ _ _ _ _ _ _ (by omega) _ (one_cell _ _ _ (by simp)) (by omega) L3.out).mono ?_ | refine (later_v _ _ _ _ _ _ _ (by omega) _ (one_cell _ _ _ (by simp)) (by omega) L4.out).mono ?_); rintro e w' ⟨rfl, rfl⟩))
    go_ret
    exact ⟨rfl, ((((Below.refl _ _).alloc (Nat.le_refl _) _).alloc (by simp) _).alloc (by simp; omega) _).alloc (by simp; omega) _⟩
theorem edges_c (s f r n : Int) (w : World) (hs : (Lit.int .u16 s).wf = true) (hf : (Lit.int .u16 f).wf = true) (hr : (Lit.int .u16 r).wf = true) (hn : (Lit.int .i64 n).wf = true) :
    Calls Try.prog 6 #[.int .u16 s, .int .u16 f, .int .u16 r, .int .i64 n] w fun e w' => e = .returned (.bool true) ∧ Below w.heap.size w w' := by
  obtain ⟨s0, s1⟩ := bounds_u16 hs
  obtain ⟨f0, f1⟩ := bounds_u16 hf
  obtain ⟨r0, r1⟩ := bounds_u16 hr
  obtain ⟨n0, n1⟩ := bounds_i64 hn
  rcases (show 0 < n ∨ n ≤ 0 by omega) with g | g
  · exact edges_q s f r n 0 w s0 s1 f0 f1 r0 r1 n0 n1 (.inl ⟨g, rfl⟩)
  · exact edges_q s f r n n w s0 s1 f0 f1 r0 r1 n0 n1 (.inr ⟨g, rfl⟩)
end Go.Proofs.Ytgaopepomfjjbaa.Fns
