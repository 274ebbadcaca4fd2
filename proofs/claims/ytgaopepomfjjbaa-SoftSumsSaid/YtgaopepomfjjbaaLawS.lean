/- SoftSums answers true: a clock later by many numbers at once is later by each of them, from the front and from the back; for every int and every list within the form's reach. -/
import Derived.Test.YtgaopepomfjjbaaWalks
namespace Go.Proofs.Ytgaopepomfjjbaa.Fns
open Go Go.RowKit

theorem one_cell (w : World) (x : Int) (b : Nat) (hb : b = w.heap.size) : Ints (w.alloc (.cells #[.int .i64 x] 3)) (b + 1) (some ⟨b, 0, none⟩) 1 [x] := by
  subst hb
  refine ⟨rfl, fun _ => ⟨_, rfl, by simp, fun j hj => ?_⟩⟩
  obtain rfl : j = 0 := by omega
  exact cell_one_new _ _ _ 0 _ rfl
theorem later_v (a : Int) (A : Option Addr) (n c : Nat) (xs : List Int) (v : Int) (w : World) (ha : a ≤ 9223372036854775807) (B : Nat) (hr : Ints w B A n xs) (hn : n ≤ 140737488351232) (h : lat a xs n = v) :
    Calls Try.prog 15 #[.int .i64 a, .slice A n c] w fun e w' => e = .returned (.int .i64 v) ∧ w = w' := by
  rw [← h]; exact later_c a A n c xs w ha B hr hn
theorem lat_one (a x : Int) : lat a [x] 1 = min (nn a + nn x) 9223372036854775807 := by unfold lat; simp [S]
theorem drop_S (xs : List Int) (n : Nat) (h : n < xs.length) : S (xs.drop n) = nn (xs.getD n 0) + S (xs.drop (n + 1)) := by
  rw [List.drop_eq_getElem_cons h]
  simp [S, List.getD_eq_getElem?_getD, List.getElem?_eq_getElem h]

/-- The clock behind k rounds, from the front and from the back; the clock itself at first. -/
def fro (a : Int) (xs : List Int) : Nat → Int
  | 0 => a
  | k + 1 => lat (fro a xs k) [xs.getD k 0] 1
def bak (a : Int) (xs : List Int) : Nat → Int
  | 0 => a
  | k + 1 => lat (bak a xs k) [xs.getD (xs.length - 1 - k) 0] 1
theorem fro_le (a : Int) (xs : List Int) (h : a ≤ 9223372036854775807) : ∀ k, fro a xs k ≤ 9223372036854775807
  | 0 => h
  | _ + 1 => (lat_bd _ _ _).2
theorem bak_le (a : Int) (xs : List Int) (h : a ≤ 9223372036854775807) : ∀ k, bak a xs k ≤ 9223372036854775807
  | 0 => h
  | _ + 1 => (lat_bd _ _ _).2
theorem nn_id (a : Int) (h : 0 ≤ a) : nn a = a := by have := nn_bd a; omega
theorem fro_eq (a : Int) (xs : List Int) (h : a ≤ 9223372036854775807) : ∀ k, k ≤ xs.length → nn (fro a xs k) = lat a xs k
  | 0, _ => by rw [lat_zero a xs h]; rfl
  | k + 1, hk => by
    have ih := fro_eq a xs h k (by omega)
    rw [lat_succ a xs k (by omega)]
    show nn (lat (fro a xs k) [xs.getD k 0] 1) = _
    rw [nn_id _ (lat_bd _ _ _).1, lat_one, ih]
theorem bak_eq (a : Int) (xs : List Int) (h : a ≤ 9223372036854775807) : ∀ k, k ≤ xs.length → nn (bak a xs k) = min (nn a + S (xs.drop (xs.length - k))) 9223372036854775807
  | 0, _ => by have := nn_le a h; simp [bak, S]; omega
  | k + 1, hk => by
    have ih := bak_eq a xs h k (by omega)
    have hd := drop_S xs (xs.length - 1 - k) (by omega)
    rw [show xs.length - 1 - k + 1 = xs.length - k by omega] at hd
    rw [show xs.length - (k + 1) = xs.length - 1 - k by omega, hd]
    show nn (lat (bak a xs k) [xs.getD (xs.length - 1 - k) 0] 1) = _
    have := nn_bd (xs.getD (xs.length - 1 - k) 0); have := nn_bd a
    rw [nn_id _ (lat_bd _ _ _).1, lat_one, ih]
    omega
theorem fro_end (a : Int) (xs : List Int) (h : a ≤ 9223372036854775807) : nn (fro a xs xs.length) = lat a xs xs.length := fro_eq a xs h _ (Nat.le_refl _)
theorem bak_end (a : Int) (xs : List Int) (h : a ≤ 9223372036854775807) : nn (bak a xs xs.length) = lat a xs xs.length := by
  rw [bak_eq a xs h _ (Nat.le_refl _)]; unfold lat; simp

theorem fro_zero (a : Int) (xs : List Int) : fro a xs 0 = a := rfl
theorem bak_zero (a : Int) (xs : List Int) : bak a xs 0 = a := rfl
theorem fro_succ (a : Int) (xs : List Int) (k : Nat) : lat (fro a xs k) [xs.getD k 0] 1 = fro a xs (k + 1) := rfl
theorem bak_succ (a : Int) (xs : List Int) (k : Nat) : lat (bak a xs k) [xs.getD (xs.length - 1 - k) 0] 1 = bak a xs (k + 1) := rfl
theorem lat_none (a : Int) (h : a ≤ 9223372036854775807) : lat a [] 0 = nn a := lat_zero a [] h

attribute [local irreducible] lat nn S fro bak

set_option maxHeartbeats 4000000 in
theorem sums_c (a : Int) (A : Option Addr) (n cap : Nat) (xs : List Int) (w : World) (ha : (Lit.int .i64 a).wf = true)
    (hr : Ints w w.heap.size A n xs) (hn : n * 8 ≤ 140737488351232) (_hw : ∀ x ∈ xs, (Lit.int .i64 x).wf = true) :
    Calls Try.prog 7 #[.int .i64 a, .slice A n cap] w fun e w' => e = .returned (.bool true) ∧ Below w.heap.size w w' := by
  have ha := (bounds_i64 ha).2
  have HR := Lib.hid hr
  clear hr _hw
  by_cases g : 40 < n
  · go_enter Try.func7, Try.ntmps7
    go_wp2_with (first | (go_at_call 11; refine (awake_c _).mono ?_; rintro e w' ⟨rfl, rfl⟩))
    go_ret
    exact ⟨rfl, Below.refl _ _⟩
  · go_enter Try.func7, Try.ntmps7
    go_wp2
    go_loopw [5, 6, 7] (fun u v i wr => ∃ k : Nat, k ≤ n ∧ i = .int .i64 k ∧ u = .int .i64 (fro a xs k) ∧ v = .int .i64 (bak a xs k) ∧ Below w.heap.size w wr) (fun _ _ i _ => n - (intOf i).toNat)
    case atStart => exact ⟨0, Nat.zero_le _, rfl, by rw [fro_zero], by rw [bak_zero], Below.refl _ _⟩
    case round =>
      obtain ⟨k, hk, rfl, rfl, rfl, hb⟩ := hrel
      have f1 := fro_le a xs ha k
      have f2 := bak_le a xs ha k
      have HB := Lib.hid hb
      clear hb
      by_cases hlt : k < n
      · obtain ⟨ad, rfl, hlt2, hc⟩ := (HR.out.below HB.out (Nat.le_refl _)).2 (by omega)
        have c1 := hc k hlt
        have c2 := hc (n - 1 - k) (by omega)
        clear hc
        have h1 : 0 ≤ (n : Int) - 1 - k := by omega
        have h2 : ((n : Int) - 1 - k).toNat = n - 1 - k := by omega
        have e1 := fro_succ a xs k
        have e2 := bak_succ a xs k
        rw [HR.out.1] at e2
        obtain ⟨x, hx⟩ : ∃ x, x = xs.getD k 0 := ⟨_, rfl⟩
        obtain ⟨y, hy⟩ : ∃ y, y = xs.getD (n - 1 - k) 0 := ⟨_, rfl⟩
        rw [← hx] at c1 e1
        rw [← hy] at c2 e2
        clear hx hy
        have E1 := Lib.hid e1
        have E2 := Lib.hid e2
        clear e1 e2
        have hsz : ad.block < wr.heap.size := Nat.lt_of_lt_of_le hlt2 HB.out.size
        have c3 : ∀ o, (wr.alloc o).cell? (ad.add (n - 1 - k)) = some (.int .i64 y) := fun o => (World.cell?_alloc_lt _ _ _ (by rw [block_of_add]; exact hsz)).trans c2
        clear c2
        go_wp2_with (go_at_call 15; with_reducible (first | refine (later_v _ _ _ _ _ _ _ (by omega) _ (one_cell _ _ _ (by simp)) (by omega) E1.out).mono ?_ | refine (later_v _ _ _ _ _ _ _ (by omega) _ (one_cell _ _ _ (by simp)) (by omega) E2.out).mono ?_); rintro e w' ⟨rfl, rfl⟩)
        go_roundw
        case rel => exact ⟨k + 1, by omega, by go_num, rfl, rfl, (HB.out.alloc HB.out.size _).alloc (by have := HB.out.size; simp; omega) _⟩
        case measure => simp [intOf]; omega
      · obtain rfl : k = n := by omega
        have E1 := fro_end a xs ha
        have E2 := bak_end a xs ha
        rw [HR.out.1] at E1 E2
        have hl := lat_bd a xs k
        have n1 := nn_bd (fro a xs k)
        have n2 := nn_bd (bak a xs k)
        have n3 := nn_bd a
        have t1 : (fro a xs k < 0 ∧ (lat a xs k == 0) = true) ∨ (0 ≤ fro a xs k ∧ (lat a xs k == fro a xs k) = true) := by
          rcases (show fro a xs k < 0 ∨ 0 ≤ fro a xs k by omega) with h | h
          · exact .inl ⟨h, beq_iff_eq.2 (by omega)⟩
          · exact .inr ⟨h, beq_iff_eq.2 (by omega)⟩
        have t2 : (bak a xs k < 0 ∧ (lat a xs k == 0) = true) ∨ (0 ≤ bak a xs k ∧ (lat a xs k == bak a xs k) = true) := by
          rcases (show bak a xs k < 0 ∨ 0 ≤ bak a xs k by omega) with h | h
          · exact .inl ⟨h, beq_iff_eq.2 (by omega)⟩
          · exact .inr ⟨h, beq_iff_eq.2 (by omega)⟩
        have t3 : (a < 0 ∧ (nn a == 0) = true) ∨ (0 ≤ a ∧ (nn a == a) = true) := by
          rcases (show a < 0 ∨ 0 ≤ a by omega) with h | h
          · exact .inl ⟨h, beq_iff_eq.2 (by omega)⟩
          · exact .inr ⟨h, beq_iff_eq.2 (by omega)⟩
        have HR2 := Lib.hid (HR.out.below HB.out (Nat.le_refl _))
        have HE : Hid (Ints wr 0 none 0 []) := ⟨rfl, fun h => absurd h (by omega)⟩
        have L0 := Lib.hid (lat_none a ha)
        clear E1 E2 n1 n2 n3
        rcases t1 with ⟨g1, q1⟩ | ⟨g1, q1⟩ <;> rcases t2 with ⟨g2, q2⟩ | ⟨g2, q2⟩ <;> rcases t3 with ⟨g3, q3⟩ | ⟨g3, q3⟩
        all_goals
          go_wp2_with (first | (go_at_call 11; refine (awake_c _).mono ?_; rintro e w' ⟨rfl, rfl⟩) | (go_at_call 15; with_reducible (first | refine (later_v _ _ _ _ _ _ _ ha _ HE.out (by omega) L0.out).mono ?_ | refine (later_c _ _ _ _ xs _ ha _ HR2.out (by omega)).mono ?_); rintro e w' ⟨rfl, rfl⟩))
          go_ret
          exact ⟨rfl, HB.out⟩
end Go.Proofs.Ytgaopepomfjjbaa.Fns
