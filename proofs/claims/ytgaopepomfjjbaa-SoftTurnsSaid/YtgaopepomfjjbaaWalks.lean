/- What each function of the package soft and of its reference does: it computes a number and leaves the world as it was; the numbers are ints, a list is within the form's reach. -/
import Derived.Test.YtgaopepomfjjbaaRows
import Derived.Test.YtgaopepomfjjbaaOpen
import Derived.WalkKit
import Derived.WalkSpells
import Derived.WalkLawsBesides
import Derived.Lib.Mul64
import Derived.Lib.Hide
import Derived.OpenShut
namespace Go.Proofs.Ytgaopepomfjjbaa.Fns
open Go Go.RowKit

/-- A number, 0 of one below. -/
def nn (a : Int) : Int := if a > 0 then a else 0
theorem nn_bd (a : Int) : 0 ≤ nn a ∧ a ≤ nn a ∧ (nn a = 0 ∨ nn a = a) := by unfold nn; split <;> omega
theorem nn_le (a : Int) (h : a ≤ 9223372036854775807) : nn a ≤ 9223372036854775807 := by unfold nn; split <;> omega
def idl (a b : Int) : Int := nn (nn a - nn b)
def lim (a b : Int) : Int := if nn a * nn b > 9223372036854775807 then 9223372036854775807 else nn a * nn b
theorem idl_bd (a b : Int) (h : a ≤ 9223372036854775807) : 0 ≤ idl a b ∧ idl a b ≤ 9223372036854775807 := by
  have h1 := nn_bd a; have h2 := nn_bd b; have h3 := nn_bd (nn a - nn b); have h4 := nn_le a h
  unfold idl; omega

theorem ret_int {k : IntKind} {a b : Int} (h : a = b) : Ending.returned (.int k a) = .returned (.int k b) := by rw [h]

theorem none_c (a : Int) (w : World) : Calls Try.prog 18 #[.int .i64 a] w fun e w' => e = .returned (.int .i64 (nn a)) ∧ w = w' := by
  go_enter Try.func18, Try.ntmps18
  go_wp2
  all_goals
    go_ret
    exact ⟨ret_int (by unfold nn; split <;> first | rfl | omega), rfl⟩

theorem idle_c (a b : Int) (w : World) (ha : a ≤ 9223372036854775807) (hb : b ≤ 9223372036854775807) :
    Calls Try.prog 8 #[.int .i64 a, .int .i64 b] w fun e w' => e = .returned (.int .i64 (idl a b)) ∧ w = w' := by
  have h1 := (nn_bd a).1
  have h2 := (nn_bd b).1
  have h3 := nn_le a ha
  have h4 := nn_le b hb
  go_enter Try.func8, Try.ntmps8
  go_wp2_with (go_at_call 18; refine (none_c _ _).mono ?_; rintro e w' ⟨rfl, rfl⟩)
  go_ret
  exact ⟨rfl, rfl⟩

theorem ridle_c (a b : Int) (w : World) (ha : a ≤ 9223372036854775807) (hb : b ≤ 9223372036854775807) :
    Calls Try.prog 12 #[.int .i64 a, .int .i64 b] w fun e w' => e = .returned (.int .i64 (idl a b)) ∧ w = w' := by
  have h1 := (nn_bd a).1
  have h2 := (nn_bd b).1
  have h3 := nn_le a ha
  have h4 := nn_le b hb
  obtain ⟨n1, hn1⟩ : ∃ n, n = nn a := ⟨_, rfl⟩
  obtain ⟨n2, hn2⟩ : ∃ n, n = nn b := ⟨_, rfl⟩
  have r1 : ∀ (ts : Array TypeId) (t : TypeId) (w : World), (Builtin.max_ ts t #[.int .i64 0, .int .i64 a]).run Try.prog w = .ok (.int .i64 n1) w := fun ts t w => by rw [hn1]; exact run_max_int2 ..
  have r2 : ∀ (ts : Array TypeId) (t : TypeId) (w : World), (Builtin.max_ ts t #[.int .i64 0, .int .i64 b]).run Try.prog w = .ok (.int .i64 n2) w := fun ts t w => by rw [hn2]; exact run_max_int2 ..
  go_enter Try.func12, Try.ntmps12
  go_wp2
  all_goals
    go_ret
    exact ⟨ret_int (by have := nn_bd (nn a - nn b); show _ = idl a b; unfold idl; omega), rfl⟩

theorem maskN (a : Nat) (ha : a < 18446744073709551616) : Go.bits .and .u64 (a : Int) 4294967295 = ((a % 4294967296 : Nat) : Int) := by
  have h := bits_and_u64_nat a 4294967295 ha (by omega)
  have e : a &&& 4294967295 = a % 4294967296 := Nat.and_two_pow_sub_one_eq_mod a 32
  rw [e] at h
  exact h
theorem divN (a : Nat) : (a : Int) / 4294967296 = ((a / 4294967296 : Nat) : Int) := by omega
theorem mulN (a b : Nat) : (a : Int) * (b : Int) = ((a * b : Nat) : Int) := (Int.natCast_mul a b).symm
theorem addN (a b : Nat) : (a : Int) + (b : Int) = ((a + b : Nat) : Int) := (Int.natCast_add a b).symm
theorem wrapN (a : Nat) (ha : a < 18446744073709551616) : IntKind.u64.wrap (a : Int) = (a : Int) := by rw [IntKind.wrap_u64]; omega
theorem wrapM (a : Nat) : IntKind.u64.wrap (a : Int) = ((a % 18446744073709551616 : Nat) : Int) := by rw [IntKind.wrap_u64]; omega


def mhi (p q : Int) : Int := p * q / 18446744073709551616
def mlo (p q : Int) : Int := p * q % 18446744073709551616
theorem mhl (p q : Int) (hp : 0 ≤ p) (hq : 0 ≤ q) : 0 ≤ mhi p q ∧ 0 ≤ mlo p q ∧ p * q = mhi p q * 18446744073709551616 + mlo p q ∧ mlo p q < 18446744073709551616 := by
  have := Int.mul_nonneg hp hq
  unfold mhi mlo; omega

set_option maxHeartbeats 1000000 in
theorem mul_n (x y : Nat) (hx : x < 18446744073709551616) (hy : y < 18446744073709551616) (w : World) :
    Calls Try.prog 19 #[.int .u64 x, .int .u64 y] w fun e w' => e = .returned (.tuple #[.int .u64 ((x * y / 18446744073709551616 : Nat) : Int), .int .u64 ((x * y % 18446744073709551616 : Nat) : Int)]) ∧ w = w' := by
  obtain ⟨bd, bt, bw, hhi⟩ := Lib.mul64_hi x y hx hy
  have ba := Lib.half_mul_le (a := x / 4294967296) (b := y / 4294967296) (by omega) (by omega)
  have bb := Lib.half_mul_le (a := x / 4294967296) (b := y % 4294967296) (by omega) (by omega)
  have bc := Lib.half_mul_le (a := x % 4294967296) (b := y / 4294967296) (by omega) (by omega)
  have ba' : x / 4294967296 * (y / 4294967296) < 18446744073709551616 := by omega
  have bb' : x / 4294967296 * (y % 4294967296) < 18446744073709551616 := by omega
  have bc' : x % 4294967296 * (y / 4294967296) < 18446744073709551616 := by omega
  have bh1 : x / 4294967296 * (y / 4294967296) + (x / 4294967296 * (y % 4294967296) + x % 4294967296 * (y % 4294967296) / 4294967296) / 4294967296 < 18446744073709551616 := by omega
  have bh : x / 4294967296 * (y / 4294967296) + (x / 4294967296 * (y % 4294967296) + x % 4294967296 * (y % 4294967296) / 4294967296) / 4294967296 + ((x / 4294967296 * (y % 4294967296) + x % 4294967296 * (y % 4294967296) / 4294967296) % 4294967296 + x % 4294967296 * (y / 4294967296)) / 4294967296 < 18446744073709551616 := by omega
  go_enter Try.func19, Try.ntmps19
  go_wp2
  simp only [maskN x hx, maskN y hy, divN, mulN, addN, wrapN _ bd, wrapN _ bb', wrapN _ bt, maskN _ bt, wrapN _ bc', wrapN _ bw, wrapN _ ba', wrapN _ bh1, wrapN _ bh, wrapM (x * y)]
  rw [hhi]
  go_ret2
  exact ⟨rfl, rfl⟩

theorem mul_c (p q : Int) (hp : 0 ≤ p) (hp1 : p ≤ 9223372036854775807) (hq : 0 ≤ q) (hq1 : q ≤ 9223372036854775807) (w : World) :
    Calls Try.prog 19 #[.int .u64 p, .int .u64 q] w fun e w' => e = .returned (.tuple #[.int .u64 (mhi p q), .int .u64 (mlo p q)]) ∧ w = w' := by
  obtain ⟨x, rfl⟩ := Int.eq_ofNat_of_zero_le hp
  obtain ⟨y, rfl⟩ := Int.eq_ofNat_of_zero_le hq
  have h1 : ((x * y / 18446744073709551616 : Nat) : Int) = mhi x y := by unfold mhi; rw [mulN]; omega
  have h2 : ((x * y % 18446744073709551616 : Nat) : Int) = mlo x y := by unfold mlo; rw [mulN]; omega
  have h := mul_n x y (by omega) (by omega) w
  rw [h1, h2] at h
  exact h

theorem limit_c (a b : Int) (w : World) (ha : a ≤ 9223372036854775807) (hb : b ≤ 9223372036854775807) :
    Calls Try.prog 9 #[.int .i64 a, .int .i64 b] w fun e w' => e = .returned (.int .i64 (lim a b)) ∧ w = w' := by
  have h1 := (nn_bd a).1
  have h2 := (nn_bd b).1
  have h3 := nn_le a ha
  have h4 := nn_le b hb
  have hm := mhl (nn a) (nn b) h1 h2
  obtain ⟨m1, m2, m3, m4⟩ := hm
  have M3 := Lib.hid m3
  have M4 := Lib.hid m4
  clear m3 m4
  by_cases g : 0 < mhi (nn a) (nn b)
  · go_enter Try.func9, Try.ntmps9
    go_wp2_with (first | (go_at_call 18; refine (none_c _ _).mono ?_; rintro e w' ⟨rfl, rfl⟩) | (go_at_call 19; refine (mul_c _ _ h1 h3 h2 h4 _).mono ?_; rintro e w' ⟨rfl, rfl⟩))
    go_ret
    exact ⟨ret_int (by have := M3.out; have := M4.out; show _ = lim a b; unfold lim; rw [if_pos (by omega)]), rfl⟩
  · by_cases g2 : 9223372036854775807 < mlo (nn a) (nn b)
    · go_enter Try.func9, Try.ntmps9
      go_wp2_with (first | (go_at_call 18; refine (none_c _ _).mono ?_; rintro e w' ⟨rfl, rfl⟩) | (go_at_call 19; refine (mul_c _ _ h1 h3 h2 h4 _).mono ?_; rintro e w' ⟨rfl, rfl⟩))
      go_ret
      exact ⟨ret_int (by have := M3.out; have := M4.out; show _ = lim a b; unfold lim; rw [if_pos (by omega)]), rfl⟩
    · go_enter Try.func9, Try.ntmps9
      go_wp2_with (first | (go_at_call 18; refine (none_c _ _).mono ?_; rintro e w' ⟨rfl, rfl⟩) | (go_at_call 19; refine (mul_c _ _ h1 h3 h2 h4 _).mono ?_; rintro e w' ⟨rfl, rfl⟩))
      go_ret
      exact ⟨ret_int (by have := M3.out; have := M4.out; show mlo (nn a) (nn b) = lim a b; unfold lim; rw [if_neg (by omega)]; omega), rfl⟩

theorem div_lt (a b : Int) (hb : 0 < b) (h : 9223372036854775807 / b < a) : 9223372036854775807 < a * b := by
  have := (Int.ediv_lt_iff_lt_mul hb).1 h
  omega
theorem div_le (a b : Int) (hb : 0 < b) (h : a ≤ 9223372036854775807 / b) : a * b ≤ 9223372036854775807 :=
  (Int.le_ediv_iff_mul_le hb).1 h

theorem rlimit_c (a b : Int) (w : World) (ha : a ≤ 9223372036854775807) (hb : b ≤ 9223372036854775807) :
    Calls Try.prog 13 #[.int .i64 a, .int .i64 b] w fun e w' => e = .returned (.int .i64 (lim a b)) ∧ w = w' := by
  have na := nn_bd a
  have nb := nn_bd b
  by_cases ga : 0 < a
  · by_cases gb : 0 < b
    · have hl : lim a b = if a * b > 9223372036854775807 then 9223372036854775807 else a * b := by unfold lim; rw [show nn a = a by omega, show nn b = b by omega]
      have HL := Lib.hid hl
      clear hl na nb
      by_cases gq : 9223372036854775807 / b < a
      · have hx := div_lt a b gb gq
        go_enter Try.func13, Try.ntmps13
        go_wp2
        go_ret
        exact ⟨ret_int (by rw [HL.out, if_pos hx]), rfl⟩
      · have hx := div_le a b gb (by omega)
        have hx0 : 0 ≤ a * b := Int.mul_nonneg (by omega) (by omega)
        go_enter Try.func13, Try.ntmps13
        go_wp2
        go_ret
        exact ⟨ret_int (by rw [HL.out, if_neg (by omega)]), rfl⟩
    · have hl : lim a b = 0 := by unfold lim; rw [show nn b = 0 by omega, Int.mul_zero]; rfl
      have HL := Lib.hid hl
      clear hl na nb
      go_enter Try.func13, Try.ntmps13
      go_wp2
      go_ret
      exact ⟨ret_int (by rw [HL.out]), rfl⟩
  · have hl : lim a b = 0 := by unfold lim; rw [show nn a = 0 by omega, Int.zero_mul]; rfl
    have HL := Lib.hid hl
    clear hl na nb
    by_cases gb : 0 < b
    · have gq : ¬ 9223372036854775807 / b < 0 := by
        have : 0 ≤ 9223372036854775807 / b := Int.ediv_nonneg (by omega) (by omega)
        omega
      go_enter Try.func13, Try.ntmps13
      go_wp2
      go_ret
      exact ⟨ret_int (by rw [HL.out]), rfl⟩
    · go_enter Try.func13, Try.ntmps13
      go_wp2
      go_ret
      exact ⟨ret_int (by rw [HL.out]), rfl⟩

theorem keep_c (a b c d : Int) (w : World) (ha : a ≤ 9223372036854775807) (hb : b ≤ 9223372036854775807) (hc : c ≤ 9223372036854775807) (hd : d ≤ 9223372036854775807) :
    Calls Try.prog 10 #[.int .i64 a, .int .i64 b, .int .i64 c, .int .i64 d] w fun e w' => e = .returned (.bool (decide (idl a b ≤ lim c d))) ∧ w = w' := by
  go_enter Try.func10, Try.ntmps10
  go_wp2_with (first | (go_at_call 8; refine (idle_c _ _ _ ha hb).mono ?_; rintro e w' ⟨rfl, rfl⟩) | (go_at_call 9; refine (limit_c _ _ _ hc hd).mono ?_; rintro e w' ⟨rfl, rfl⟩))
  go_ret
  exact ⟨rfl, rfl⟩

theorem rkeep_c (a b c d : Int) (w : World) (ha : a ≤ 9223372036854775807) (hb : b ≤ 9223372036854775807) (hc : c ≤ 9223372036854775807) (hd : d ≤ 9223372036854775807) :
    Calls Try.prog 14 #[.int .i64 a, .int .i64 b, .int .i64 c, .int .i64 d] w fun e w' => e = .returned (.bool (decide (idl a b ≤ lim c d))) ∧ w = w' := by
  go_enter Try.func14, Try.ntmps14
  go_wp2_with (first | (go_at_call 12; refine (ridle_c _ _ _ ha hb).mono ?_; rintro e w' ⟨rfl, rfl⟩) | (go_at_call 13; refine (rlimit_c _ _ _ hc hd).mono ?_; rintro e w' ⟨rfl, rfl⟩))
  go_ret
  exact ⟨rfl, rfl⟩

theorem awake_c (w : World) : Calls Try.prog 11 #[] w fun e w' => e = .returned (.bool true) ∧ w = w' := by
  have e1 : lim 9223372036854775807 2 = 9223372036854775807 := by decide
  have e2 : idl 7 3 = 4 := by decide
  have e3 : decide (idl 9 0 ≤ lim 4 2) = false := by decide
  have E1 := Lib.hid e1
  have E2 := Lib.hid e2
  have E3 := Lib.hid e3
  clear e1 e2 e3
  go_enter Try.func11, Try.ntmps11
  go_wp2_with (first | (go_at_call 9; refine (limit_c _ _ _ (by omega) (by omega)).mono ?_; rintro e w' ⟨rfl, rfl⟩; rw [E1.out]) | (go_at_call 8; refine (idle_c _ _ _ (by omega) (by omega)).mono ?_; rintro e w' ⟨rfl, rfl⟩; rw [E2.out]) | (go_at_call 10; refine (keep_c _ _ _ _ _ (by omega) (by omega) (by omega) (by omega)).mono ?_; rintro e w' ⟨rfl, rfl⟩; rw [E3.out]))
  go_ret
  exact ⟨rfl, rfl⟩

/-- The sum of what is above 0. -/
def S : List Int → Int
  | [] => 0
  | x :: xs => nn x + S xs
theorem S_pos : ∀ l, 0 ≤ S l
  | [] => by simp [S]
  | x :: xs => by have := S_pos xs; have := nn_bd x; simp only [S]; omega
theorem S_append : ∀ l m, S (l ++ m) = S l + S m
  | [], m => by simp [S]
  | x :: xs, m => by simp only [List.cons_append, S, S_append xs m]; omega
theorem take_S (xs : List Int) (n : Nat) (h : n < xs.length) : S (xs.take (n + 1)) = S (xs.take n) + nn (xs.getD n 0) := by
  rw [List.take_succ_eq_append_getElem h, S_append]
  simp [S, List.getD_eq_getElem?_getD, List.getElem?_eq_getElem h]
/-- A clock later by the first k of a list's numbers. -/
def lat (a : Int) (xs : List Int) (k : Nat) : Int := min (nn a + S (xs.take k)) 9223372036854775807
theorem lat_bd (a : Int) (xs : List Int) (k : Nat) : 0 ≤ lat a xs k ∧ lat a xs k ≤ 9223372036854775807 := by
  have := nn_bd a; have := S_pos (xs.take k)
  unfold lat; omega
theorem lat_zero (a : Int) (xs : List Int) (h : a ≤ 9223372036854775807) : lat a xs 0 = nn a := by
  have := nn_le a h
  unfold lat; simp [S]; omega
theorem lat_succ (a : Int) (xs : List Int) (k : Nat) (h : k < xs.length) : lat a xs (k + 1) = min (lat a xs k + nn (xs.getD k 0)) 9223372036854775807 := by
  have := nn_bd (xs.getD k 0)
  unfold lat; rw [take_S xs k h]; omega
theorem lat_full (a : Int) (xs : List Int) (k : Nat) (h : k < xs.length) (hf : 9223372036854775807 - lat a xs k < nn (xs.getD k 0)) (n : Nat) (hn : k < n) : lat a xs n = 9223372036854775807 := by
  have h1 := lat_succ a xs k h
  have h2 : S (xs.take (k + 1)) ≤ S (xs.take n) := by
    rw [show xs.take n = xs.take (k + 1) ++ (xs.take n).drop (k + 1) by
      rw [show xs.take (k + 1) = (xs.take n).take (k + 1) by rw [List.take_take, Nat.min_eq_left (by omega)], List.take_append_drop], S_append]
    have := S_pos ((xs.take n).drop (k + 1))
    omega
  unfold lat at *
  omega

theorem later_c (a : Int) (A : Option Addr) (n c : Nat) (xs : List Int) (w : World) (ha : a ≤ 9223372036854775807) (B : Nat) (hr : Ints w B A n xs) (hn : n ≤ 140737488351232) :
    Calls Try.prog 15 #[.int .i64 a, .slice A n c] w fun e w' => e = .returned (.int .i64 (lat a xs n)) ∧ w = w' := by
  obtain ⟨hl, hr⟩ := hr
  have HL := Lib.hid hl
  have HR := Lib.hid hr
  have Z := Lib.hid (lat_zero a xs ha)
  clear hl hr
  go_enter Try.func15, Try.ntmps15
  go_wp2_with (go_at_call 18; refine (none_c _ _).mono ?_; rintro e w' ⟨rfl, rfl⟩)
  go_loop [0, 11] (fun v i => ∃ k : Nat, k ≤ n ∧ i = .int .i64 k ∧ v = .int .i64 (lat a xs k)) (fun _ i => n - (intOf i).toNat)
  case atStart => exact ⟨0, Nat.zero_le _, rfl, by rw [Z.out]⟩
  case round =>
    obtain ⟨k, hk, rfl, rfl⟩ := hrel
    have hb := lat_bd a xs k
    by_cases hlt : k < n
    · obtain ⟨ad, rfl, _, hc⟩ := HR.out (by omega)
      have hcell := hc k hlt
      clear hc
      obtain ⟨x, hx⟩ : ∃ x, x = xs.getD k 0 := ⟨_, rfl⟩
      have HS := Lib.hid (lat_succ a xs k (by have := HL.out; omega))
      rw [← hx] at hcell HS
      clear hx
      have hx1 := (nn_bd x).1
      by_cases g : 9223372036854775807 - lat a xs k < nn x
      all_goals
        go_wp2_with (go_at_call 18; refine (none_c _ _).mono ?_; rintro e w' ⟨rfl, rfl⟩)
        go_round
        case rel => exact ⟨k + 1, by omega, by go_num, by rw [HS.out]; go_num⟩
        case measure => simp [intOf]; omega
    · go_wp2
      go_ret
      exact ⟨ret_int (by rw [show k = n by omega]), rfl⟩

theorem rlater_c (a : Int) (A : Option Addr) (n c : Nat) (xs : List Int) (w : World) (ha : a ≤ 9223372036854775807) (B : Nat) (hr : Ints w B A n xs) (hn : n ≤ 140737488351232) :
    Calls Try.prog 16 #[.int .i64 a, .slice A n c] w fun e w' => e = .returned (.int .i64 (lat a xs n)) ∧ w = w' := by
  obtain ⟨hl, hr⟩ := hr
  have HL := Lib.hid hl
  have HR := Lib.hid hr
  have Z := Lib.hid (lat_zero a xs ha)
  clear hl hr
  by_cases ga : 0 < a
  all_goals
    go_enter Try.func16, Try.ntmps16
    go_wp2
    go_loop [5, 6] (fun v i => ∃ k : Nat, k ≤ n ∧ i = .int .i64 k ∧ v = .int .i64 (lat a xs k)) (fun _ i => n - (intOf i).toNat)
    case atStart => exact ⟨0, Nat.zero_le _, rfl, by rw [Z.out]; unfold nn; first | rw [if_pos ga] | rw [if_neg (by omega)]⟩
    case round =>
      obtain ⟨k, hk, rfl, rfl⟩ := hrel
      have hb := lat_bd a xs k
      by_cases hlt : k < n
      · obtain ⟨ad, rfl, _, hc⟩ := HR.out (by omega)
        have hcell := hc k hlt
        clear hc
        obtain ⟨x, hx⟩ : ∃ x, x = xs.getD k 0 := ⟨_, rfl⟩
        have hs := lat_succ a xs k (by have := HL.out; omega)
        have hf := lat_full a xs k (by have := HL.out; omega)
        rw [← hx] at hcell hs hf
        clear hx
        have HS := Lib.hid hs
        have HF := Lib.hid hf
        clear hs hf
        have N := Lib.hid (nn_bd x)
        by_cases gx : 0 < x
        · by_cases g : 9223372036854775807 - lat a xs k < x
          · go_wp2
            go_ret
            exact ⟨ret_int (by rw [HF.out (by have := N.out; omega) n hlt]), rfl⟩
          · go_wp2
            go_round
            case rel => exact ⟨k + 1, by omega, by go_num, by rw [HS.out]; have := N.out; go_num⟩
            case measure => simp [intOf]; omega
        · have g : ¬ 9223372036854775807 - lat a xs k < 0 := by omega
          go_wp2
          go_round
          case rel => exact ⟨k + 1, by omega, by go_num, by rw [HS.out]; have := N.out; go_num⟩
          case measure => simp [intOf]; omega
      · go_wp2
        go_ret
        exact ⟨ret_int (by rw [show k = n by omega]), rfl⟩
end Go.Proofs.Ytgaopepomfjjbaa.Fns
