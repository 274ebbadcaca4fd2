/- SoftTurns answers true: kept is what is idle no longer than its limit, idle is what lies between and never below 0; for all ints. -/
import Derived.Test.YtgaopepomfjjbaaWalks
namespace Go.Proofs.Ytgaopepomfjjbaa.Fns
open Go Go.RowKit

theorem limit_v (a b v : Int) (w : World) (ha : a ≤ 9223372036854775807) (hb : b ≤ 9223372036854775807) (h : lim a b = v) :
    Calls Try.prog 9 #[.int .i64 a, .int .i64 b] w fun e w' => e = .returned (.int .i64 v) ∧ w = w' := by
  rw [← h]; exact limit_c a b w ha hb
theorem idle_v (a b v : Int) (w : World) (ha : a ≤ 9223372036854775807) (hb : b ≤ 9223372036854775807) (h : idl a b = v) :
    Calls Try.prog 8 #[.int .i64 a, .int .i64 b] w fun e w' => e = .returned (.int .i64 v) ∧ w = w' := by
  rw [← h]; exact idle_c a b w ha hb
theorem keep_v (a b c d x y : Int) (w : World) (ha : a ≤ 9223372036854775807) (hb : b ≤ 9223372036854775807) (hc : c ≤ 9223372036854775807) (hd : d ≤ 9223372036854775807) (h : idl a b = x) (h' : lim c d = y) :
    Calls Try.prog 10 #[.int .i64 a, .int .i64 b, .int .i64 c, .int .i64 d] w fun e w' => e = .returned (.bool (decide (x ≤ y))) ∧ w = w' := by
  rw [← h, ← h']; exact keep_c a b c d w ha hb hc hd
theorem lim_cases (a b : Int) (ha : a ≤ 9223372036854775807) (hb : b ≤ 9223372036854775807) :
    (a ≤ 0 ∧ lim a b = 0) ∨ (0 < a ∧ b ≤ 0 ∧ lim a b = 0) ∨ (0 < a ∧ 0 < b ∧ 0 ≤ lim a b ∧ a ≤ lim a b ∧ b ≤ lim a b) := by
  have h1 := nn_bd a; have h2 := nn_bd b
  rcases (show a ≤ 0 ∨ 0 < a by omega) with g | g
  · exact .inl ⟨g, by unfold lim; rw [show nn a = 0 by omega, Int.zero_mul]; rfl⟩
  rcases (show b ≤ 0 ∨ 0 < b by omega) with g' | g'
  · exact .inr (.inl ⟨g, g', by unfold lim; rw [show nn b = 0 by omega, Int.mul_zero]; rfl⟩)
  · have t1 : a * 1 ≤ a * b := Int.mul_le_mul_of_nonneg_left (by omega) (by omega)
    have t2 : 1 * b ≤ a * b := Int.mul_le_mul_of_nonneg_right (by omega) (by omega)
    rw [Int.mul_one] at t1; rw [Int.one_mul] at t2
    have e : lim a b = if a * b > 9223372036854775807 then 9223372036854775807 else a * b := by unfold lim; rw [show nn a = a by omega, show nn b = b by omega]
    exact .inr (.inr ⟨g, g', by rw [e]; split <;> omega, by rw [e]; split <;> omega, by rw [e]; split <;> omega⟩)
theorem idl_cases (a b : Int) :
    (a < 0 ∧ b < 0 ∧ idl a b = 0) ∨ (a < 0 ∧ 0 ≤ b ∧ idl a b = 0) ∨ (0 ≤ a ∧ b < 0 ∧ 0 < a ∧ idl a b = a) ∨ (a = 0 ∧ b < 0 ∧ idl a b = 0) ∨ (0 ≤ a ∧ 0 ≤ b ∧ b < a ∧ idl a b = a - b) ∨ (0 ≤ a ∧ 0 ≤ b ∧ a ≤ b ∧ idl a b = 0) := by
  have h1 := nn_bd a; have h2 := nn_bd b; have h3 := nn_bd (nn a - nn b)
  unfold idl; omega

attribute [local irreducible] lim idl nn

set_option maxHeartbeats 4000000 in
theorem turns_c (a b c d : Int) (w : World) (ha : (Lit.int .i64 a).wf = true) (hb : (Lit.int .i64 b).wf = true) (hc : (Lit.int .i64 c).wf = true) (hd : (Lit.int .i64 d).wf = true) :
    Calls Try.prog 3 #[.int .i64 a, .int .i64 b, .int .i64 c, .int .i64 d] w fun e w' => e = .returned (.bool true) ∧ Below w.heap.size w w' := by
  obtain ⟨ha0, ha⟩ := bounds_i64 ha
  obtain ⟨hb0, hb⟩ := bounds_i64 hb
  obtain ⟨hc0, hc⟩ := bounds_i64 hc
  obtain ⟨hd0, hd⟩ := bounds_i64 hd
  rcases lim_cases c d hc hd with ⟨g, hl⟩ | ⟨g, g', hl⟩ | ⟨g, g', l0, l1, l2⟩
  · have HL := Lib.hid hl
    clear hl
    rcases idl_cases a b with ⟨i, j, hi⟩ | ⟨i, j, hi⟩ | ⟨i, j, k, hi⟩ | ⟨rfl, j, hi⟩ | ⟨i, j, k, hi⟩ | ⟨i, j, k, hi⟩
    all_goals
      have HI := Lib.hid hi
      clear hi
      go_enter Try.func3, Try.ntmps3
      go_wp2_with (first | (go_at_call 11; refine (awake_c _).mono ?_; rintro e w' ⟨rfl, rfl⟩) | (go_at_call 8; refine (idle_v _ _ _ _ ha hb HI.out).mono ?_; rintro e w' ⟨rfl, rfl⟩) | (go_at_call 9; refine (limit_v _ _ _ _ hc hd HL.out).mono ?_; rintro e w' ⟨rfl, rfl⟩) | (go_at_call 10; refine (keep_v _ _ _ _ _ _ _ ha hb hc hd HI.out HL.out).mono ?_; rintro e w' ⟨rfl, rfl⟩))
      go_ret
      exact ⟨rfl, Below.refl _ _⟩
  · have HL := Lib.hid hl
    clear hl
    rcases idl_cases a b with ⟨i, j, hi⟩ | ⟨i, j, hi⟩ | ⟨i, j, k, hi⟩ | ⟨rfl, j, hi⟩ | ⟨i, j, k, hi⟩ | ⟨i, j, k, hi⟩
    all_goals
      have HI := Lib.hid hi
      clear hi
      go_enter Try.func3, Try.ntmps3
      go_wp2_with (first | (go_at_call 11; refine (awake_c _).mono ?_; rintro e w' ⟨rfl, rfl⟩) | (go_at_call 8; refine (idle_v _ _ _ _ ha hb HI.out).mono ?_; rintro e w' ⟨rfl, rfl⟩) | (go_at_call 9; refine (limit_v _ _ _ _ hc hd HL.out).mono ?_; rintro e w' ⟨rfl, rfl⟩) | (go_at_call 10; refine (keep_v _ _ _ _ _ _ _ ha hb hc hd HI.out HL.out).mono ?_; rintro e w' ⟨rfl, rfl⟩))
      go_ret
      exact ⟨rfl, Below.refl _ _⟩
  · rcases idl_cases a b with ⟨i, j, hi⟩ | ⟨i, j, hi⟩ | ⟨i, j, k, hi⟩ | ⟨rfl, j, hi⟩ | ⟨i, j, k, hi⟩ | ⟨i, j, k, hi⟩
    all_goals
      have HI := Lib.hid hi
      clear hi
      go_enter Try.func3, Try.ntmps3
      go_wp2_with (first | (go_at_call 11; refine (awake_c _).mono ?_; rintro e w' ⟨rfl, rfl⟩) | (go_at_call 8; refine (idle_v _ _ _ _ ha hb HI.out).mono ?_; rintro e w' ⟨rfl, rfl⟩) | (go_at_call 9; refine (limit_c _ _ _ hc hd).mono ?_; rintro e w' ⟨rfl, rfl⟩) | (go_at_call 10; refine (keep_v _ _ _ _ _ _ _ ha hb hc hd HI.out rfl).mono ?_; rintro e w' ⟨rfl, rfl⟩))
      go_ret
      exact ⟨rfl, Below.refl _ _⟩
end Go.Proofs.Ytgaopepomfjjbaa.Fns
