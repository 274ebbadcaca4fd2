/- Hold, Held and Drop. -/
import Derived.Test.YtembjpfgoogbgaaBase
namespace Go.Proofs.Ytembjpfgoogbgaa.Fns
open Go Go.RowKit

theorem find_nil (w : World) (x : Int) : Calls Try.prog 24 #[.pointer none, .int .i64 x] w fun e w' => e = .returned (.tuple #[.int .i64 0, .bool false]) ∧ w = w' := by
  go_enter Try.func24, Try.ntmps24
  go_wp2
  refine bodyPost_ret (v := .tuple #[.int .i64 0, .bool false]) (by simp [results, Try.results24, go_sem]) rfl ⟨rfl, rfl⟩
theorem held_nil (w : World) (x : Int) : Calls Try.prog 17 #[.pointer none, .int .i64 x] w fun e w' => e = .returned (.tuple #[.int .i64 0, .int .i64 6]) ∧ w = w' := by
  go_enter Try.func17, Try.ntmps17
  go_wp2_with (go_at_call 24; refine (find_nil _ _).mono ?_; rintro e w' ⟨rfl, rfl⟩)
  refine bodyPost_ret (v := .tuple #[.int .i64 0, .int .i64 6]) (by simp [results, Try.results17, go_sem]) rfl ⟨rfl, rfl⟩
theorem drop_nil (w : World) (x : Int) : Calls Try.prog 15 #[.pointer none, .int .i64 x] w fun e w' => e = .returned (.int .i64 6) ∧ w = w' := by
  go_enter Try.func15, Try.ntmps15
  go_wp2_with (go_at_call 24; refine (find_nil _ _).mono ?_; rintro e w' ⟨rfl, rfl⟩)
  go_ret
  exact ⟨rfl, rfl⟩
theorem hold_nil (w : World) (x : Int) : Calls Try.prog 12 #[.pointer none, .int .i64 x] w fun e w' => e = .returned (.tuple #[.int .i64 0, .int .i64 3]) ∧ w = w' := by
  go_enter Try.func12, Try.ntmps12
  go_wp2
  refine bodyPost_ret (v := .tuple #[.int .i64 0, .int .i64 3]) (by simp [results, Try.results12, go_sem]) rfl ⟨rfl, rfl⟩

theorem hold_bad (w : World) (g : Nat) (x : Int) (hx : x < 1) :
    Calls Try.prog 12 #[.pointer (some ⟨g, 0, none⟩), .int .i64 x] w fun e w' => e = .returned (.tuple #[.int .i64 0, .int .i64 1]) ∧ w = w' := by
  have d : decide (x < 1) = true := by simpa using hx
  go_enter Try.func12, Try.ntmps12
  go_wp2
  refine bodyPost_ret (v := .tuple #[.int .i64 0, .int .i64 1]) (by simp [results, Try.results12, go_sem]) rfl ⟨rfl, rfl⟩
section
variable (w : World) {g : Nat} {T A : Nat → Int} (h : Hs w g T A)
include h
theorem held_no (x : Int) (hx : x ≤ 9223372036854775807) (hf : fnd T A x = false) :
    Calls Try.prog 17 #[.pointer (some ⟨g, 0, none⟩), .int .i64 x] w fun e w' => e = .returned (.tuple #[.int .i64 0, .int .i64 6]) ∧ w = w' := by
  have H := Lib.hid h
  have HF := Lib.hid hf
  clear h hf
  go_enter Try.func17, Try.ntmps17
  go_wp2_with (go_at_call 24; refine (find_c _ H.out x hx false HF.out).mono ?_; rintro e w' ⟨i, rfl, _, rfl⟩)
  refine bodyPost_ret (v := .tuple #[.int .i64 0, .int .i64 6]) (by simp [results, Try.results17, go_sem]) rfl ⟨rfl, rfl⟩
theorem held_yes (x : Int) (hx : x ≤ 9223372036854775807) (hf : fnd T A x = true) (z : Int) (hz : A (x % 512).toNat = z) :
    Calls Try.prog 17 #[.pointer (some ⟨g, 0, none⟩), .int .i64 x] w fun e w' => e = .returned (.tuple #[.int .i64 z, .int .i64 0]) ∧ w = w' := by
  have H := Lib.hid h
  have HF := Lib.hid hf
  obtain ⟨i, hi⟩ : ∃ i : Nat, x % 512 = (i : Int) := ⟨(x % 512).toNat, by omega⟩
  have hi5 : i < 512 := by omega
  rw [hi, Int.toNat_natCast] at hz
  have ka := h.a i hi5
  rw [hz] at ka
  have HI := Lib.hid hi
  have g1 : (0 : Int) ≤ (i : Int) := by omega
  have g2 : (i : Int) < 512 := by omega
  clear h hf hi hz
  go_enter Try.func17, Try.ntmps17
  go_wp2_with (go_at_call 24; refine (find_c _ H.out x hx true HF.out).mono ?_; rintro e w' ⟨i', rfl, hi', rfl⟩; obtain rfl : i' = (i : Int) := (hi' rfl).trans HI.out; clear hi')
  refine bodyPost_ret (v := .tuple #[.int .i64 z, .int .i64 0]) (by simp [results, Try.results17, go_sem]) rfl ⟨rfl, rfl⟩
theorem drop_no (x : Int) (hx : x ≤ 9223372036854775807) (hf : fnd T A x = false) :
    Calls Try.prog 15 #[.pointer (some ⟨g, 0, none⟩), .int .i64 x] w fun e w' => e = .returned (.int .i64 6) ∧ w = w' := by
  have H := Lib.hid h
  have HF := Lib.hid hf
  clear h hf
  go_enter Try.func15, Try.ntmps15
  go_wp2_with (go_at_call 24; refine (find_c _ H.out x hx false HF.out).mono ?_; rintro e w' ⟨i, rfl, _, rfl⟩)
  go_ret
  exact ⟨rfl, rfl⟩
theorem drop_yes (x : Int) (hx : x ≤ 9223372036854775807) (hf : fnd T A x = true) (i : Nat) (hi : x % 512 = (i : Int)) (ht : T i < 1000000) :
    Calls Try.prog 15 #[.pointer (some ⟨g, 0, none⟩), .int .i64 x] w fun e w' => e = .returned (.int .i64 0) ∧ Hs w' g (put T i (T i + 1)) (put A i 0) ∧ Frame w w' (fun k => k = g) := by
  have H := Lib.hid h
  have HF := Lib.hid hf
  have hi5 : i < 512 := by omega
  have ka := h.a i hi5
  have fa := h.fr (i * 2 + 1)
  have HI := Lib.hid hi
  have hT := h.turns i hi5
  have g1 : (0 : Int) ≤ (i : Int) := by omega
  have g2 : (i : Int) < 512 := by omega
  have H1 := Lib.hid (h.setA i 0)
  have H2 := Lib.hid ((h.setA i 0).setT i (T i + 1) (by omega))
  have FR := Lib.hid ((Frame.refl w (fun k => k = g)).setCell (p := ⟨g, i * 2 + 1, none⟩) (fun _ => rfl) (.int .i64 0) |>.setCell (p := ⟨g, i * 2, none⟩) (fun _ => rfl) (.int .i64 (T i + 1)))
  clear h hf hi
  go_enter Try.func15, Try.ntmps15
  go_wp2_with (first
    | (go_at_call 24; refine (find_c _ H.out x hx true HF.out).mono ?_; rintro e w' ⟨i', rfl, hi', rfl⟩; obtain rfl : i' = (i : Int) := (hi' rfl).trans HI.out; clear hi')
    | (go_at_call 25; refine (next_c _ _ (T i) (H1.out.t i hi5) (H1.out.fr _) (by omega)).mono ?_; rintro e w' ⟨rfl, rfl⟩))
  go_ret
  exact ⟨rfl, H2.out, FR.out⟩
theorem hold_full (x : Int) (hx : 1 ≤ x) (hA : ∀ i, i < 512 → A i ≠ 0) :
    Calls Try.prog 12 #[.pointer (some ⟨g, 0, none⟩), .int .i64 x] w fun e w' => e = .returned (.tuple #[.int .i64 0, .int .i64 3]) ∧ w = w' := by
  have d : decide (x < 1) = false := by simp; omega
  have H := Lib.hid h
  have HA := Lib.hid hA
  clear h hA
  go_enter Try.func12, Try.ntmps12
  go_wp2
  go_loopw [6, 13] (fun iv i wr => ∃ (j : Nat), j ≤ 512 ∧ i = .int .i64 (j : Int) ∧ wr = w) (fun _ i _ => 512 - (intOf i).toNat)
  case atStart => exact ⟨0, by omega, rfl, rfl⟩
  case round =>
    obtain ⟨j, hj, rfl, rfl⟩ := hrel
    by_cases hlt : j < 512
    · have dj : decide ((j : Int) < 512) = true := by simp; omega
      have dj2 : decide (j < 512) = true := by simp; omega
      have ka := H.out.a j hlt
      have e0 : (A j == 0) = false := by simpa using HA.out j hlt
      have g1 : (0 : Int) ≤ (j : Int) := by omega
      have g2 : (j : Int) < 512 := by omega
      go_wp2
      go_roundw
      case rel => exact ⟨j + 1, by omega, by first | go_num | trivial, by first | rfl | trivial⟩
      case measure => simp [intOf]; omega
    · obtain rfl : j = 512 := by omega
      have dj : decide ((512 : Int) < 512) = false := rfl
      go_wp2
      refine bodyPost_ret (v := .tuple #[.int .i64 0, .int .i64 3]) (by simp [results, Try.results12, go_sem]) rfl ⟨rfl, rfl⟩
theorem hold_ok (x : Int) (hx : 1 ≤ x) (k : Nat) (hk : k < 512) (hA : ∀ i, i < k → A i ≠ 0) (h0 : A k = 0) (z : Int) (hz : tell T k = z) :
    Calls Try.prog 12 #[.pointer (some ⟨g, 0, none⟩), .int .i64 x] w fun e w' => e = .returned (.tuple #[.int .i64 z, .int .i64 0]) ∧ Hs w' g T (put A k x) ∧ Frame w w' (fun b => b = g) := by
  have d : decide (x < 1) = false := by simp; omega
  have H := Lib.hid h
  have HA := Lib.hid hA
  have HZ := Lib.hid hz
  have H0 := Lib.hid h0
  clear h hA hz h0
  go_enter Try.func12, Try.ntmps12
  go_wp2
  go_loopw [6, 13] (fun iv i wr => ∃ (j : Nat), j ≤ k ∧ i = .int .i64 (j : Int) ∧ wr = w) (fun _ i _ => 512 - (intOf i).toNat)
  case atStart => exact ⟨0, by omega, rfl, rfl⟩
  case round =>
    obtain ⟨j, hj, rfl, rfl⟩ := hrel
    have dj : decide ((j : Int) < 512) = true := by simp; omega
    have dj2 : decide (j < 512) = true := by simp; omega
    have ka := H.out.a j (by omega)
    have g1 : (0 : Int) ≤ (j : Int) := by omega
    have g2 : (j : Int) < 512 := by omega
    by_cases hlt : j < k
    · have e0 : (A j == 0) = false := by simpa using HA.out j hlt
      go_wp2
      go_roundw
      case rel => exact ⟨j + 1, by omega, by first | go_num | trivial, by first | rfl | trivial⟩
      case measure => simp [intOf]; omega
    · obtain rfl : j = k := by omega
      have e0 : (A j == 0) = true := by simpa using H0.out
      have fa := H.out.fr (j * 2 + 1)
      have H1 := Lib.hid (H.out.setA j x)
      have FR := Lib.hid ((Frame.refl wr (fun b => b = g)).setCell (p := ⟨g, j * 2 + 1, none⟩) (fun _ => rfl) (.int .i64 x))
      go_wp2_with (go_at_call 23; refine (told_c _ H1.out j hk).mono ?_; rintro e w' ⟨rfl, rfl⟩; rw [HZ.out])
      refine bodyPost_ret (v := .tuple #[.int .i64 z, .int .i64 0]) (by simp [results, Try.results12, go_sem]) rfl ⟨rfl, H1.out, FR.out⟩
end
end Go.Proofs.Ytembjpfgoogbgaa.Fns
