/- The reference's MayClass. -/
import Derived.Test.YthhcajgkfolkjaaGet
namespace Go.Proofs.Ythhcajgkfolkjaa.Fns
open Go Go.RowKit

set_option maxRecDepth 100000 in
set_option maxHeartbeats 4000000 in
theorem mayc_c (w : World) (f : Int) (C : Nat) (A : Option Addr) (n c : Nat) (xs : List Int) (b : Bool) (hx : Ints w C A n xs) (hC : C ≤ w.heap.size) (hn : n ≤ 100000) (hb : mayB f xs = b) :
    Calls Try.prog 12 #[.agg #[.int .i64 f, .slice A n c]] w fun e w' => e = .returned (.bool b) ∧ Below w.heap.size w w' := by
  obtain ⟨k0, k1, hx, hbel⟩ := box_keeps w (.int .i64 f) (.slice A n c) hx hC
  have HX := Lib.hid hx
  have HW := Lib.hid hbel
  have HL := Lib.hid hx.1
  clear hx hbel
  by_cases h1 : f < 0
  · have d1 : decide (f < 0) = true := by simpa using h1
    obtain rfl : b = false := by rw [← hb]; simp [mayB, h1]
    clear hb
    go_enter Try.func12, Try.ntmps12
    go_wp2
    go_ret
    exact ⟨rfl, HW.out⟩
  · have d1 : decide (f < 0) = false := by simpa using h1
    by_cases h2 : 1023 < f
    · have d2 : decide (1023 < f) = true := by simpa using h2
      obtain rfl : b = false := by rw [← hb]; simp [mayB, h2]
      clear hb
      go_enter Try.func12, Try.ntmps12
      go_wp2
      go_ret
      exact ⟨rfl, HW.out⟩
    · have d2 : decide (1023 < f) = false := by simpa using h2
      have HB := Lib.hid (show rise f (-1) (xs.drop 0) = b by rw [← hb]; simp [mayB, h1, h2])
      clear hb
      go_enter Try.func12, Try.ntmps12
      go_wp2
      go_loopw [3] (fun i wr => ∃ (j k : Nat) (L : Int), j ≤ n ∧ i = .int .i64 (j : Int) ∧ wr = (w.alloc (.cells #[.int .i64 f, .slice A n c] 26)).drewN k ∧ rise f L (xs.drop j) = b ∧ -1 ≤ L ∧ (j = 0 → L = -1) ∧ (0 < j → L = xs.getD (j - 1) 0 ∧ 0 ≤ L)) (fun i _ => n - (intOf i).toNat)
      case atStart => exact ⟨0, 0, -1, Nat.zero_le _, rfl, rfl, HB.out, Int.le_refl _, fun _ => rfl, fun h => absurd h (by omega)⟩
      case round =>
        obtain ⟨j, k, L, hj, rfl, rfl, hr, hL, hL0, hL1⟩ := hrel
        have HR := Lib.hid hr
        have HL0 := Lib.hid hL0
        have HL1 := Lib.hid hL1
        clear hr hL0 hL1
        by_cases hlt : j < n
        · have dj : decide ((j : Int) < (n : Int)) = true := by simp; omega
          obtain ⟨ad, rfl, _, hc⟩ := HX.out.2 (by omega)
          have hcj := hc j hlt
          have HD := Lib.hid (rise_drop f L xs j (by have := HL.out; omega))
          obtain ⟨x, hxj⟩ : ∃ x, x = xs.getD j 0 := ⟨_, rfl⟩
          rw [← hxj] at hcj
          have HXJ := Lib.hid hxj
          have HC := Lib.hid hc
          clear hc hxj
          have g1 : (0 : Int) ≤ (j : Int) := by omega
          have g2 : (j : Int) < (n : Int) := by omega
          by_cases e1 : x < 0
          · have t1 : decide (x < 0) = true := by simpa using e1
            obtain rfl : b = false := by rw [← HR.out, HD.out, ← HXJ.out]; simp; omega
            go_wp2
            go_quiet (fail)
            go_wp2
            go_ret
            exact ⟨rfl, ⟨HW.out.os, HW.out.tape, HW.out.output, HW.out.size, HW.out.block⟩⟩
          · have t1 : decide (x < 0) = false := by simpa using e1
            by_cases e2 : f ≤ x
            · have t2 : decide (f ≤ x) = true := by simpa using e2
              obtain rfl : b = false := by rw [← HR.out, HD.out, ← HXJ.out]; simp [e2]
              go_wp2
              go_quiet (fail)
              go_wp2
              go_ret
              exact ⟨rfl, ⟨HW.out.os, HW.out.tape, HW.out.output, HW.out.size, HW.out.block⟩⟩
            · have t2 : decide (f ≤ x) = false := by simpa using e2
              rcases Nat.eq_zero_or_pos j with hj0 | hj0
              · have t3 : decide ((0 : Int) < (j : Int)) = false := by simp; omega
                have hL := HL0.out hj0
                have HJ := Lib.hid hj0
                have HLL := Lib.hid hL
                have t4 : decide (0 < j) = false := by simp; omega
                have t5 : ¬ 0 < j := by omega
                clear hj0 hL
                go_wp2
                go_quiet (fail)
                go_wp2
                go_roundw
                case rel =>
                  have hL2 := HLL.out
                  exact ⟨j + 1, _, x, by omega, by go_num, rfl, by rw [← HR.out, HD.out, ← HXJ.out, t2, decide_eq_false (by omega : ¬ x ≤ L)]; rfl, by omega, fun h => absurd h (by omega), fun _ => ⟨HXJ.out, by omega⟩⟩
                case measure => simp [intOf]; omega
              · have t3 : decide ((0 : Int) < (j : Int)) = true := by simp; omega
                have hcp := HC.out (j - 1) (by omega)
                obtain ⟨hLy, hLp⟩ := HL1.out hj0
                rw [← hLy] at hcp
                have HLY := Lib.hid hLy
                clear hLy
                have g3 : (0 : Int) ≤ (j : Int) - 1 := by omega
                have g4 : (j : Int) - 1 < (n : Int) := by omega
                have g5 : ((j : Int) - 1).toNat = j - 1 := by omega
                have g6 : IntKind.i64.wrap ((j : Int) - 1) = (j : Int) - 1 := IntWalk.i64_in _ (by omega)
                by_cases e3 : x ≤ L
                · have t4 : decide (x ≤ L) = true := by simpa using e3
                  obtain rfl : b = false := by rw [← HR.out, HD.out, ← HXJ.out]; simp [e3]
                  go_wp2
                  go_quiet (fail)
                  go_wp2
                  go_ret
                  exact ⟨rfl, ⟨HW.out.os, HW.out.tape, HW.out.output, HW.out.size, HW.out.block⟩⟩
                · have t4 : decide (x ≤ L) = false := by simpa using e3
                  go_wp2
                  go_quiet (fail)
                  go_wp2
                  go_roundw
                  case rel => exact ⟨j + 1, _, x, by omega, by go_num, rfl, by rw [← HR.out, HD.out, ← HXJ.out, t2, t4]; rfl, by omega, fun h => absurd h (by omega), fun _ => ⟨HXJ.out, by omega⟩⟩
                  case measure => simp [intOf]; omega
        · obtain rfl : j = n := by omega
          have dj : decide ((j : Int) < (j : Int)) = false := by simp
          obtain rfl : b = true := by rw [← HR.out, List.drop_of_length_le (by have := HL.out; omega)]; rfl
          go_wp2
          go_ret
          exact ⟨rfl, ⟨HW.out.os, HW.out.tape, HW.out.output, HW.out.size, HW.out.block⟩⟩
end Go.Proofs.Ythhcajgkfolkjaa.Fns
