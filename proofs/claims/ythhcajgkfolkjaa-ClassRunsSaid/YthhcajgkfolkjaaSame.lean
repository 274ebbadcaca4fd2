/- SameInts, once more: it only draws. -/
import Derived.Test.YthhcajgkfolkjaaRun
namespace Go.Proofs.Ythhcajgkfolkjaa.Fns
open Go Go.RowKit

set_option maxHeartbeats 2000000 in
theorem same_q (w : World) (C D : Nat) (A A' : Option Addr) (n m c c' : Nat) (xs ys : List Int) (b : Bool) (hx : Ints w C A n xs) (hy : Ints w D A' m ys) (hn : n ≤ 100000) (hm : m ≤ 100000) (hb : decide (xs = ys) = b) :
    Calls Try.prog 14 #[.slice A n c, .slice A' m c'] w fun e w' => e = .returned (.bool b) ∧ ∃ m, w' = w.drewN m := by
  have HX := Lib.hid hx
  have HY := Lib.hid hy
  have HL := Lib.hid hx.1
  have HM := Lib.hid hy.1
  have HB := Lib.hid hb
  clear hx hy hb
  by_cases hnm : n = m
  · subst hnm
    have q : ((n : Int) == (n : Int)) = true := by simp
    go_enter Try.func14, Try.ntmps14
    go_wp2
    go_loopw [5] (fun i wr => ∃ (j k : Nat), j ≤ n ∧ i = .int .i64 (j : Int) ∧ wr = w.drewN k ∧ (xs = ys ↔ xs.drop j = ys.drop j)) (fun i _ => n - (intOf i).toNat)
    case atStart => exact ⟨0, 0, Nat.zero_le _, rfl, rfl, Iff.rfl⟩
    case round =>
      obtain ⟨j, k, hj, rfl, rfl, hr⟩ := hrel
      have HR := Lib.hid hr
      clear hr
      by_cases hlt : j < n
      · have dj : decide ((j : Int) < (n : Int)) = true := by simp; omega
        obtain ⟨ad, rfl, _, hc⟩ := HX.out.2 (by omega)
        obtain ⟨ad', rfl, _, hc'⟩ := HY.out.2 (by omega)
        have hcj := hc j hlt
        have hcj' := hc' j hlt
        clear hc hc'
        have E1 := Lib.hid (getD_drop xs j (by have := HL.out; omega))
        have E2 := Lib.hid (getD_drop ys j (by have := HM.out; omega))
        obtain ⟨x, hxj⟩ : ∃ x, x = xs.getD j 0 := ⟨_, rfl⟩
        obtain ⟨y, hyj⟩ : ∃ y, y = ys.getD j 0 := ⟨_, rfl⟩
        rw [← hxj] at hcj
        rw [← hyj] at hcj'
        have HXJ := Lib.hid hxj
        have HYJ := Lib.hid hyj
        clear hxj hyj
        have g1 : (0 : Int) ≤ (j : Int) := by omega
        have g2 : (j : Int) < (n : Int) := by omega
        by_cases e : x = y
        · subst e
          go_wp2
          go_quiet (fail)
          go_wp2
          go_roundw
          case rel => exact ⟨j + 1, _, by omega, by go_num, rfl, by rw [HR.out, E1.out, E2.out, ← HXJ.out, ← HYJ.out]; simp⟩
          case measure => simp [intOf]; omega
        · have e1 : (x != y) = true := by simpa using e
          have e2 : (x == y) = false := by simpa using e
          obtain rfl : b = false := by
            rw [← HB.out]
            refine decide_eq_false (fun h => ?_)
            have := HR.out.1 h
            rw [E1.out, E2.out, ← HXJ.out, ← HYJ.out] at this
            exact e (List.cons.inj this).1
          go_wp2
          go_quiet (fail)
          go_wp2
          go_ret
          exact ⟨rfl, _, World.drewN_drewN _ _ _⟩
      · obtain rfl : j = n := by omega
        obtain rfl : b = true := by
          rw [← HB.out]
          refine decide_eq_true (HR.out.2 ?_)
          rw [List.drop_of_length_le (by have := HL.out; omega), List.drop_of_length_le (by have := HM.out; omega)]
        go_wp2
        go_ret
        exact ⟨rfl, _, rfl⟩
  · have q : ((n : Int) == (m : Int)) = false := by simp; omega
    have q2 : ((n : Int) != (m : Int)) = true := by simp; omega
    obtain rfl : b = false := by
      rw [← HB.out]
      refine decide_eq_false (fun h => hnm ?_)
      rw [← HL.out, ← HM.out, h]
    go_enter Try.func14, Try.ntmps14
    go_wp2
    go_ret
    exact ⟨rfl, 0, rfl⟩
end Go.Proofs.Ythhcajgkfolkjaa.Fns
