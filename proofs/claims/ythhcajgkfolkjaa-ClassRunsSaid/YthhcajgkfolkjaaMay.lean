/- May a class be: the program's answer and the reference's. -/
import Derived.Test.YthhcajgkfolkjaaWalks
namespace Go.Proofs.Ythhcajgkfolkjaa.Fns
open Go Go.RowKit

theorem box_keeps (w : World) (v u : Value) {C n : Nat} {A : Option Addr} {xs : List Int} (hx : Ints w C A n xs) (hC : C ≤ w.heap.size) :
    (w.alloc (.cells #[v, u] 26)).cell? ⟨w.heap.size, 0, none⟩ = some v ∧ (w.alloc (.cells #[v, u] 26)).cell? ⟨w.heap.size, 1, none⟩ = some u ∧ Ints (w.alloc (.cells #[v, u] 26)) C A n xs ∧ Below w.heap.size w (w.alloc (.cells #[v, u] 26)) :=
  ⟨cell_of_row _ _ 0 _ _ _ (heap_alloc_new w _), cell_of_row _ _ 1 _ _ _ (heap_alloc_new w _), hx.below ((Below.refl _ _).alloc (Nat.le_refl _) _) hC, (Below.refl _ _).alloc (Nat.le_refl _) _⟩
theorem Bool.of_rise {p q r : Bool} (h : (!(p || q) && r) = true) : p = false ∧ q = false ∧ r = true := by cases p <;> cases q <;> cases r <;> simp_all

set_option maxHeartbeats 2000000 in
theorem may_c (w : World) (f : Int) (C : Nat) (A : Option Addr) (n c : Nat) (xs : List Int) (b : Bool) (hx : Ints w C A n xs) (hC : C ≤ w.heap.size) (hn : n ≤ 100000) (hb : mayB f xs = b) :
    Calls Try.prog 16 #[.agg #[.int .i64 f, .slice A n c]] w fun e w' => e = .returned (.bool b) ∧ Below w.heap.size w w' := by
  obtain ⟨k0, k1, hx, hbel⟩ := box_keeps w (.int .i64 f) (.slice A n c) hx hC
  have HX := Lib.hid hx
  have HW := Lib.hid hbel
  have HL := Lib.hid hx.1
  clear hx hbel
  by_cases h1 : f < 0
  · have d1 : decide (f < 0) = true := by simpa using h1
    obtain rfl : b = false := by rw [← hb]; simp [mayB, h1]
    clear hb
    go_enter Try.func16, Try.ntmps16
    go_wp2
    go_ret
    exact ⟨rfl, HW.out⟩
  · have d1 : decide (f < 0) = false := by simpa using h1
    by_cases h2 : 1023 < f
    · have d2 : decide (1023 < f) = true := by simpa using h2
      obtain rfl : b = false := by rw [← hb]; simp [mayB, h2]
      clear hb
      go_enter Try.func16, Try.ntmps16
      go_wp2
      go_ret
      exact ⟨rfl, HW.out⟩
    · have d2 : decide (1023 < f) = false := by simpa using h2
      have HB := Lib.hid (show rise f (-1) (xs.drop 0) = b by rw [← hb]; simp [mayB, h1, h2])
      clear hb
      obtain ⟨W0, hW0⟩ : ∃ W0, W0 = w.alloc (.cells #[.int .i64 f, .slice A n c] 26) := ⟨_, rfl⟩
      have HW0 := Lib.hid hW0
      go_enter Try.func16, Try.ntmps16
      go_wp2
      go_loopw [3, 17] (fun last i wr => ∃ (j : Nat) (L : Int), j ≤ n ∧ last = .int .i64 L ∧ i = .int .i64 (j : Int) ∧ wr = w.alloc (.cells #[.int .i64 f, .slice A n c] 26) ∧ rise f L (xs.drop j) = b) (fun _ i _ => n - (intOf i).toNat)
      case atStart => exact ⟨0, -1, Nat.zero_le _, rfl, rfl, rfl, HB.out⟩
      case round =>
        obtain ⟨j, L, hj, rfl, rfl, rfl, hr⟩ := hrel
        have HR := Lib.hid hr
        clear hr
        by_cases hlt : j < n
        · have dj : decide ((j : Int) < (n : Int)) = true := by simp; omega
          have dj2 : decide (j < n) = true := by simp; omega
          obtain ⟨ad, rfl, _, hc⟩ := HX.out.2 (by omega)
          have hcj := hc j hlt
          have HD := Lib.hid (rise_drop f L xs j (by have := HL.out; omega))
          obtain ⟨x, hxj⟩ : ∃ x, x = xs.getD j 0 := ⟨_, rfl⟩
          rw [← hxj] at hcj
          have HXJ := Lib.hid hxj
          clear hc hxj
          have g1 : (0 : Int) ≤ (j : Int) := by omega
          have g2 : (j : Int) < (n : Int) := by omega
          by_cases e1 : x ≤ L
          · have t1 : decide (x ≤ L) = true := by simpa using e1
            obtain rfl : b = false := by rw [← HR.out, HD.out, ← HXJ.out]; simp [e1]
            go_wp2
            go_ret
            exact ⟨rfl, HW.out⟩
          · have t1 : decide (x ≤ L) = false := by simpa using e1
            by_cases e2 : f ≤ x
            · have t2 : decide (f ≤ x) = true := by simpa using e2
              obtain rfl : b = false := by rw [← HR.out, HD.out, ← HXJ.out]; simp [e2]
              go_wp2
              go_ret
              exact ⟨rfl, HW.out⟩
            · have t2 : decide (f ≤ x) = false := by simpa using e2
              go_wp2
              go_roundw
              case rel => exact ⟨j + 1, x, by omega, by first | rfl | trivial, by first | go_num | trivial, by first | rfl | trivial, by rw [← HR.out, HD.out, ← HXJ.out, t1, t2]; rfl⟩
              case measure => simp [intOf]; omega
        · obtain rfl : j = n := by omega
          have dj : decide ((j : Int) < (j : Int)) = false := by simp
          obtain rfl : b = true := by rw [← HR.out, List.drop_of_length_le (by have := HL.out; omega)]; rfl
          go_wp2
          go_ret
          exact ⟨rfl, HW.out⟩
end Go.Proofs.Ythhcajgkfolkjaa.Fns
