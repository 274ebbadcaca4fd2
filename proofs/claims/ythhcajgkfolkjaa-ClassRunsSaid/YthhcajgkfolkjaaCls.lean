/- The class of a number, and the comparison of addresses. -/
import Derived.Test.YthhcajgkfolkjaaAwake
namespace Go.Proofs.Ythhcajgkfolkjaa.Fns
open Go Go.RowKit

theorem clCells_at (l : List Cl) : ∀ (i : Nat) (c : Cl), l[i]? = some c → (clCells l)[i * 2]? = some (.int .i64 c.f) ∧ (clCells l)[i * 2 + 1]? = some c.v := by
  induction l with
  | nil => intro i c h; simp at h
  | cons o l ih =>
    intro i c h
    have e : clCells (o :: l) = [Value.int .i64 o.f, o.v] ++ clCells l := by simp [clCells]
    rw [e]
    cases i with
    | zero => simp at h; subst h; exact ⟨rfl, rfl⟩
    | succ i =>
      have := ih i c (by simpa using h)
      constructor
      · rw [List.getElem?_append_right (by simp; omega), ← this.1]; congr 1; simp; omega
      · rw [List.getElem?_append_right (by simp; omega), ← this.2]; congr 1; simp; omega
theorem Tb.elem {w : World} {B g b n cp : Nat} {l : List Cl} (h : Tb w B g (.slice (some ⟨b, 0, none⟩) n cp) l) (i : Nat) (c : Cl) (hc : l[i]? = some c) : w.cell? ⟨b, i * 2, none⟩ = some (.int .i64 c.f) ∧ w.cell? ⟨b, i * 2 + 1, none⟩ = some c.v := by
  have hlt : i < l.length := (List.getElem?_eq_some_iff.1 hc).1
  have ho := h.owns
  obtain rfl : l.length = n := by
    rcases ho.2 with ⟨h1, _⟩ | ⟨_, _, _, h1, _⟩
    · cases h1
    · injection h1 with _ h1 _; exact h1.symm
  obtain ⟨h0, h1⟩ := clCells_at l i c hc
  exact ⟨(ho.cellAt (i * 2) (by omega)).trans h0, (ho.cellAt (i * 2 + 1) (by omega)).trans h1⟩
theorem Tb.ints {w : World} {B g : Nat} {v : Value} {l : List Cl} (h : Tb w B g v l) (c : Cl) (hc : c ∈ l) : ∃ A cp, c.v = .slice A c.xs.length cp ∧ Ints w w.heap.size A c.xs.length c.xs := by
  have hr := h.refs c hc
  rcases hr.2 with ⟨h1, h0⟩ | ⟨b, cap, cur, h1, _, hh, _⟩
  · refine ⟨none, 0, by rw [h1, h0], rfl, fun hp => absurd hp (by omega)⟩
  · refine ⟨_, cap, h1, rfl, fun _ => ⟨_, rfl, lt_of_block hh, fun j hj => ?_⟩⟩
    have := hr.cells (g := b) (by rw [h1]; rfl) j (.int .i64 (c.xs.getD j 0)) (by simp [List.getElem?_map, List.getElem?_eq_getElem hj, List.getD_eq_getElem?_getD])
    exact this

theorem getD_drop (xs : List Int) (j : Nat) (h : j < xs.length) : xs.drop j = xs.getD j 0 :: xs.drop (j + 1) := by
  rw [List.drop_eq_getElem_cons h]
  simp [List.getD_eq_getElem?_getD, List.getElem?_eq_getElem h]
set_option maxHeartbeats 2000000 in
theorem same_c (w : World) (C D : Nat) (A A' : Option Addr) (n m c c' : Nat) (xs ys : List Int) (b : Bool) (hx : Ints w C A n xs) (hy : Ints w D A' m ys) (hn : n ≤ 100000) (hm : m ≤ 100000) (hb : decide (xs = ys) = b) :
    Calls Try.prog 14 #[.slice A n c, .slice A' m c'] w fun e w' => e = .returned (.bool b) ∧ Below w.heap.size w w' := by
  have HX := Lib.hid hx
  have HY := Lib.hid hy
  have HL := Lib.hid hx.1
  have HM := Lib.hid hy.1
  have HB := Lib.hid hb
  clear hx hy hb
  by_cases hnm : n = m
  · subst hnm
    have q : ((n : Int) == (n : Int)) = true := by simp
    go_enter Try.func14, Try.ntmps14
    go_wp2
    go_loopw [5] (fun i wr => ∃ (j k : Nat), j ≤ n ∧ i = .int .i64 (j : Int) ∧ wr = w.drewN k ∧ (xs = ys ↔ xs.drop j = ys.drop j)) (fun i _ => n - (intOf i).toNat)
    case atStart => exact ⟨0, 0, Nat.zero_le _, rfl, rfl, Iff.rfl⟩
    case round =>
      obtain ⟨j, k, hj, rfl, rfl, hr⟩ := hrel
      have HR := Lib.hid hr
      clear hr
      by_cases hlt : j < n
      · have dj : decide ((j : Int) < (n : Int)) = true := by simp; omega
        obtain ⟨ad, rfl, _, hc⟩ := HX.out.2 (by omega)
        obtain ⟨ad', rfl, _, hc'⟩ := HY.out.2 (by omega)
        have hcj := hc j hlt
        have hcj' := hc' j hlt
        clear hc hc'
        have E1 := Lib.hid (getD_drop xs j (by have := HL.out; omega))
        have E2 := Lib.hid (getD_drop ys j (by have := HM.out; omega))
        obtain ⟨x, hxj⟩ : ∃ x, x = xs.getD j 0 := ⟨_, rfl⟩
        obtain ⟨y, hyj⟩ : ∃ y, y = ys.getD j 0 := ⟨_, rfl⟩
        rw [← hxj] at hcj
        rw [← hyj] at hcj'
        have HXJ := Lib.hid hxj
        have HYJ := Lib.hid hyj
        clear hxj hyj
        have g1 : (0 : Int) ≤ (j : Int) := by omega
        have g2 : (j : Int) < (n : Int) := by omega
        by_cases e : x = y
        · subst e
          go_wp2
          go_quiet (fail)
          go_wp2
          go_roundw
          case rel => exact ⟨j + 1, _, by omega, by go_num, rfl, by rw [HR.out, E1.out, E2.out, ← HXJ.out, ← HYJ.out]; simp⟩
          case measure => simp [intOf]; omega
        · have e1 : (x != y) = true := by simpa using e
          have e2 : (x == y) = false := by simpa using e
          obtain rfl : b = false := by
            rw [← HB.out]
            refine decide_eq_false (fun h => ?_)
            have := HR.out.1 h
            rw [E1.out, E2.out, ← HXJ.out, ← HYJ.out] at this
            exact e (List.cons.inj this).1
          go_wp2
          go_quiet (fail)
          go_wp2
          go_ret
          exact ⟨rfl, ⟨rfl, rfl, rfl, Nat.le_refl _, fun _ _ => rfl⟩⟩
      · obtain rfl : j = n := by omega
        obtain rfl : b = true := by
          rw [← HB.out]
          refine decide_eq_true (HR.out.2 ?_)
          rw [List.drop_of_length_le (by have := HL.out; omega), List.drop_of_length_le (by have := HM.out; omega)]
        go_wp2
        go_ret
        exact ⟨rfl, ⟨rfl, rfl, rfl, Nat.le_refl _, fun _ _ => rfl⟩⟩
  · have q : ((n : Int) == (m : Int)) = false := by simp; omega
    have q2 : ((n : Int) != (m : Int)) = true := by simp; omega
    obtain rfl : b = false := by
      rw [← HB.out]
      refine decide_eq_false (fun h => hnm ?_)
      rw [← HL.out, ← HM.out, h]
    go_enter Try.func14, Try.ntmps14
    go_wp2
    go_ret
    exact ⟨rfl, Below.refl _ _⟩
end Go.Proofs.Ythhcajgkfolkjaa.Fns
