/- The class of a number. -/
import Derived.Test.YthhcajgkfolkjaaCls
namespace Go.Proofs.Ythhcajgkfolkjaa.Fns
open Go Go.RowKit

set_option maxHeartbeats 2000000 in
theorem class_none (w : World) {B g : Nat} {v : Value} {l : List Cl} (h : Tb w B g v l) (i : Int) (hi : i < 1 ∨ (l.length : Int) < i) :
    Calls Try.prog 13 #[.pointer (some ⟨g, 0, none⟩), .int .i64 i] w fun e w' => e = .returned (.tuple #[.agg #[.int .i64 0, .slice none 0 0], .int .i64 2]) ∧ Below w.heap.size w w' := by
  have H := Lib.hid (h.below (w' := w.alloc (.cells #[.int .i64 0, .slice none 0 0] 26)) ((Below.refl _ _).alloc (Nat.le_refl _) _))
  clear h
  by_cases h1 : i < 1
  · have d1 : decide (i < 1) = true := by simpa using h1
    go_enter Try.func13, Try.ntmps13
    go_wp2
    refine bodyPost_ret (v := .tuple #[.agg #[.int .i64 0, .slice none 0 0], .int .i64 2]) (by simp [results, Try.results13, go_sem]) rfl ⟨rfl, ?_⟩
    exact (Below.refl _ _).alloc (Nat.le_refl _) _
  · have d1 : decide (i < 1) = false := by simpa using h1
    have d2 : decide ((l.length : Int) < i) = true := by simp; omega
    go_enter Try.func13, Try.ntmps13
    go_wp2_with (go_at_call 10; refine (classes_c _ H.out _ rfl).mono ?_; rintro e w' ⟨rfl, rfl⟩)
    refine bodyPost_ret (v := .tuple #[.agg #[.int .i64 0, .slice none 0 0], .int .i64 2]) (by simp [results, Try.results13, go_sem]) rfl ⟨rfl, ?_⟩
    exact (Below.refl _ _).alloc (Nat.le_refl _) _

theorem fin_at (w w1 : World) (k : Nat) (hk : w.heap.size ≤ k) (B n : Nat) (u v x y : Value) (xs : List Value) (hr : w1.heap[k]? = some (.cells #[x, y] 26 (0, 0))) (ho : w1.ownsRow B 3 1 v n xs) (hb : Below w.heap.size w w1) :
    ((w1.setCell ⟨k, 0, none⟩ u).setCell ⟨k, 1, none⟩ v).cell? ⟨k, 0, none⟩ = some u ∧ ((w1.setCell ⟨k, 0, none⟩ u).setCell ⟨k, 1, none⟩ v).cell? ⟨k, 1, none⟩ = some v ∧
    ((w1.setCell ⟨k, 0, none⟩ u).setCell ⟨k, 1, none⟩ v).ownsRow B 3 1 v n xs ∧ Below w.heap.size w ((w1.setCell ⟨k, 0, none⟩ u).setCell ⟨k, 1, none⟩ v) := by
  have h1 : (w1.setCell ⟨k, 0, none⟩ u).heap[k]? = some (.cells #[u, y] 26 (0, 0)) := by
    rw [heap_setCell_same w1 k 0 _ _ _ hr]; rfl
  have h2 : ((w1.setCell ⟨k, 0, none⟩ u).setCell ⟨k, 1, none⟩ v).heap[k]? = some (.cells #[u, v] 26 (0, 0)) := by
    rw [heap_setCell_same _ k 1 _ _ _ h1]; rfl
  have hne := own_ne ho hr (by decide)
  exact ⟨cell_of_row _ _ 0 _ _ _ h2, cell_of_row _ _ 1 _ _ _ h2, ownsRow_setCell_other (a := ⟨k, 1, none⟩) (ownsRow_setCell_other (a := ⟨k, 0, none⟩) ho hne u) hne v, (hb.setCell hk _).setCell hk _⟩

set_option maxHeartbeats 4000000 in
theorem class_ok (w : World) {B g : Nat} {v : Value} {l : List Cl} (h : Tb w B g v l) (j : Nat) (c : Cl) (hc : l[j]? = some c) (hl : l.length ≤ 256) (hx : c.xs.length ≤ 100000) (i : Int) (hi : i = (j : Int) + 1) :
    Calls Try.prog 13 #[.pointer (some ⟨g, 0, none⟩), .int .i64 i] w fun e w' => ∃ u, e = .returned (.tuple #[.agg #[.int .i64 c.f, u], .int .i64 0]) ∧ w'.ownsRow w.heap.size 3 1 u c.xs.length (c.xs.map (Value.int .i64)) ∧ Below w.heap.size w w' := by
  subst hi
  have hlt : j < l.length := (List.getElem?_eq_some_iff.1 hc).1
  have hbel : Below w.heap.size w (w.alloc (.cells #[.int .i64 0, .slice none 0 0] 26)) := (Below.refl _ _).alloc (Nat.le_refl _) _
  have h' := h.below hbel
  obtain ⟨A, cp, hv, hin⟩ := h'.ints c (List.mem_of_getElem? hc)
  obtain ⟨VA, vc, rfl⟩ := h.form
  obtain ⟨b, rfl⟩ : ∃ b, VA = some ⟨b, 0, none⟩ := by
    rcases h.owns.2 with ⟨h1, h0⟩ | ⟨b, _, _, h1, _⟩
    · omega
    · injection h1 with h1 _ _; exact ⟨b, h1⟩
  obtain ⟨e0, e1⟩ := h'.elem j c hc
  rw [hv] at e1
  have H := Lib.hid h'
  have HI := Lib.hid hin
  have kt := h'.c0
  have d1 : decide ((j : Int) + 1 < 1) = false := by simp; omega
  have d2 : decide ((l.length : Int) < (j : Int) + 1) = false := by simp; omega
  have g1 : (0 : Int) ≤ (j : Int) := by omega
  have g2 : (j : Int) < (l.length : Int) := by omega
  have HBL := Lib.hid hbel
  clear h h' hin hbel hc
  go_enter Try.func13, Try.ntmps13
  go_wp2_with (first
    | (go_at_call 10; refine (classes_c _ H.out _ rfl).mono ?_; rintro e w' ⟨rfl, rfl⟩)
    | (go_at_call 17; refine (own_c _ c.f _ A c.xs.length cp c.xs HI.out (Nat.le_refl _) hx).mono ?_; rintro e w2 ⟨u, rfl, ho, hb⟩; obtain ⟨A2, c2, rfl⟩ := own_form ho; have HO := Lib.hid ho; have HB2 := Lib.hid hb; have HR := Lib.hid ((hb.block _ (lt_of_block (heap_alloc_new w _))).trans (heap_alloc_new w (.cells #[.int .i64 0, .slice none 0 0] 26))); have k2 := cell_of_row w2 _ 0 _ _ _ HR.out; have k3 := cell_of_row w2 _ 1 _ _ _ HR.out; have f2 := frozen_of_row w2 _ 0 _ _ HR.out; have f3 := frozen_of_row w2 _ 1 _ _ HR.out; clear ho hb))
  have hF := fin_at w w2 w.heap.size (Nat.le_refl _) _ _ (.int .i64 c.f) (.slice A2 c.xs.length c2) _ _ _ HR.out HO.out (HBL.out.trans (HB2.out.mono HBL.out.size))
  have q0 := hF.1
  have q1 := hF.2.1
  refine bodyPost_ret (v := .tuple #[.agg #[.int .i64 c.f, .slice A2 c.xs.length c2], .int .i64 0]) (by simp [results, Try.results13, go_sem, q0, q1]) rfl ⟨_, rfl, own_mono hF.2.2.1 HBL.out.size, hF.2.2.2⟩
end Go.Proofs.Ythhcajgkfolkjaa.Fns
