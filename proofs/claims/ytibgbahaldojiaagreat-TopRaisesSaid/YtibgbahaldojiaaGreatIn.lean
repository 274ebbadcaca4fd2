/- What a collection goes by: roots, finalizers, numbers. -/
import Derived.Test.YtibgbahaldojiaaGreatRoots
import Derived.Test.YtibgbahaldojiaaGreatProc
namespace Go.Proofs.YtibgbahaldojiaaGreat.Fns
open Go Go.RowKit
section
variable (w : World) {b : RtB} {s : RtS} {vw vp : Value}
theorem queues_c [Base] (h : Pts w b s vw vp) : Calls Tryz.prog 99 #[.pointer (some ⟨b.q, 0, none⟩)] w fun e w' => e = .returned (.int .i64 0) ∧ w = w' := by
  have q1 := cell_of_row _ _ 1 _ _ _ h.qbox
  clear h
  go_enter Tryz.func99, Tryz.ntmps99
  go_wp2
  go_ret
  exact ⟨rfl, rfl⟩
theorem queued_c [Base] (h : Pts w b s vw vp) : Calls Tryz.prog 80 #[.pointer (some ⟨b.p, 0, none⟩)] w fun e w' => e = .returned (.slice none 0 0) ∧ w = w' := by
  have H := Lib.hid h
  have p0 := cell_of_row _ _ 0 _ _ _ h.pbox
  have r0 := cell_of_row _ _ 0 _ _ _ h.rfbox
  clear h
  go_enter Tryz.func80, Tryz.ntmps80
  go_wp2_with (go_at_call 99; refine (queues_c _ H.out).mono ?_; rintro e w' ⟨rfl, rfl⟩)
  go_loopw [3, 15] (fun v iv wr => v = .slice none 0 0 ∧ iv = .int .i64 0 ∧ wr = w) (fun _ _ _ => 0)
  case atStart => exact ⟨rfl, rfl, rfl⟩
  case round =>
    obtain ⟨rfl, rfl, rfl⟩ := hrel
    go_wp2
    go_ret
    exact ⟨rfl, rfl⟩
end
/-- What a reckoning of roots leaves as it was. -/
abbrev InS (W : World) (b : RtB) (s : RtS) (t4 : Nat) (w' : World) : Prop := w'.cell? ⟨b.p, 2, none⟩ = some (.pointer (some ⟨b.rt, 0, none⟩)) ∧ w'.cell? ⟨b.p, 3, none⟩ = some (.pointer (some ⟨b.fi, 0, none⟩)) ∧ w'.cell? ⟨b.p, 4, none⟩ = some (.pointer (some ⟨b.hp.h, 0, none⟩)) ∧ w'.cell? ⟨b.p, 6, none⟩ = some (.int .i64 s.rate) ∧ w'.cell? ⟨b.p, 7, none⟩ = some (.int .i64 s.stk) ∧ w'.cell? ⟨b.p, 8, none⟩ = some (.int .i64 0) ∧ w'.cell? ⟨b.hp.h, 0, none⟩ = some (.pointer (some ⟨b.hp.sp.sp, 0, none⟩)) ∧ b.p < t4 ∧ b.hp.h < t4 ∧ t4 < w'.heap.size ∧ Below t4 W w'
theorem InS.on {W w2 w3 : World} {b : RtB} {s : RtS} {t4 : Nat} (h : InS W b s t4 w2) (hb : Below w2.heap.size w2 w3) : InS W b s t4 w3 := by
  obtain ⟨a0, a1, a2, a3, a4, a5, a6, l1, l2, l3, hb0⟩ := h
  exact ⟨(hb.cell (World.block_lt_of_cell? _ _ a0)).trans a0, (hb.cell (World.block_lt_of_cell? _ _ a1)).trans a1, (hb.cell (World.block_lt_of_cell? _ _ a2)).trans a2, (hb.cell (World.block_lt_of_cell? _ _ a3)).trans a3, (hb.cell (World.block_lt_of_cell? _ _ a4)).trans a4, (hb.cell (World.block_lt_of_cell? _ _ a5)).trans a5, (hb.cell (World.block_lt_of_cell? _ _ a6)).trans a6, l1, l2, Nat.lt_of_lt_of_le l3 hb.size, hb0.trans (hb.mono (Nat.le_of_lt l3))⟩
theorem InS.al {W w2 : World} {b : RtB} {s : RtS} {t4 : Nat} (h : InS W b s t4 w2) (o : Obj) : InS W b s t4 (w2.alloc o) := h.on ((Below.refl _ _).alloc (Nat.le_refl _) _)
theorem InS.dr {W w2 : World} {b : RtB} {s : RtS} {t4 : Nat} (h : InS W b s t4 w2) : InS W b s t4 w2.drew := h.on (below_drew (Below.refl _ _))
theorem InS.st {W w2 : World} {b : RtB} {s : RtS} {t4 : Nat} (h : InS W b s t4 w2) (i : Nat) (u : Value) : InS W b s t4 (w2.setCell ⟨t4, i, none⟩ u) := by
  obtain ⟨a0, a1, a2, a3, a4, a5, a6, l1, l2, l3, hb0⟩ := h
  have h1 : ∀ (j : Nat) (v : Value), Below t4 w2 (w2.setCell ⟨t4, i, none⟩ u) := fun _ _ => (Below.refl t4 w2).setCell (p := ⟨t4, i, none⟩) (Nat.le_refl _) u
  have h1 : Below t4 w2 (w2.setCell ⟨t4, i, none⟩ u) := h1 0 u
  exact ⟨(Below.cell h1 (by simpa using l1)).trans a0, (Below.cell h1 (by simpa using l1)).trans a1, (Below.cell h1 (by simpa using l1)).trans a2, (Below.cell h1 (by simpa using l1)).trans a3, (Below.cell h1 (by simpa using l1)).trans a4, (Below.cell h1 (by simpa using l1)).trans a5, (Below.cell h1 (by simpa using l2)).trans a6, l1, l2, by simpa [World.setCell] using l3, hb0.setCell (p := ⟨t4, i, none⟩) (Nat.le_refl _) u⟩
theorem InS.of [Base] {W : World} {b : RtB} {s : RtS} {vw vp : Value} {t4 : Nat} (h : Pts W b s vw vp) (h1 : b.p < t4) (h2 : b.hp.h < t4) (h4 : t4 < W.heap.size) : InS W b s t4 W :=
  ⟨cell_of_row _ _ 2 _ _ _ h.pbox, cell_of_row _ _ 3 _ _ _ h.pbox, cell_of_row _ _ 4 _ _ _ h.pbox, cell_of_row _ _ 6 _ _ _ h.pbox, cell_of_row _ _ 7 _ _ _ h.pbox, cell_of_row _ _ 8 _ _ _ h.pbox, h.heap.c0, h1, h2, h4, Below.refl _ _⟩
theorem held_cells (l : List (Int × Int)) (j : Nat) (h : j < l.length) : (heldCells l)[j * 2]? = some (.int .i64 (l.getD j (0, 0)).1) ∧ (heldCells l)[j * 2 + 1]? = some (.int .i64 (l.getD j (0, 0)).2) := by
  induction l generalizing j with
  | nil => simp at h
  | cons x l ih =>
    have e : heldCells (x :: l) = [.int .i64 x.1, .int .i64 x.2] ++ heldCells l := by simp [heldCells]
    rw [e]
    rcases j with _ | j
    · exact ⟨by simp, by simp⟩
    · obtain ⟨h1, h2⟩ := ih j (by simpa using h)
      refine ⟨?_, ?_⟩
      · rw [List.getElem?_append_right (by simp; omega)]
        simpa [show (j + 1) * 2 - 2 = j * 2 by omega] using h1
      · rw [List.getElem?_append_right (by simp; omega)]
        simpa [show (j + 1) * 2 + 1 - 2 = j * 2 + 1 by omega] using h2
theorem held_cell {w : World} {B m i : Nat} {v : Value} {l : List (Int × Int)} (h : w.ownsRow B 189 2 v m (heldCells l)) (hm : l.length = m) (hi : i < m) : ∃ s c, v = .slice (some ⟨s, 0, none⟩) m c ∧ w.cell? ⟨s, i * 2, none⟩ = some (.int .i64 (l.getD i (0, 0)).1) ∧ w.cell? ⟨s, i * 2 + 1, none⟩ = some (.int .i64 (l.getD i (0, 0)).2) := by
  obtain ⟨h1, h2⟩ := held_cells l i (by omega)
  rcases h.2 with ⟨_, h0⟩ | ⟨s, c, _, hv, _⟩
  · omega
  · subst hv
    exact ⟨s, c, rfl, by rw [h.cellAt (i * 2) (by omega)]; exact h1, by rw [h.cellAt (i * 2 + 1) (by omega)]; exact h2⟩
theorem map_take (l : List (Int × Int)) (j : Nat) (h : j < l.length) : (l.take (j + 1)).map Prod.snd = (l.take j).map Prod.snd ++ [(l.getD j (0, 0)).2] := by
  rw [List.take_add_one, List.map_append]
  simp [List.getD_eq_getElem?_getD, List.getElem?_eq_getElem h]
theorem ints_own {w : World} {B n c : Nat} {A : Option Addr} {xs : List Int} (h : w.ownsRow B 3 1 (.slice A n c) n (xs.map (Value.int .i64))) : Ints w w.heap.size A n xs := by
  refine ⟨by have := h.1; simpa using this, fun h0 => ?_⟩
  obtain ⟨s, c', hv, hc⟩ := own_cell h h0
  injection hv with hv _ _
  subst hv
  refine ⟨⟨s, 0, none⟩, rfl, World.block_lt_of_cell? _ _ hc, fun j hj => ?_⟩
  obtain ⟨s', c', hv, hc⟩ := own_cell h hj
  injection hv with hv _ _
  injection hv with hv
  injection hv with hv _ _
  subst hv
  have : (⟨s, 0, none⟩ : Addr).add j = ⟨s, j, none⟩ := by unfold Addr.add; split <;> simp_all
  rw [this]
  exact hc
/-- The merging of four rows that lie in a row of slices made for them. -/
theorem merge4_c (w : World) {B1 B2 B3 n1 c1 c2 n3 c3 : Nat} {A1 A2 A3 : Option Addr} {L P R : List Int} (h1 : w.ownsRow B1 3 1 (.slice A1 n1 c1) n1 (L.map (Value.int .i64))) (h2 : w.ownsRow B2 3 1 (.slice A2 16 c2) 16 ((List.replicate 16 (0 : Int)).map (Value.int .i64))) (h3 : w.ownsRow B3 3 1 (.slice A3 n3 c3) n3 (P.map (Value.int .i64)))
    (l1 : n1 ≤ 1000) (l3 : n3 ≤ 1000) (hR : (Lib.compact (([L, List.replicate 16 0, [], P] : List (List Int)).flatten.mergeSort le64)).filter pos = R) :
    Calls Tryz.prog 141 #[.slice (some ⟨w.heap.size, 0, none⟩) 4 4] (w.alloc (.cells #[.slice A1 n1 c1, .slice A2 16 c2, .slice none 0 0, .slice A3 n3 c3] 51)) fun e w' => ∃ v, e = .returned v ∧ w'.ownsRow (w.alloc (.cells #[.slice A1 n1 c1, .slice A2 16 c2, .slice none 0 0, .slice A3 n3 c3] 51)).heap.size 3 1 v R.length (R.map (Value.int .i64)) ∧ Below (w.alloc (.cells #[.slice A1 n1 c1, .slice A2 16 c2, .slice none 0 0, .slice A3 n3 c3] 51)).heap.size (w.alloc (.cells #[.slice A1 n1 c1, .slice A2 16 c2, .slice none 0 0, .slice A3 n3 c3] 51)) w' := by
  have e1 : L.length = n1 := by have := h1.1; simpa using this
  have e3 : P.length = n3 := by have := h3.1; simpa using this
  have hr := heap_alloc_new w (.cells #[.slice A1 n1 c1, .slice A2 16 c2, .slice none 0 0, .slice A3 n3 c3] 51)
  have i1 := (ints_own h1).below ((Below.refl w.heap.size w).alloc (Nat.le_refl _) (.cells #[.slice A1 n1 c1, .slice A2 16 c2, .slice none 0 0, .slice A3 n3 c3] 51)) (Nat.le_refl _)
  have i2 := (ints_own h2).below ((Below.refl w.heap.size w).alloc (Nat.le_refl _) (.cells #[.slice A1 n1 c1, .slice A2 16 c2, .slice none 0 0, .slice A3 n3 c3] 51)) (Nat.le_refl _)
  have i3 := (ints_own h3).below ((Below.refl w.heap.size w).alloc (Nat.le_refl _) (.cells #[.slice A1 n1 c1, .slice A2 16 c2, .slice none 0 0, .slice A3 n3 c3] 51)) (Nat.le_refl _)
  have up : ∀ {A : Option Addr} {n : Nat} {xs : List Int}, Ints (w.alloc (.cells #[.slice A1 n1 c1, .slice A2 16 c2, .slice none 0 0, .slice A3 n3 c3] 51)) w.heap.size A n xs → Ints (w.alloc (.cells #[.slice A1 n1 c1, .slice A2 16 c2, .slice none 0 0, .slice A3 n3 c3] 51)) (w.alloc (.cells #[.slice A1 n1 c1, .slice A2 16 c2, .slice none 0 0, .slice A3 n3 c3] 51)).heap.size A n xs := fun h => ⟨h.1, fun h0 => by
    obtain ⟨ad, e, hlt, hc⟩ := h.2 h0
    exact ⟨ad, e, by simp; omega, hc⟩⟩
  refine merge_c _ w.heap.size 4 4 [L, List.replicate 16 0, [], P] (fun j => [A1, A2, none, A3].getD j none) (fun j => [c1, c2, 0, c3].getD j 0) rfl (by omega) (by simp; omega) (by simp; omega) (fun j hj => ?_) R hR
  rcases (show j = 0 ∨ j = 1 ∨ j = 2 ∨ j = 3 by omega) with rfl | rfl | rfl | rfl
  · exact ⟨by rw [cell_of_row _ _ 0 _ _ _ hr]; simp [e1], by have := up i1; simpa [e1] using this⟩
  · exact ⟨by rw [cell_of_row _ _ 1 _ _ _ hr]; simp, by have := up i2; simpa using this⟩
  · exact ⟨by rw [cell_of_row _ _ 2 _ _ _ hr]; simp, by simpa using Ints.nil _ _ _⟩
  · exact ⟨by rw [cell_of_row _ _ 3 _ _ _ hr]; simp [e3], by have := up i3; simpa [e3] using this⟩
theorem fin7 (w1 : World) (k : Nat) (t : TypeId) (a0 a1 a2 a3 a4 a5 a6 u0 u1 u2 u3 u4 u5 u6 : Value) (hr : w1.heap[k]? = some (.cells #[a0, a1, a2, a3, a4, a5, a6] t (0, 0))) :
    (((((((w1.setCell ⟨k, 0, none⟩ u0).setCell ⟨k, 1, none⟩ u1).setCell ⟨k, 2, none⟩ u2).setCell ⟨k, 3, none⟩ u3).setCell ⟨k, 4, none⟩ u4).setCell ⟨k, 5, none⟩ u5).setCell ⟨k, 6, none⟩ u6).heap[k]? = some (.cells #[u0, u1, u2, u3, u4, u5, u6] t (0, 0)) := by
  have h0 : (w1.setCell ⟨k, 0, none⟩ u0).heap[k]? = some (.cells #[u0, a1, a2, a3, a4, a5, a6] t (0, 0)) := by rw [heap_setCell_same _ k 0 _ _ _ hr]; rfl
  have h1 : ((w1.setCell ⟨k, 0, none⟩ u0).setCell ⟨k, 1, none⟩ u1).heap[k]? = some (.cells #[u0, u1, a2, a3, a4, a5, a6] t (0, 0)) := by rw [heap_setCell_same _ k 1 _ _ _ h0]; rfl
  have h2 : (((w1.setCell ⟨k, 0, none⟩ u0).setCell ⟨k, 1, none⟩ u1).setCell ⟨k, 2, none⟩ u2).heap[k]? = some (.cells #[u0, u1, u2, a3, a4, a5, a6] t (0, 0)) := by rw [heap_setCell_same _ k 2 _ _ _ h1]; rfl
  have h3 : ((((w1.setCell ⟨k, 0, none⟩ u0).setCell ⟨k, 1, none⟩ u1).setCell ⟨k, 2, none⟩ u2).setCell ⟨k, 3, none⟩ u3).heap[k]? = some (.cells #[u0, u1, u2, u3, a4, a5, a6] t (0, 0)) := by rw [heap_setCell_same _ k 3 _ _ _ h2]; rfl
  have h4 : (((((w1.setCell ⟨k, 0, none⟩ u0).setCell ⟨k, 1, none⟩ u1).setCell ⟨k, 2, none⟩ u2).setCell ⟨k, 3, none⟩ u3).setCell ⟨k, 4, none⟩ u4).heap[k]? = some (.cells #[u0, u1, u2, u3, u4, a5, a6] t (0, 0)) := by rw [heap_setCell_same _ k 4 _ _ _ h3]; rfl
  have h5 : ((((((w1.setCell ⟨k, 0, none⟩ u0).setCell ⟨k, 1, none⟩ u1).setCell ⟨k, 2, none⟩ u2).setCell ⟨k, 3, none⟩ u3).setCell ⟨k, 4, none⟩ u4).setCell ⟨k, 5, none⟩ u5).heap[k]? = some (.cells #[u0, u1, u2, u3, u4, u5, a6] t (0, 0)) := by rw [heap_setCell_same _ k 5 _ _ _ h4]; rfl
  have h6 : (((((((w1.setCell ⟨k, 0, none⟩ u0).setCell ⟨k, 1, none⟩ u1).setCell ⟨k, 2, none⟩ u2).setCell ⟨k, 3, none⟩ u3).setCell ⟨k, 4, none⟩ u4).setCell ⟨k, 5, none⟩ u5).setCell ⟨k, 6, none⟩ u6).heap[k]? = some (.cells #[u0, u1, u2, u3, u4, u5, u6] t (0, 0)) := by rw [heap_setCell_same _ k 6 _ _ _ h5]; rfl
  exact h6
theorem frame7 (w1 : World) (k : Nat) (u0 u1 u2 u3 u4 u5 u6 : Value) : Frame w1 (((((((w1.setCell ⟨k, 0, none⟩ u0).setCell ⟨k, 1, none⟩ u1).setCell ⟨k, 2, none⟩ u2).setCell ⟨k, 3, none⟩ u3).setCell ⟨k, 4, none⟩ u4).setCell ⟨k, 5, none⟩ u5).setCell ⟨k, 6, none⟩ u6) (fun j => j = k) :=
  ((((((((Frame.refl w1 (fun j => j = k)).setCell (p := ⟨k, 0, none⟩) (fun _ => rfl) u0).setCell (p := ⟨k, 1, none⟩) (fun _ => rfl) u1).setCell (p := ⟨k, 2, none⟩) (fun _ => rfl) u2).setCell (p := ⟨k, 3, none⟩) (fun _ => rfl) u3).setCell (p := ⟨k, 4, none⟩) (fun _ => rfl) u4).setCell (p := ⟨k, 5, none⟩) (fun _ => rfl) u5).setCell (p := ⟨k, 6, none⟩) (fun _ => rfl) u6)
set_option maxRecDepth 100000 in
set_option maxHeartbeats 8000000 in
theorem partsIn_c [Base] (w : World) {b : RtB} {s : RtS} {vw vp : Value} (h : Pts w b s vw vp) (all : Bool) (R L : List Int) (hL : (allL s.T s.A 512).map Prod.snd = L) (hR : (Lib.compact (([L, List.replicate 16 0, [], s.P] : List (List Int)).flatten.mergeSort le64)).filter pos = R) (hm : s.m ≤ 32) (hn : 2 ≤ s.n) (hW : s.W.length ≤ 1000) (hP : s.P.length ≤ 1000) (free : Int) (hf : free = ((s.n : Int) - 1) * 64 - (s.m : Int) * 2) :
    Calls Tryz.prog 114 #[.pointer (some ⟨b.p, 0, none⟩), .bool all] w fun e w' => ∃ AR cR AF cF, e = .returned (.agg #[.slice AR R.length cR, .slice AF s.W.length cF, .int .i64 0, .int .i64 free, .int .i64 s.rate, .bool all, .int .i64 s.stk]) ∧ Below w.heap.size w w' ∧
      w'.ownsRow w.heap.size 3 1 (.slice AR R.length cR) R.length (R.map (Value.int .i64)) ∧ w'.ownsRow w.heap.size 3 1 (.slice AF s.W.length cF) s.W.length (s.W.map (Value.int .i64)) := by
  obtain ⟨i0, hi0, hz0, hz1, hz2⟩ := info_parts info3
  have INFO := Lib.hid (And.intro hi0 (And.intro hz0 (And.intro hz1 hz2)))
  clear hi0 hz0 hz1 hz2
  have hb0 : Below w.heap.size w (w.alloc (.cells #[.slice none 0 0, .slice none 0 0, .int .i64 0, .int .i64 0, .int .i64 0, .bool false, .int .i64 0] 180)) := (Below.refl _ _).alloc (Nat.le_refl _) _
  have HB0 := Lib.hid hb0
  have H := Lib.hid (h.below hb0)
  have HLT := Lib.hid (And.intro (lt_of_block h.pbox) (lt_of_block h.heap.box))
  have R4 := Lib.hid (heap_alloc_new w (.cells #[.slice none 0 0, .slice none 0 0, .int .i64 0, .int .i64 0, .int .i64 0, .bool false, .int .i64 0] 180))
  have p1 := cell_of_row _ _ 1 _ _ _ (h.below hb0).pbox
  obtain ⟨l, hl⟩ : ∃ l, l = allL s.T s.A 512 := ⟨_, rfl⟩
  obtain ⟨m, hm0⟩ : ∃ m, m = l.length := ⟨_, rfl⟩
  have hlen : m ≤ 512 := by rw [hm0, hl]; exact allL_len _ _ _
  have HL := Lib.hid (And.intro hl hm0)
  have HLL := Lib.hid hL
  have HR := Lib.hid hR
  have HF := Lib.hid hf
  have HWP := Lib.hid (And.intro hW hP)
  clear h hb0 hl hm0 hL hR hf hW hP
  go_enter Tryz.func114, Tryz.ntmps114
  go_wp2_with (go_at_call 78; refine (all_c _ H.out.hs).mono ?_; rintro e w1 ⟨v, rfl, ho, hb⟩; rw [← HL.out.1, ← HL.out.2] at ho; obtain ⟨A, c, rfl⟩ := form189 ho; have HO := Lib.hid ho; have HB1 := Lib.hid hb; clear ho hb)
  go_loopw [5, 20] (fun v iv wr => ∃ j : Nat, j ≤ m ∧ iv = .int .i64 (j : Int) ∧ wr.ownsRow w1.heap.size 3 1 v j (((l.take j).map Prod.snd).map (Value.int .i64)) ∧ Below w1.heap.size w1 wr) (fun _ iv _ => m - (intOf iv).toNat)
  case atStart => exact ⟨0, Nat.zero_le _, rfl, World.ownsRow_nil _ _ _ _, Below.refl _ _⟩
  case round =>
    obtain ⟨j, hj, rfl, ho, hb⟩ := hrel
    have HOX := Lib.hid ho
    have HBX := Lib.hid hb
    obtain ⟨A5, c5, rfl⟩ := own_form ho
    by_cases hlt : j < m
    · obtain ⟨s1, c', hA, hcl0, hcl1⟩ := held_cell HO.out HL.out.2.symm hlt
      injection hA with hA _ h3
      subst hA h3
      have hcl0 := (hb.cell (World.block_lt_of_cell? _ _ hcl0)).trans hcl0
      have hcl1 := (hb.cell (World.block_lt_of_cell? _ _ hcl1)).trans hcl1
      have HT := Lib.hid (map_take l j (by rw [← HL.out.2]; exact hlt))
      obtain ⟨⟨x, y⟩, hxy⟩ : ∃ p, l.getD j (0, 0) = p := ⟨_, rfl⟩
      rw [hxy] at hcl0 hcl1 HT
      have dj : decide ((j : Int) < (m : Int)) = true := by simp; omega
      have dj2 : decide (j < m) = true := by simp; omega
      have g1 : (0 : Int) ≤ (j : Int) := by omega
      have g2 : (j : Int) < (m : Int) := by omega
      clear ho hb hxy
      go_wp2_with (at_builtin; refine wpList_push _ rfl (.tmp 24) (.tmp 27) 51 rfl w1.heap.size 3 i0 Tryz.underlying51 INFO.out.1 INFO.out.2.1 INFO.out.2.2.1 INFO.out.2.2.2 (.slice A5 j c5) j _ (by simp [Act.eval]) ((HOX.out.alloc _).alloc _) _ (some ⟨wr.heap.size + 1, 0, none⟩) 1 1 [y] (by simp [Act.eval]) (by have := ints_one (wr.alloc (.cells #[.int .i64 x, .int .i64 y] 189)) y; simpa using this) (by omega) (Nat.le_trans HBX.out.size (by simp; omega)) ?_; intro v2 w3 ho hg _; have HO3 := Lib.hid ho; have HB3 := Lib.hid (((HBX.out.alloc HBX.out.size _).alloc (Nat.le_trans HBX.out.size (by simp)) _).grown hg (Nat.le_trans HBX.out.size (by simp; omega)) (fun k hk => (HOX.out.lt k hk).1)); clear ho hg)
      go_roundw
      case rel => exact ⟨j + 1, by omega, by go_num, by rw [HT.out]; simpa using HO3.out, HB3.out⟩
      case measure => simp [intOf]; omega
    · obtain ⟨q, hq⟩ : ∃ q, q = j := ⟨_, rfl⟩
      obtain rfl : j = m := by omega
      subst hq
      have dj : decide ((q : Int) < (q : Int)) = false := by simp
      have H2 := Lib.hid ((H.out.below HB1.out).below hb)
      obtain ⟨wo, rfl⟩ : ∃ wo : World, wo = wr := ⟨_, rfl⟩
      clear ho hb
      go_wp2_with (go_at_call 80; refine (queued_c _ H2.out).mono ?_; rintro e w' ⟨rfl, rfl⟩)
      go_loopw [6, 33] (fun v iv wx => v = .slice none 0 0 ∧ iv = .int .i64 0 ∧ wx = wo) (fun _ _ _ => 0)
      case atStart => exact ⟨rfl, rfl, rfl⟩
      case round =>
        obtain ⟨rfl, rfl, rfl⟩ := hrel
        have HBW := Lib.hid (HB1.out.trans (HBX.out.mono HB1.out.size))
        have HS0 := Lib.hid (InS.of (t4 := w.heap.size) H2.out HLT.out.1 HLT.out.2 (Nat.lt_of_lt_of_le (lt_of_block R4.out) HBW.out.size))
        obtain ⟨cc, hcc⟩ : ∃ cc : Nat, cc + 64 = s.n * 64 := ⟨s.n * 64 - 64, by omega⟩
        obtain ⟨uu, huu⟩ : ∃ uu : Int, uu = (s.m : Int) * 2 := ⟨_, rfl⟩
        have hww : IntKind.i64.wrap ((cc : Int) - uu) = free := by
          have := HF.out
          have := H2.out.heap.ar.most
          rw [IntWalk.i64_in _ (by omega)]
          omega
        have HCU := Lib.hid (And.intro hcc huu)
        have HLJ := Lib.hid (show (l.take q).map Prod.snd = L by rw [List.take_of_length_le (by rw [← HL.out.2]; exact Nat.le_refl _), HL.out.1]; exact HLL.out)
        have HOL := Lib.hid (show wr.ownsRow w1.heap.size 3 1 (.slice A5 q c5) q (L.map (Value.int .i64)) by rw [← HLJ.out]; exact HOX.out)
        clear hcc huu
        go_wp2
        go_region_held3 (fun w' => w'.cell? ⟨b.p, 2, none⟩ = some (.pointer (some ⟨b.rt, 0, none⟩)) ∧ w'.cell? ⟨b.p, 3, none⟩ = some (.pointer (some ⟨b.fi, 0, none⟩)) ∧ w'.cell? ⟨b.p, 4, none⟩ = some (.pointer (some ⟨b.hp.h, 0, none⟩)) ∧ w'.cell? ⟨b.p, 6, none⟩ = some (.int .i64 s.rate) ∧ w'.cell? ⟨b.p, 7, none⟩ = some (.int .i64 s.stk) ∧ w'.cell? ⟨b.p, 8, none⟩ = some (.int .i64 0) ∧ w'.cell? ⟨b.hp.h, 0, none⟩ = some (.pointer (some ⟨b.hp.sp.sp, 0, none⟩)) ∧ b.p < w.heap.size ∧ b.hp.h < w.heap.size ∧ w.heap.size < w'.heap.size ∧ Below w.heap.size wr w')
          (first | (with_reducible exact HS0.out.dr) | (with_reducible assumption) | (with_reducible exact InS.al (W := wr) (b := b) (s := s) (t4 := w.heap.size) (by with_reducible assumption) _) | (with_reducible exact ((((((HS6.out.st 0 _).st 1 _).st 2 _).st 3 _).st 4 _).st 5 _).st 6 _))
          (first
            | (go_at_call 79; refine (roots_c _ b.rt (((below_drew (Below.refl wr.heap.size wr)).block _ (lt_of_block H2.out.rts)).trans H2.out.rts)).mono ?_; rintro e w2 ⟨v2, rfl, ho, hb⟩; have hS := InS.on HS0.out.dr hb; obtain ⟨A2, c2, rfl⟩ := own_form ho; have HO2 := Lib.hid ho; have HS2 := Lib.hid hS; have HX2 := Lib.hid (below_of_drew hb); clear ho hb)
            | (go_at_call 69; refine (pending_c _ (H2.out.fin.below HX2.out) (by have := HWP.out.2; omega)).mono ?_; rintro e w3 ⟨v3, rfl, ho, hb⟩; have hS := InS.on HS2.out hb; obtain ⟨A3, c3, rfl⟩ := own_form ho; have HO3 := Lib.hid ho; have HX3 := Lib.hid (HX2.out.trans (hb.mono HX2.out.size)); have HS3 := Lib.hid hS; have HMG := Lib.hid (merge4_c w3 (owns_below HOL.out HX3.out) (owns_below HO2.out hb) HO3.out (by omega) HWP.out.2 HR.out); clear ho hb)
            | (go_at_call 141; refine HMG.out.mono ?_; rintro e w4 ⟨v4, rfl, ho, hb⟩; have hS := InS.on (HS3.out.al _) hb; obtain ⟨A4, c4, rfl⟩ := own_form ho; have HO4 := Lib.hid ho; have HX4 := Lib.hid ((HX3.out.alloc HX3.out.size _).trans (hb.mono (Nat.le_trans HX3.out.size (by simp)))); have HS4 := Lib.hid hS; clear ho hb)
            | (go_at_call 81; refine (finals_c _ (H2.out.fin.below HX4.out) (by have := HWP.out.1; omega)).mono ?_; rintro e w5 ⟨v5, rfl, ho, hb⟩; have hS := InS.on HS4.out hb; obtain ⟨A5', c5', rfl⟩ := own_form ho; have HO5 := Lib.hid ho; have HY5 := Lib.hid hb; have HX5 := Lib.hid (HX4.out.trans (hb.mono HX4.out.size)); have HS5 := Lib.hid hS; clear ho hb)
            | (go_at_call 75; refine (spCap_c _ (H2.out.heap.below HX5.out).sm cc HCU.out.1).mono ?_; rintro e w' ⟨rfl, rfl⟩; have hS := HS5.out)
            | (go_at_call 74; refine (used_c _ (H2.out.heap.below HX5.out).sm hm hn uu HCU.out.2).mono ?_; rintro e w6 ⟨rfl, hb⟩; have hS := InS.on HS5.out hb; have HX6 := Lib.hid (HX5.out.trans (hb.mono HX5.out.size)); have HY6 := Lib.hid hb; have HS6 := Lib.hid hS; have r4 := ((HBW.out.trans (HX6.out.mono HBW.out.size)).block _ (lt_of_block R4.out)).trans R4.out; have R46 := Lib.hid r4; have y0 := cell_of_row _ _ 0 _ _ _ r4; have y1 := cell_of_row _ _ 1 _ _ _ r4; have y2 := cell_of_row _ _ 2 _ _ _ r4; have y3 := cell_of_row _ _ 3 _ _ _ r4; have y4 := cell_of_row _ _ 4 _ _ _ r4; have y5 := cell_of_row _ _ 5 _ _ _ r4; have y6 := cell_of_row _ _ 6 _ _ _ r4; have x0 := frozen_of_row _ _ 0 _ _ r4; have x1 := frozen_of_row _ _ 1 _ _ r4; have x2 := frozen_of_row _ _ 2 _ _ r4; have x3 := frozen_of_row _ _ 3 _ _ r4; have x4 := frozen_of_row _ _ 4 _ _ r4; have x5 := frozen_of_row _ _ 5 _ _ r4; have x6 := frozen_of_row _ _ 6 _ _ r4; clear hb r4))
        go_wp2
        have hF := fin7 w6 w.heap.size 180 _ _ _ _ _ _ _ (.slice A4 R.length c4) (.slice A5' s.W.length c5') (.int .i64 0) (.int .i64 free) (.int .i64 s.rate) (.bool all) (.int .i64 s.stk) R46.out
        have hfr := frame7 w6 w.heap.size (.slice A4 R.length c4) (.slice A5' s.W.length c5') (.int .i64 0) (.int .i64 free) (.int .i64 s.rate) (.bool all) (.int .i64 s.stk)
        have q0 := cell_of_row _ _ 0 _ _ _ hF
        have q1 := cell_of_row _ _ 1 _ _ _ hF
        have q2 := cell_of_row _ _ 2 _ _ _ hF
        have q3 := cell_of_row _ _ 3 _ _ _ hF
        have q4 := cell_of_row _ _ 4 _ _ _ hF
        have q5 := cell_of_row _ _ 5 _ _ _ hF
        have q6 := cell_of_row _ _ 6 _ _ _ hF
        have hbr : Below w.heap.size w wr := HB0.out.trans (HBW.out.mono HB0.out.size)
        have hb6 := hbr.trans (HX6.out.mono hbr.size)
        have hbz := hb6.trans (hfr.below (B := w.heap.size) hb6.size (fun k _ e => by rw [e]; exact Nat.le_refl _))
        have o4 : w6.ownsRow w.heap.size 3 1 (.slice A4 R.length c4) R.length (R.map (Value.int .i64)) := ownsRow_base_a (owns_below (owns_below HO4.out HY5.out) HY6.out) (Nat.le_trans hbr.size (Nat.le_trans HX3.out.size (by simp)))
        have o5 : w6.ownsRow w.heap.size 3 1 (.slice A5' s.W.length c5') s.W.length (s.W.map (Value.int .i64)) := ownsRow_base_a (owns_below HO5.out HY6.out) (Nat.le_trans hbr.size HX4.out.size)
        refine bodyPost_ret (v := .agg #[.slice A4 R.length c4, .slice A5' s.W.length c5', .int .i64 0, .int .i64 free, .int .i64 s.rate, .bool all, .int .i64 s.stk]) (by simp [results, Tryz.results114, go_sem, q0, q1, q2, q3, q4, q5, q6]) rfl ⟨A4, c4, A5', c5', rfl, hbz, hfr.owns o4 (fun k hk e => own_ne o4 R46.out (by decide) (e ▸ hk)), hfr.owns o5 (fun k hk e => own_ne o5 R46.out (by decide) (e ▸ hk))⟩
end Go.Proofs.YtibgbahaldojiaaGreat.Fns
