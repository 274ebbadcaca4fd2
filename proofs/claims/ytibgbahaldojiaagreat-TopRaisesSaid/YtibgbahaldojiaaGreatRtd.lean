/- Do: the operation's own function is looked up and called. -/
import Derived.Test.YtibgbahaldojiaaGreatRth
namespace Go.Proofs.YtibgbahaldojiaaGreat.Fns
open Go Go.RowKit
theorem Rt.side31 [Base] {w w' : World} {b : RtB} {s : RtS} {k : Nat} {cs : Array Value} (h : Rt w b s) (hk : w.heap[k]? = some (.cells cs 31 (0, 0))) (hf : Frame w w' (fun j => j = k)) : Rt w' b s := by
  obtain ⟨hr, vw, vp, h⟩ := h
  obtain ⟨c2, hc, _⟩ := h.hs.block
  refine ⟨hf.heap hr (heap_ne hr hk (cells_ne (by decide))), vw, vp, h.frame hf ⟨heap_ne h.pbox hk (cells_ne (by decide)), heap_ne h.rfbox hk (cells_ne (by decide)), heap_ne h.qbox hk (cells_ne (by decide)), heap_ne hc hk (cells_ne (by decide)), heap_ne h.rts hk (cells_ne (by decide))⟩ (fun j hj e => ?_) (fun j hj e => ?_)⟩
  · subst e; exact h.fin.apart hk (by rfl) hj
  · subst e
    rcases hj with hj | hj | hj
    · exact heap_ne hk h.heap.box (cells_ne (by decide)) hj
    · exact heap_ne hk h.heap.tab (cells_ne (by decide)) hj
    · exact h.heap.sm.apart hk (by rfl) hj
@[reducible] def OpS (g : Nat) (o A B C : Int) (w' : World) : Prop := w'.cell? ⟨g, 0, none⟩ = some (.int .i64 o) ∧ w'.cell? ⟨g, 1, none⟩ = some (.int .i64 A) ∧ w'.cell? ⟨g, 2, none⟩ = some (.int .i64 B) ∧ w'.cell? ⟨g, 3, none⟩ = some (.int .i64 C)
theorem OpS.of {w : World} {g : Nat} {o A B C : Int} (h1 : w.heap[g]? = some (.cells #[.int .i64 o, .int .i64 A, .int .i64 B, .int .i64 C] 34 (0, 0))) : OpS g o A B C w :=
  ⟨cell_of_row _ _ 0 _ _ _ h1, cell_of_row _ _ 1 _ _ _ h1, cell_of_row _ _ 2 _ _ _ h1, cell_of_row _ _ 3 _ _ _ h1⟩
theorem fin2 (w1 : World) (k : Nat) (t : TypeId) (a b u0 u1 : Value) (hr : w1.heap[k]? = some (.cells #[a, b] t (0, 0))) : ((w1.setCell ⟨k, 0, none⟩ u0).setCell ⟨k, 1, none⟩ u1).heap[k]? = some (.cells #[u0, u1] t (0, 0)) := by
  have h1 : (w1.setCell ⟨k, 0, none⟩ u0).heap[k]? = some (.cells #[u0, b] t (0, 0)) := by rw [heap_setCell_same w1 k 0 _ _ _ hr]; rfl
  rw [heap_setCell_same _ k 1 _ _ _ h1]; rfl
theorem frame2 (w1 : World) (k : Nat) (u0 u1 : Value) : Frame w1 ((w1.setCell ⟨k, 0, none⟩ u0).setCell ⟨k, 1, none⟩ u1) (fun j => j = k) :=
  (((Frame.refl w1 (fun j => j = k)).setCell (p := ⟨k, 0, none⟩) (fun _ => rfl) u0).setCell (p := ⟨k, 1, none⟩) (fun _ => rfl) u1)
set_option maxRecDepth 100000 in
set_option maxHeartbeats 4000000 in
theorem do3 [Base] (w : World) {b : RtB} {s : RtS} (h : Rt w b s) (A B C n : Int) (s2 : RtS) (hop : ∀ w1 g1 g2, Rt w1 b s → w1.heap[g1]? = some (.cells #[.pointer (some ⟨b.r, 0, none⟩)] 22 (0, 0)) → w1.heap[g2]? = some (.cells #[.int .i64 2] 3 (0, 0)) → Calls Tryz.prog 46 #[opv 3 A B C, .pointer (some ⟨g1, 0, none⟩), .pointer (some ⟨g2, 0, none⟩)] w1 fun e w' => ∃ g', e = .returned (.tuple #[.int .i64 n, .int .i64 0]) ∧ Rt w' (b.on g') s2 ∧ Keep w1 w') :
    Calls Tryz.prog 7 #[.pointer (some ⟨b.r, 0, none⟩), opv 3 A B C] w fun e w' => e = .returned (.agg #[.int .i64 0, .int .i64 n]) ∧ (∃ g', Rt w' (b.on g') s2) ∧ Keep w w' := by
  have hb1 : Below w.heap.size w ((w.alloc (.cells #[.int .i64 3, .int .i64 A, .int .i64 B, .int .i64 C] 34)).alloc (.cells #[.int .i64 0, .int .i64 0] 31)) := ((Below.refl _ _).alloc (Nat.le_refl _) _).alloc (by simp) _
  have RB := Lib.hid (show ((w.alloc (.cells #[.int .i64 3, .int .i64 A, .int .i64 B, .int .i64 C] 34)).alloc (.cells #[.int .i64 0, .int .i64 0] 31)).drew.heap[w.heap.size]? = _ from (((Below.refl _ _).alloc (Nat.le_refl _) _).block w.heap.size (by simp)).trans (heap_alloc_new w (.cells #[.int .i64 3, .int .i64 A, .int .i64 B, .int .i64 C] 34)))
  have RA := Lib.hid (show ((w.alloc (.cells #[.int .i64 3, .int .i64 A, .int .i64 B, .int .i64 C] 34)).alloc (.cells #[.int .i64 0, .int .i64 0] 31)).drew.heap[w.heap.size + 1]? = some (.cells #[.int .i64 0, .int .i64 0] 31 (0, 0)) by
    have := heap_alloc_new (w.alloc (.cells #[.int .i64 3, .int .i64 A, .int .i64 B, .int .i64 C] 34)) (.cells #[.int .i64 0, .int .i64 0] 31)
    rw [show (w.alloc (.cells #[.int .i64 3, .int .i64 A, .int .i64 B, .int .i64 C] 34)).heap.size = w.heap.size + 1 by simp] at this
    exact this)
  have HB := Lib.hid (below_drew hb1)
  have HSZ := Lib.hid (show ((w.alloc (.cells #[.int .i64 3, .int .i64 A, .int .i64 B, .int .i64 C] 34)).alloc (.cells #[.int .i64 0, .int .i64 0] 31)).drew.heap.size = w.heap.size + 1 + 1 by show ((w.alloc (.cells #[.int .i64 3, .int .i64 A, .int .i64 B, .int .i64 C] 34)).alloc (.cells #[.int .i64 0, .int .i64 0] 31)).heap.size = w.heap.size + 1 + 1; simp)
  have HH := Lib.hid h
  have HOP := Lib.hid hop
  have Z0 := Lib.hid (OpS.of RB.out)
  clear h hop hb1
  unfold opv at HOP ⊢
  go_enter Tryz.func7, Tryz.ntmps7
  go_wp2_with fail
  go_region_held3 (fun w' => w'.cell? ⟨w.heap.size, 0, none⟩ = some (.int .i64 3) ∧ w'.cell? ⟨w.heap.size, 1, none⟩ = some (.int .i64 A) ∧ w'.cell? ⟨w.heap.size, 2, none⟩ = some (.int .i64 B) ∧ w'.cell? ⟨w.heap.size, 3, none⟩ = some (.int .i64 C))
    (first | (with_reducible exact hS) | (with_reducible exact Z0.out))
    ((go_at_call 11; refine (handlers_c _ b.r).mono ?_; rintro e w2 ⟨g1, g2, g3, g4, rfl, hm⟩; have HB2 := Lib.hid (HB.out.trans (hm.below.mono HB.out.size)); have RB2 := Lib.hid ((hm.below.block _ (lt_of_block RB.out)).trans RB.out); have RA2 := Lib.hid ((hm.below.block _ (lt_of_block RA.out)).trans RA.out); have hS := OpS.of RB2.out; have hm2 := hm.map; rw [HSZ.out] at hm2; have hl := lookup_hit Tryz.underlying45 w2 hm2 3 (.func (.func 46) #[] #[.pointer (some ⟨g1, 0, none⟩), .pointer (some ⟨g2, 0, none⟩)]) 2 true (by rfl); clear hm2; have HHM := Lib.hid (HH.out.below HB2.out); have R22 := Lib.hid (hm.rows (g1, .cells #[.pointer (some ⟨b.r, 0, none⟩)] 22) (by simp)).1; have R3 := Lib.hid (hm.rows (g2, .cells #[.int .i64 2] 3) (by simp)).1; clear hm))
  obtain ⟨s0, s1, s2', s3⟩ := OpS.of RB2.out
  go_wp2_with (go_at_call 46; refine (HOP.out _ _ _ HHM.out R22.out R3.out).mono ?_; rintro e w3 ⟨g', rfl, hh, hkp⟩; have H3 := Lib.hid hh; have K3 := Lib.hid ((Keep.of_below HB2.out).trans hkp); have ra := (hkp.2 _ _ _ (by rfl) RA2.out); have RA3 := Lib.hid ra; have t0 := cell_of_row _ _ 0 _ _ _ ra; have t1 := cell_of_row _ _ 1 _ _ _ ra; have u0 := frozen_of_row _ _ 0 _ _ ra; have u1 := frozen_of_row _ _ 1 _ _ ra; clear hh hkp ra)
  have hF := fin2 _ _ _ _ _ (.int .i64 0) (.int .i64 n) RA3.out
  have q0 := cell_of_row _ _ 0 _ _ _ hF
  have q1 := cell_of_row _ _ 1 _ _ _ hF
  refine bodyPost_ret (v := .agg #[.int .i64 0, .int .i64 n]) (by simp [results, Tryz.results7, go_sem, q0, q1]) rfl ⟨rfl, ⟨g', H3.out.side31 RA3.out (frame2 _ _ _ _)⟩, Keep.side (k := w.heap.size + 1) K3.out (frame2 _ _ _ _) (Nat.le_succ _)⟩
set_option maxRecDepth 100000 in
set_option maxHeartbeats 4000000 in
theorem do4 [Base] (w : World) {b : RtB} {s : RtS} (h : Rt w b s) (A B C n : Int) (s2 : RtS) (hop : ∀ w1 g1 g2, Rt w1 b s → w1.heap[g1]? = some (.cells #[.pointer (some ⟨b.r, 0, none⟩)] 22 (0, 0)) → w1.heap[g2]? = some (.cells #[.int .i64 3] 3 (0, 0)) → Calls Tryz.prog 46 #[opv 4 A B C, .pointer (some ⟨g1, 0, none⟩), .pointer (some ⟨g2, 0, none⟩)] w1 fun e w' => ∃ g', e = .returned (.tuple #[.int .i64 n, .int .i64 0]) ∧ Rt w' (b.on g') s2 ∧ Keep w1 w') :
    Calls Tryz.prog 7 #[.pointer (some ⟨b.r, 0, none⟩), opv 4 A B C] w fun e w' => e = .returned (.agg #[.int .i64 0, .int .i64 n]) ∧ (∃ g', Rt w' (b.on g') s2) ∧ Keep w w' := by
  have hb1 : Below w.heap.size w ((w.alloc (.cells #[.int .i64 4, .int .i64 A, .int .i64 B, .int .i64 C] 34)).alloc (.cells #[.int .i64 0, .int .i64 0] 31)) := ((Below.refl _ _).alloc (Nat.le_refl _) _).alloc (by simp) _
  have RB := Lib.hid (show ((w.alloc (.cells #[.int .i64 4, .int .i64 A, .int .i64 B, .int .i64 C] 34)).alloc (.cells #[.int .i64 0, .int .i64 0] 31)).drew.heap[w.heap.size]? = _ from (((Below.refl _ _).alloc (Nat.le_refl _) _).block w.heap.size (by simp)).trans (heap_alloc_new w (.cells #[.int .i64 4, .int .i64 A, .int .i64 B, .int .i64 C] 34)))
  have RA := Lib.hid (show ((w.alloc (.cells #[.int .i64 4, .int .i64 A, .int .i64 B, .int .i64 C] 34)).alloc (.cells #[.int .i64 0, .int .i64 0] 31)).drew.heap[w.heap.size + 1]? = some (.cells #[.int .i64 0, .int .i64 0] 31 (0, 0)) by
    have := heap_alloc_new (w.alloc (.cells #[.int .i64 4, .int .i64 A, .int .i64 B, .int .i64 C] 34)) (.cells #[.int .i64 0, .int .i64 0] 31)
    rw [show (w.alloc (.cells #[.int .i64 4, .int .i64 A, .int .i64 B, .int .i64 C] 34)).heap.size = w.heap.size + 1 by simp] at this
    exact this)
  have HB := Lib.hid (below_drew hb1)
  have HSZ := Lib.hid (show ((w.alloc (.cells #[.int .i64 4, .int .i64 A, .int .i64 B, .int .i64 C] 34)).alloc (.cells #[.int .i64 0, .int .i64 0] 31)).drew.heap.size = w.heap.size + 1 + 1 by show ((w.alloc (.cells #[.int .i64 4, .int .i64 A, .int .i64 B, .int .i64 C] 34)).alloc (.cells #[.int .i64 0, .int .i64 0] 31)).heap.size = w.heap.size + 1 + 1; simp)
  have HH := Lib.hid h
  have HOP := Lib.hid hop
  have Z0 := Lib.hid (OpS.of RB.out)
  clear h hop hb1
  unfold opv at HOP ⊢
  go_enter Tryz.func7, Tryz.ntmps7
  go_wp2_with fail
  go_region_held3 (fun w' => w'.cell? ⟨w.heap.size, 0, none⟩ = some (.int .i64 4) ∧ w'.cell? ⟨w.heap.size, 1, none⟩ = some (.int .i64 A) ∧ w'.cell? ⟨w.heap.size, 2, none⟩ = some (.int .i64 B) ∧ w'.cell? ⟨w.heap.size, 3, none⟩ = some (.int .i64 C))
    (first | (with_reducible exact hS) | (with_reducible exact Z0.out))
    ((go_at_call 11; refine (handlers_c _ b.r).mono ?_; rintro e w2 ⟨g1, g2, g3, g4, rfl, hm⟩; have HB2 := Lib.hid (HB.out.trans (hm.below.mono HB.out.size)); have RB2 := Lib.hid ((hm.below.block _ (lt_of_block RB.out)).trans RB.out); have RA2 := Lib.hid ((hm.below.block _ (lt_of_block RA.out)).trans RA.out); have hS := OpS.of RB2.out; have hm2 := hm.map; rw [HSZ.out] at hm2; have hl := lookup_hit Tryz.underlying45 w2 hm2 4 (.func (.func 46) #[] #[.pointer (some ⟨g3, 0, none⟩), .pointer (some ⟨g4, 0, none⟩)]) 3 true (by rfl); clear hm2; have HHM := Lib.hid (HH.out.below HB2.out); have R22 := Lib.hid (hm.rows (g3, .cells #[.pointer (some ⟨b.r, 0, none⟩)] 22) (by simp)).1; have R3 := Lib.hid (hm.rows (g4, .cells #[.int .i64 3] 3) (by simp)).1; clear hm))
  obtain ⟨s0, s1, s2', s3⟩ := OpS.of RB2.out
  go_wp2_with (go_at_call 46; refine (HOP.out _ _ _ HHM.out R22.out R3.out).mono ?_; rintro e w3 ⟨g', rfl, hh, hkp⟩; have H3 := Lib.hid hh; have K3 := Lib.hid ((Keep.of_below HB2.out).trans hkp); have ra := (hkp.2 _ _ _ (by rfl) RA2.out); have RA3 := Lib.hid ra; have t0 := cell_of_row _ _ 0 _ _ _ ra; have t1 := cell_of_row _ _ 1 _ _ _ ra; have u0 := frozen_of_row _ _ 0 _ _ ra; have u1 := frozen_of_row _ _ 1 _ _ ra; clear hh hkp ra)
  have hF := fin2 _ _ _ _ _ (.int .i64 0) (.int .i64 n) RA3.out
  have q0 := cell_of_row _ _ 0 _ _ _ hF
  have q1 := cell_of_row _ _ 1 _ _ _ hF
  refine bodyPost_ret (v := .agg #[.int .i64 0, .int .i64 n]) (by simp [results, Tryz.results7, go_sem, q0, q1]) rfl ⟨rfl, ⟨g', H3.out.side31 RA3.out (frame2 _ _ _ _)⟩, Keep.side (k := w.heap.size + 1) K3.out (frame2 _ _ _ _) (Nat.le_succ _)⟩
set_option maxRecDepth 100000 in
set_option maxHeartbeats 4000000 in
theorem do5 [Base] (w : World) {b : RtB} {s : RtS} (h : Rt w b s) (A B C n : Int) (s2 : RtS) (hop : ∀ w1, Rt w1 b s → Calls Tryz.prog 22 #[.pointer (some ⟨b.r, 0, none⟩), opv 5 A B C] w1 fun e w' => ∃ g', e = .returned (.tuple #[.int .i64 n, .int .i64 0]) ∧ Rt w' (b.on g') s2 ∧ Keep w1 w') :
    Calls Tryz.prog 7 #[.pointer (some ⟨b.r, 0, none⟩), opv 5 A B C] w fun e w' => e = .returned (.agg #[.int .i64 0, .int .i64 n]) ∧ (∃ g', Rt w' (b.on g') s2) ∧ Keep w w' := by
  have hb1 : Below w.heap.size w ((w.alloc (.cells #[.int .i64 5, .int .i64 A, .int .i64 B, .int .i64 C] 34)).alloc (.cells #[.int .i64 0, .int .i64 0] 31)) := ((Below.refl _ _).alloc (Nat.le_refl _) _).alloc (by simp) _
  have RB := Lib.hid (show ((w.alloc (.cells #[.int .i64 5, .int .i64 A, .int .i64 B, .int .i64 C] 34)).alloc (.cells #[.int .i64 0, .int .i64 0] 31)).drew.heap[w.heap.size]? = _ from (((Below.refl _ _).alloc (Nat.le_refl _) _).block w.heap.size (by simp)).trans (heap_alloc_new w (.cells #[.int .i64 5, .int .i64 A, .int .i64 B, .int .i64 C] 34)))
  have RA := Lib.hid (show ((w.alloc (.cells #[.int .i64 5, .int .i64 A, .int .i64 B, .int .i64 C] 34)).alloc (.cells #[.int .i64 0, .int .i64 0] 31)).drew.heap[w.heap.size + 1]? = some (.cells #[.int .i64 0, .int .i64 0] 31 (0, 0)) by
    have := heap_alloc_new (w.alloc (.cells #[.int .i64 5, .int .i64 A, .int .i64 B, .int .i64 C] 34)) (.cells #[.int .i64 0, .int .i64 0] 31)
    rw [show (w.alloc (.cells #[.int .i64 5, .int .i64 A, .int .i64 B, .int .i64 C] 34)).heap.size = w.heap.size + 1 by simp] at this
    exact this)
  have HB := Lib.hid (below_drew hb1)
  have HSZ := Lib.hid (show ((w.alloc (.cells #[.int .i64 5, .int .i64 A, .int .i64 B, .int .i64 C] 34)).alloc (.cells #[.int .i64 0, .int .i64 0] 31)).drew.heap.size = w.heap.size + 1 + 1 by show ((w.alloc (.cells #[.int .i64 5, .int .i64 A, .int .i64 B, .int .i64 C] 34)).alloc (.cells #[.int .i64 0, .int .i64 0] 31)).heap.size = w.heap.size + 1 + 1; simp)
  have HH := Lib.hid h
  have HOP := Lib.hid hop
  have Z0 := Lib.hid (OpS.of RB.out)
  clear h hop hb1
  unfold opv at HOP ⊢
  go_enter Tryz.func7, Tryz.ntmps7
  go_wp2_with fail
  go_region_held3 (fun w' => w'.cell? ⟨w.heap.size, 0, none⟩ = some (.int .i64 5) ∧ w'.cell? ⟨w.heap.size, 1, none⟩ = some (.int .i64 A) ∧ w'.cell? ⟨w.heap.size, 2, none⟩ = some (.int .i64 B) ∧ w'.cell? ⟨w.heap.size, 3, none⟩ = some (.int .i64 C))
    (first | (with_reducible exact hS) | (with_reducible exact Z0.out))
    ((go_at_call 11; refine (handlers_c _ b.r).mono ?_; rintro e w2 ⟨g1, g2, g3, g4, rfl, hm⟩; have HB2 := Lib.hid (HB.out.trans (hm.below.mono HB.out.size)); have RB2 := Lib.hid ((hm.below.block _ (lt_of_block RB.out)).trans RB.out); have RA2 := Lib.hid ((hm.below.block _ (lt_of_block RA.out)).trans RA.out); have hS := OpS.of RB2.out; have hm2 := hm.map; rw [HSZ.out] at hm2; have hl := lookup_hit Tryz.underlying45 w2 hm2 5 (.func (.func 22) #[.pointer (some ⟨b.r, 0, none⟩)] #[]) 4 true (by rfl); clear hm2; have HHM := Lib.hid (HH.out.below HB2.out); clear hm))
  obtain ⟨s0, s1, s2', s3⟩ := OpS.of RB2.out
  go_wp2_with (go_at_call 22; refine (HOP.out _ HHM.out).mono ?_; rintro e w3 ⟨g', rfl, hh, hkp⟩; have H3 := Lib.hid hh; have K3 := Lib.hid ((Keep.of_below HB2.out).trans hkp); have ra := (hkp.2 _ _ _ (by rfl) RA2.out); have RA3 := Lib.hid ra; have t0 := cell_of_row _ _ 0 _ _ _ ra; have t1 := cell_of_row _ _ 1 _ _ _ ra; have u0 := frozen_of_row _ _ 0 _ _ ra; have u1 := frozen_of_row _ _ 1 _ _ ra; clear hh hkp ra)
  have hF := fin2 _ _ _ _ _ (.int .i64 0) (.int .i64 n) RA3.out
  have q0 := cell_of_row _ _ 0 _ _ _ hF
  have q1 := cell_of_row _ _ 1 _ _ _ hF
  refine bodyPost_ret (v := .agg #[.int .i64 0, .int .i64 n]) (by simp [results, Tryz.results7, go_sem, q0, q1]) rfl ⟨rfl, ⟨g', H3.out.side31 RA3.out (frame2 _ _ _ _)⟩, Keep.side (k := w.heap.size + 1) K3.out (frame2 _ _ _ _) (Nat.le_succ _)⟩
set_option maxRecDepth 100000 in
set_option maxHeartbeats 4000000 in
theorem do6 [Base] (w : World) {b : RtB} {s : RtS} (h : Rt w b s) (A B C n : Int) (s2 : RtS) (hop : ∀ w1, Rt w1 b s → Calls Tryz.prog 23 #[.pointer (some ⟨b.r, 0, none⟩), opv 6 A B C] w1 fun e w' => ∃ g', e = .returned (.tuple #[.int .i64 n, .int .i64 0]) ∧ Rt w' (b.on g') s2 ∧ Keep w1 w') :
    Calls Tryz.prog 7 #[.pointer (some ⟨b.r, 0, none⟩), opv 6 A B C] w fun e w' => e = .returned (.agg #[.int .i64 0, .int .i64 n]) ∧ (∃ g', Rt w' (b.on g') s2) ∧ Keep w w' := by
  have hb1 : Below w.heap.size w ((w.alloc (.cells #[.int .i64 6, .int .i64 A, .int .i64 B, .int .i64 C] 34)).alloc (.cells #[.int .i64 0, .int .i64 0] 31)) := ((Below.refl _ _).alloc (Nat.le_refl _) _).alloc (by simp) _
  have RB := Lib.hid (show ((w.alloc (.cells #[.int .i64 6, .int .i64 A, .int .i64 B, .int .i64 C] 34)).alloc (.cells #[.int .i64 0, .int .i64 0] 31)).drew.heap[w.heap.size]? = _ from (((Below.refl _ _).alloc (Nat.le_refl _) _).block w.heap.size (by simp)).trans (heap_alloc_new w (.cells #[.int .i64 6, .int .i64 A, .int .i64 B, .int .i64 C] 34)))
  have RA := Lib.hid (show ((w.alloc (.cells #[.int .i64 6, .int .i64 A, .int .i64 B, .int .i64 C] 34)).alloc (.cells #[.int .i64 0, .int .i64 0] 31)).drew.heap[w.heap.size + 1]? = some (.cells #[.int .i64 0, .int .i64 0] 31 (0, 0)) by
    have := heap_alloc_new (w.alloc (.cells #[.int .i64 6, .int .i64 A, .int .i64 B, .int .i64 C] 34)) (.cells #[.int .i64 0, .int .i64 0] 31)
    rw [show (w.alloc (.cells #[.int .i64 6, .int .i64 A, .int .i64 B, .int .i64 C] 34)).heap.size = w.heap.size + 1 by simp] at this
    exact this)
  have HB := Lib.hid (below_drew hb1)
  have HSZ := Lib.hid (show ((w.alloc (.cells #[.int .i64 6, .int .i64 A, .int .i64 B, .int .i64 C] 34)).alloc (.cells #[.int .i64 0, .int .i64 0] 31)).drew.heap.size = w.heap.size + 1 + 1 by show ((w.alloc (.cells #[.int .i64 6, .int .i64 A, .int .i64 B, .int .i64 C] 34)).alloc (.cells #[.int .i64 0, .int .i64 0] 31)).heap.size = w.heap.size + 1 + 1; simp)
  have HH := Lib.hid h
  have HOP := Lib.hid hop
  have Z0 := Lib.hid (OpS.of RB.out)
  clear h hop hb1
  unfold opv at HOP ⊢
  go_enter Tryz.func7, Tryz.ntmps7
  go_wp2_with fail
  go_region_held3 (fun w' => w'.cell? ⟨w.heap.size, 0, none⟩ = some (.int .i64 6) ∧ w'.cell? ⟨w.heap.size, 1, none⟩ = some (.int .i64 A) ∧ w'.cell? ⟨w.heap.size, 2, none⟩ = some (.int .i64 B) ∧ w'.cell? ⟨w.heap.size, 3, none⟩ = some (.int .i64 C))
    (first | (with_reducible exact hS) | (with_reducible exact Z0.out))
    ((go_at_call 11; refine (handlers_c _ b.r).mono ?_; rintro e w2 ⟨g1, g2, g3, g4, rfl, hm⟩; have HB2 := Lib.hid (HB.out.trans (hm.below.mono HB.out.size)); have RB2 := Lib.hid ((hm.below.block _ (lt_of_block RB.out)).trans RB.out); have RA2 := Lib.hid ((hm.below.block _ (lt_of_block RA.out)).trans RA.out); have hS := OpS.of RB2.out; have hm2 := hm.map; rw [HSZ.out] at hm2; have hl := lookup_hit Tryz.underlying45 w2 hm2 6 (.func (.func 23) #[.pointer (some ⟨b.r, 0, none⟩)] #[]) 5 true (by rfl); clear hm2; have HHM := Lib.hid (HH.out.below HB2.out); clear hm))
  obtain ⟨s0, s1, s2', s3⟩ := OpS.of RB2.out
  go_wp2_with (go_at_call 23; refine (HOP.out _ HHM.out).mono ?_; rintro e w3 ⟨g', rfl, hh, hkp⟩; have H3 := Lib.hid hh; have K3 := Lib.hid ((Keep.of_below HB2.out).trans hkp); have ra := (hkp.2 _ _ _ (by rfl) RA2.out); have RA3 := Lib.hid ra; have t0 := cell_of_row _ _ 0 _ _ _ ra; have t1 := cell_of_row _ _ 1 _ _ _ ra; have u0 := frozen_of_row _ _ 0 _ _ ra; have u1 := frozen_of_row _ _ 1 _ _ ra; clear hh hkp ra)
  have hF := fin2 _ _ _ _ _ (.int .i64 0) (.int .i64 n) RA3.out
  have q0 := cell_of_row _ _ 0 _ _ _ hF
  have q1 := cell_of_row _ _ 1 _ _ _ hF
  refine bodyPost_ret (v := .agg #[.int .i64 0, .int .i64 n]) (by simp [results, Tryz.results7, go_sem, q0, q1]) rfl ⟨rfl, ⟨g', H3.out.side31 RA3.out (frame2 _ _ _ _)⟩, Keep.side (k := w.heap.size + 1) K3.out (frame2 _ _ _ _) (Nat.le_succ _)⟩
set_option maxRecDepth 100000 in
set_option maxHeartbeats 4000000 in
theorem do7 [Base] (w : World) {b : RtB} {s : RtS} (h : Rt w b s) (A B C n : Int) (s2 : RtS) (hop : ∀ w1, Rt w1 b s → Calls Tryz.prog 24 #[.pointer (some ⟨b.r, 0, none⟩), opv 7 A B C] w1 fun e w' => ∃ g', e = .returned (.tuple #[.int .i64 n, .int .i64 0]) ∧ Rt w' (b.on g') s2 ∧ Keep w1 w') :
    Calls Tryz.prog 7 #[.pointer (some ⟨b.r, 0, none⟩), opv 7 A B C] w fun e w' => e = .returned (.agg #[.int .i64 0, .int .i64 n]) ∧ (∃ g', Rt w' (b.on g') s2) ∧ Keep w w' := by
  have hb1 : Below w.heap.size w ((w.alloc (.cells #[.int .i64 7, .int .i64 A, .int .i64 B, .int .i64 C] 34)).alloc (.cells #[.int .i64 0, .int .i64 0] 31)) := ((Below.refl _ _).alloc (Nat.le_refl _) _).alloc (by simp) _
  have RB := Lib.hid (show ((w.alloc (.cells #[.int .i64 7, .int .i64 A, .int .i64 B, .int .i64 C] 34)).alloc (.cells #[.int .i64 0, .int .i64 0] 31)).drew.heap[w.heap.size]? = _ from (((Below.refl _ _).alloc (Nat.le_refl _) _).block w.heap.size (by simp)).trans (heap_alloc_new w (.cells #[.int .i64 7, .int .i64 A, .int .i64 B, .int .i64 C] 34)))
  have RA := Lib.hid (show ((w.alloc (.cells #[.int .i64 7, .int .i64 A, .int .i64 B, .int .i64 C] 34)).alloc (.cells #[.int .i64 0, .int .i64 0] 31)).drew.heap[w.heap.size + 1]? = some (.cells #[.int .i64 0, .int .i64 0] 31 (0, 0)) by
    have := heap_alloc_new (w.alloc (.cells #[.int .i64 7, .int .i64 A, .int .i64 B, .int .i64 C] 34)) (.cells #[.int .i64 0, .int .i64 0] 31)
    rw [show (w.alloc (.cells #[.int .i64 7, .int .i64 A, .int .i64 B, .int .i64 C] 34)).heap.size = w.heap.size + 1 by simp] at this
    exact this)
  have HB := Lib.hid (below_drew hb1)
  have HSZ := Lib.hid (show ((w.alloc (.cells #[.int .i64 7, .int .i64 A, .int .i64 B, .int .i64 C] 34)).alloc (.cells #[.int .i64 0, .int .i64 0] 31)).drew.heap.size = w.heap.size + 1 + 1 by show ((w.alloc (.cells #[.int .i64 7, .int .i64 A, .int .i64 B, .int .i64 C] 34)).alloc (.cells #[.int .i64 0, .int .i64 0] 31)).heap.size = w.heap.size + 1 + 1; simp)
  have HH := Lib.hid h
  have HOP := Lib.hid hop
  have Z0 := Lib.hid (OpS.of RB.out)
  clear h hop hb1
  unfold opv at HOP ⊢
  go_enter Tryz.func7, Tryz.ntmps7
  go_wp2_with fail
  go_region_held3 (fun w' => w'.cell? ⟨w.heap.size, 0, none⟩ = some (.int .i64 7) ∧ w'.cell? ⟨w.heap.size, 1, none⟩ = some (.int .i64 A) ∧ w'.cell? ⟨w.heap.size, 2, none⟩ = some (.int .i64 B) ∧ w'.cell? ⟨w.heap.size, 3, none⟩ = some (.int .i64 C))
    (first | (with_reducible exact hS) | (with_reducible exact Z0.out))
    ((go_at_call 11; refine (handlers_c _ b.r).mono ?_; rintro e w2 ⟨g1, g2, g3, g4, rfl, hm⟩; have HB2 := Lib.hid (HB.out.trans (hm.below.mono HB.out.size)); have RB2 := Lib.hid ((hm.below.block _ (lt_of_block RB.out)).trans RB.out); have RA2 := Lib.hid ((hm.below.block _ (lt_of_block RA.out)).trans RA.out); have hS := OpS.of RB2.out; have hm2 := hm.map; rw [HSZ.out] at hm2; have hl := lookup_hit Tryz.underlying45 w2 hm2 7 (.func (.func 24) #[.pointer (some ⟨b.r, 0, none⟩)] #[]) 6 true (by rfl); clear hm2; have HHM := Lib.hid (HH.out.below HB2.out); clear hm))
  obtain ⟨s0, s1, s2', s3⟩ := OpS.of RB2.out
  go_wp2_with (go_at_call 24; refine (HOP.out _ HHM.out).mono ?_; rintro e w3 ⟨g', rfl, hh, hkp⟩; have H3 := Lib.hid hh; have K3 := Lib.hid ((Keep.of_below HB2.out).trans hkp); have ra := (hkp.2 _ _ _ (by rfl) RA2.out); have RA3 := Lib.hid ra; have t0 := cell_of_row _ _ 0 _ _ _ ra; have t1 := cell_of_row _ _ 1 _ _ _ ra; have u0 := frozen_of_row _ _ 0 _ _ ra; have u1 := frozen_of_row _ _ 1 _ _ ra; clear hh hkp ra)
  have hF := fin2 _ _ _ _ _ (.int .i64 0) (.int .i64 n) RA3.out
  have q0 := cell_of_row _ _ 0 _ _ _ hF
  have q1 := cell_of_row _ _ 1 _ _ _ hF
  refine bodyPost_ret (v := .agg #[.int .i64 0, .int .i64 n]) (by simp [results, Tryz.results7, go_sem, q0, q1]) rfl ⟨rfl, ⟨g', H3.out.side31 RA3.out (frame2 _ _ _ _)⟩, Keep.side (k := w.heap.size + 1) K3.out (frame2 _ _ _ _) (Nat.le_succ _)⟩
set_option maxRecDepth 100000 in
set_option maxHeartbeats 4000000 in
theorem do8 [Base] (w : World) {b : RtB} {s : RtS} (h : Rt w b s) (A B C n : Int) (s2 : RtS) (hop : ∀ w1, Rt w1 b s → Calls Tryz.prog 25 #[.pointer (some ⟨b.r, 0, none⟩), opv 8 A B C] w1 fun e w' => ∃ g', e = .returned (.tuple #[.int .i64 n, .int .i64 0]) ∧ Rt w' (b.on g') s2 ∧ Keep w1 w') :
    Calls Tryz.prog 7 #[.pointer (some ⟨b.r, 0, none⟩), opv 8 A B C] w fun e w' => e = .returned (.agg #[.int .i64 0, .int .i64 n]) ∧ (∃ g', Rt w' (b.on g') s2) ∧ Keep w w' := by
  have hb1 : Below w.heap.size w ((w.alloc (.cells #[.int .i64 8, .int .i64 A, .int .i64 B, .int .i64 C] 34)).alloc (.cells #[.int .i64 0, .int .i64 0] 31)) := ((Below.refl _ _).alloc (Nat.le_refl _) _).alloc (by simp) _
  have RB := Lib.hid (show ((w.alloc (.cells #[.int .i64 8, .int .i64 A, .int .i64 B, .int .i64 C] 34)).alloc (.cells #[.int .i64 0, .int .i64 0] 31)).drew.heap[w.heap.size]? = _ from (((Below.refl _ _).alloc (Nat.le_refl _) _).block w.heap.size (by simp)).trans (heap_alloc_new w (.cells #[.int .i64 8, .int .i64 A, .int .i64 B, .int .i64 C] 34)))
  have RA := Lib.hid (show ((w.alloc (.cells #[.int .i64 8, .int .i64 A, .int .i64 B, .int .i64 C] 34)).alloc (.cells #[.int .i64 0, .int .i64 0] 31)).drew.heap[w.heap.size + 1]? = some (.cells #[.int .i64 0, .int .i64 0] 31 (0, 0)) by
    have := heap_alloc_new (w.alloc (.cells #[.int .i64 8, .int .i64 A, .int .i64 B, .int .i64 C] 34)) (.cells #[.int .i64 0, .int .i64 0] 31)
    rw [show (w.alloc (.cells #[.int .i64 8, .int .i64 A, .int .i64 B, .int .i64 C] 34)).heap.size = w.heap.size + 1 by simp] at this
    exact this)
  have HB := Lib.hid (below_drew hb1)
  have HSZ := Lib.hid (show ((w.alloc (.cells #[.int .i64 8, .int .i64 A, .int .i64 B, .int .i64 C] 34)).alloc (.cells #[.int .i64 0, .int .i64 0] 31)).drew.heap.size = w.heap.size + 1 + 1 by show ((w.alloc (.cells #[.int .i64 8, .int .i64 A, .int .i64 B, .int .i64 C] 34)).alloc (.cells #[.int .i64 0, .int .i64 0] 31)).heap.size = w.heap.size + 1 + 1; simp)
  have HH := Lib.hid h
  have HOP := Lib.hid hop
  have Z0 := Lib.hid (OpS.of RB.out)
  clear h hop hb1
  unfold opv at HOP ⊢
  go_enter Tryz.func7, Tryz.ntmps7
  go_wp2_with fail
  go_region_held3 (fun w' => w'.cell? ⟨w.heap.size, 0, none⟩ = some (.int .i64 8) ∧ w'.cell? ⟨w.heap.size, 1, none⟩ = some (.int .i64 A) ∧ w'.cell? ⟨w.heap.size, 2, none⟩ = some (.int .i64 B) ∧ w'.cell? ⟨w.heap.size, 3, none⟩ = some (.int .i64 C))
    (first | (with_reducible exact hS) | (with_reducible exact Z0.out))
    ((go_at_call 11; refine (handlers_c _ b.r).mono ?_; rintro e w2 ⟨g1, g2, g3, g4, rfl, hm⟩; have HB2 := Lib.hid (HB.out.trans (hm.below.mono HB.out.size)); have RB2 := Lib.hid ((hm.below.block _ (lt_of_block RB.out)).trans RB.out); have RA2 := Lib.hid ((hm.below.block _ (lt_of_block RA.out)).trans RA.out); have hS := OpS.of RB2.out; have hm2 := hm.map; rw [HSZ.out] at hm2; have hl := lookup_hit Tryz.underlying45 w2 hm2 8 (.func (.func 25) #[.pointer (some ⟨b.r, 0, none⟩)] #[]) 7 true (by rfl); clear hm2; have HHM := Lib.hid (HH.out.below HB2.out); clear hm))
  obtain ⟨s0, s1, s2', s3⟩ := OpS.of RB2.out
  go_wp2_with (go_at_call 25; refine (HOP.out _ HHM.out).mono ?_; rintro e w3 ⟨g', rfl, hh, hkp⟩; have H3 := Lib.hid hh; have K3 := Lib.hid ((Keep.of_below HB2.out).trans hkp); have ra := (hkp.2 _ _ _ (by rfl) RA2.out); have RA3 := Lib.hid ra; have t0 := cell_of_row _ _ 0 _ _ _ ra; have t1 := cell_of_row _ _ 1 _ _ _ ra; have u0 := frozen_of_row _ _ 0 _ _ ra; have u1 := frozen_of_row _ _ 1 _ _ ra; clear hh hkp ra)
  have hF := fin2 _ _ _ _ _ (.int .i64 0) (.int .i64 n) RA3.out
  have q0 := cell_of_row _ _ 0 _ _ _ hF
  have q1 := cell_of_row _ _ 1 _ _ _ hF
  refine bodyPost_ret (v := .agg #[.int .i64 0, .int .i64 n]) (by simp [results, Tryz.results7, go_sem, q0, q1]) rfl ⟨rfl, ⟨g', H3.out.side31 RA3.out (frame2 _ _ _ _)⟩, Keep.side (k := w.heap.size + 1) K3.out (frame2 _ _ _ _) (Nat.le_succ _)⟩
set_option maxRecDepth 100000 in
set_option maxHeartbeats 4000000 in
theorem do17 [Base] (w : World) {b : RtB} {s : RtS} (h : Rt w b s) (A B C n : Int) (s2 : RtS) (hop : ∀ w1, Rt w1 b s → Calls Tryz.prog 34 #[.pointer (some ⟨b.r, 0, none⟩), opv 17 A B C] w1 fun e w' => ∃ g', e = .returned (.tuple #[.int .i64 n, .int .i64 0]) ∧ Rt w' (b.on g') s2 ∧ Keep w1 w') :
    Calls Tryz.prog 7 #[.pointer (some ⟨b.r, 0, none⟩), opv 17 A B C] w fun e w' => e = .returned (.agg #[.int .i64 0, .int .i64 n]) ∧ (∃ g', Rt w' (b.on g') s2) ∧ Keep w w' := by
  have hb1 : Below w.heap.size w ((w.alloc (.cells #[.int .i64 17, .int .i64 A, .int .i64 B, .int .i64 C] 34)).alloc (.cells #[.int .i64 0, .int .i64 0] 31)) := ((Below.refl _ _).alloc (Nat.le_refl _) _).alloc (by simp) _
  have RB := Lib.hid (show ((w.alloc (.cells #[.int .i64 17, .int .i64 A, .int .i64 B, .int .i64 C] 34)).alloc (.cells #[.int .i64 0, .int .i64 0] 31)).drew.heap[w.heap.size]? = _ from (((Below.refl _ _).alloc (Nat.le_refl _) _).block w.heap.size (by simp)).trans (heap_alloc_new w (.cells #[.int .i64 17, .int .i64 A, .int .i64 B, .int .i64 C] 34)))
  have RA := Lib.hid (show ((w.alloc (.cells #[.int .i64 17, .int .i64 A, .int .i64 B, .int .i64 C] 34)).alloc (.cells #[.int .i64 0, .int .i64 0] 31)).drew.heap[w.heap.size + 1]? = some (.cells #[.int .i64 0, .int .i64 0] 31 (0, 0)) by
    have := heap_alloc_new (w.alloc (.cells #[.int .i64 17, .int .i64 A, .int .i64 B, .int .i64 C] 34)) (.cells #[.int .i64 0, .int .i64 0] 31)
    rw [show (w.alloc (.cells #[.int .i64 17, .int .i64 A, .int .i64 B, .int .i64 C] 34)).heap.size = w.heap.size + 1 by simp] at this
    exact this)
  have HB := Lib.hid (below_drew hb1)
  have HSZ := Lib.hid (show ((w.alloc (.cells #[.int .i64 17, .int .i64 A, .int .i64 B, .int .i64 C] 34)).alloc (.cells #[.int .i64 0, .int .i64 0] 31)).drew.heap.size = w.heap.size + 1 + 1 by show ((w.alloc (.cells #[.int .i64 17, .int .i64 A, .int .i64 B, .int .i64 C] 34)).alloc (.cells #[.int .i64 0, .int .i64 0] 31)).heap.size = w.heap.size + 1 + 1; simp)
  have HH := Lib.hid h
  have HOP := Lib.hid hop
  have Z0 := Lib.hid (OpS.of RB.out)
  clear h hop hb1
  unfold opv at HOP ⊢
  go_enter Tryz.func7, Tryz.ntmps7
  go_wp2_with fail
  go_region_held3 (fun w' => w'.cell? ⟨w.heap.size, 0, none⟩ = some (.int .i64 17) ∧ w'.cell? ⟨w.heap.size, 1, none⟩ = some (.int .i64 A) ∧ w'.cell? ⟨w.heap.size, 2, none⟩ = some (.int .i64 B) ∧ w'.cell? ⟨w.heap.size, 3, none⟩ = some (.int .i64 C))
    (first | (with_reducible exact hS) | (with_reducible exact Z0.out))
    ((go_at_call 11; refine (handlers_c _ b.r).mono ?_; rintro e w2 ⟨g1, g2, g3, g4, rfl, hm⟩; have HB2 := Lib.hid (HB.out.trans (hm.below.mono HB.out.size)); have RB2 := Lib.hid ((hm.below.block _ (lt_of_block RB.out)).trans RB.out); have RA2 := Lib.hid ((hm.below.block _ (lt_of_block RA.out)).trans RA.out); have hS := OpS.of RB2.out; have hm2 := hm.map; rw [HSZ.out] at hm2; have hl := lookup_hit Tryz.underlying45 w2 hm2 17 (.func (.func 34) #[.pointer (some ⟨b.r, 0, none⟩)] #[]) 16 true (by rfl); clear hm2; have HHM := Lib.hid (HH.out.below HB2.out); clear hm))
  obtain ⟨s0, s1, s2', s3⟩ := OpS.of RB2.out
  go_wp2_with (go_at_call 34; refine (HOP.out _ HHM.out).mono ?_; rintro e w3 ⟨g', rfl, hh, hkp⟩; have H3 := Lib.hid hh; have K3 := Lib.hid ((Keep.of_below HB2.out).trans hkp); have ra := (hkp.2 _ _ _ (by rfl) RA2.out); have RA3 := Lib.hid ra; have t0 := cell_of_row _ _ 0 _ _ _ ra; have t1 := cell_of_row _ _ 1 _ _ _ ra; have u0 := frozen_of_row _ _ 0 _ _ ra; have u1 := frozen_of_row _ _ 1 _ _ ra; clear hh hkp ra)
  have hF := fin2 _ _ _ _ _ (.int .i64 0) (.int .i64 n) RA3.out
  have q0 := cell_of_row _ _ 0 _ _ _ hF
  have q1 := cell_of_row _ _ 1 _ _ _ hF
  refine bodyPost_ret (v := .agg #[.int .i64 0, .int .i64 n]) (by simp [results, Tryz.results7, go_sem, q0, q1]) rfl ⟨rfl, ⟨g', H3.out.side31 RA3.out (frame2 _ _ _ _)⟩, Keep.side (k := w.heap.size + 1) K3.out (frame2 _ _ _ _) (Nat.le_succ _)⟩
set_option maxRecDepth 100000 in
set_option maxHeartbeats 4000000 in
theorem do18 [Base] (w : World) {b : RtB} {s : RtS} (h : Rt w b s) (A B C n : Int) (s2 : RtS) (hop : ∀ w1, Rt w1 b s → Calls Tryz.prog 35 #[.pointer (some ⟨b.r, 0, none⟩), opv 18 A B C] w1 fun e w' => ∃ g', e = .returned (.tuple #[.int .i64 n, .int .i64 0]) ∧ Rt w' (b.on g') s2 ∧ Keep w1 w') :
    Calls Tryz.prog 7 #[.pointer (some ⟨b.r, 0, none⟩), opv 18 A B C] w fun e w' => e = .returned (.agg #[.int .i64 0, .int .i64 n]) ∧ (∃ g', Rt w' (b.on g') s2) ∧ Keep w w' := by
  have hb1 : Below w.heap.size w ((w.alloc (.cells #[.int .i64 18, .int .i64 A, .int .i64 B, .int .i64 C] 34)).alloc (.cells #[.int .i64 0, .int .i64 0] 31)) := ((Below.refl _ _).alloc (Nat.le_refl _) _).alloc (by simp) _
  have RB := Lib.hid (show ((w.alloc (.cells #[.int .i64 18, .int .i64 A, .int .i64 B, .int .i64 C] 34)).alloc (.cells #[.int .i64 0, .int .i64 0] 31)).drew.heap[w.heap.size]? = _ from (((Below.refl _ _).alloc (Nat.le_refl _) _).block w.heap.size (by simp)).trans (heap_alloc_new w (.cells #[.int .i64 18, .int .i64 A, .int .i64 B, .int .i64 C] 34)))
  have RA := Lib.hid (show ((w.alloc (.cells #[.int .i64 18, .int .i64 A, .int .i64 B, .int .i64 C] 34)).alloc (.cells #[.int .i64 0, .int .i64 0] 31)).drew.heap[w.heap.size + 1]? = some (.cells #[.int .i64 0, .int .i64 0] 31 (0, 0)) by
    have := heap_alloc_new (w.alloc (.cells #[.int .i64 18, .int .i64 A, .int .i64 B, .int .i64 C] 34)) (.cells #[.int .i64 0, .int .i64 0] 31)
    rw [show (w.alloc (.cells #[.int .i64 18, .int .i64 A, .int .i64 B, .int .i64 C] 34)).heap.size = w.heap.size + 1 by simp] at this
    exact this)
  have HB := Lib.hid (below_drew hb1)
  have HSZ := Lib.hid (show ((w.alloc (.cells #[.int .i64 18, .int .i64 A, .int .i64 B, .int .i64 C] 34)).alloc (.cells #[.int .i64 0, .int .i64 0] 31)).drew.heap.size = w.heap.size + 1 + 1 by show ((w.alloc (.cells #[.int .i64 18, .int .i64 A, .int .i64 B, .int .i64 C] 34)).alloc (.cells #[.int .i64 0, .int .i64 0] 31)).heap.size = w.heap.size + 1 + 1; simp)
  have HH := Lib.hid h
  have HOP := Lib.hid hop
  have Z0 := Lib.hid (OpS.of RB.out)
  clear h hop hb1
  unfold opv at HOP ⊢
  go_enter Tryz.func7, Tryz.ntmps7
  go_wp2_with fail
  go_region_held3 (fun w' => w'.cell? ⟨w.heap.size, 0, none⟩ = some (.int .i64 18) ∧ w'.cell? ⟨w.heap.size, 1, none⟩ = some (.int .i64 A) ∧ w'.cell? ⟨w.heap.size, 2, none⟩ = some (.int .i64 B) ∧ w'.cell? ⟨w.heap.size, 3, none⟩ = some (.int .i64 C))
    (first | (with_reducible exact hS) | (with_reducible exact Z0.out))
    ((go_at_call 11; refine (handlers_c _ b.r).mono ?_; rintro e w2 ⟨g1, g2, g3, g4, rfl, hm⟩; have HB2 := Lib.hid (HB.out.trans (hm.below.mono HB.out.size)); have RB2 := Lib.hid ((hm.below.block _ (lt_of_block RB.out)).trans RB.out); have RA2 := Lib.hid ((hm.below.block _ (lt_of_block RA.out)).trans RA.out); have hS := OpS.of RB2.out; have hm2 := hm.map; rw [HSZ.out] at hm2; have hl := lookup_hit Tryz.underlying45 w2 hm2 18 (.func (.func 35) #[.pointer (some ⟨b.r, 0, none⟩)] #[]) 17 true (by rfl); clear hm2; have HHM := Lib.hid (HH.out.below HB2.out); clear hm))
  obtain ⟨s0, s1, s2', s3⟩ := OpS.of RB2.out
  go_wp2_with (go_at_call 35; refine (HOP.out _ HHM.out).mono ?_; rintro e w3 ⟨g', rfl, hh, hkp⟩; have H3 := Lib.hid hh; have K3 := Lib.hid ((Keep.of_below HB2.out).trans hkp); have ra := (hkp.2 _ _ _ (by rfl) RA2.out); have RA3 := Lib.hid ra; have t0 := cell_of_row _ _ 0 _ _ _ ra; have t1 := cell_of_row _ _ 1 _ _ _ ra; have u0 := frozen_of_row _ _ 0 _ _ ra; have u1 := frozen_of_row _ _ 1 _ _ ra; clear hh hkp ra)
  have hF := fin2 _ _ _ _ _ (.int .i64 0) (.int .i64 n) RA3.out
  have q0 := cell_of_row _ _ 0 _ _ _ hF
  have q1 := cell_of_row _ _ 1 _ _ _ hF
  refine bodyPost_ret (v := .agg #[.int .i64 0, .int .i64 n]) (by simp [results, Tryz.results7, go_sem, q0, q1]) rfl ⟨rfl, ⟨g', H3.out.side31 RA3.out (frame2 _ _ _ _)⟩, Keep.side (k := w.heap.size + 1) K3.out (frame2 _ _ _ _) (Nat.le_succ _)⟩
set_option maxRecDepth 100000 in
set_option maxHeartbeats 4000000 in
theorem do19 [Base] (w : World) {b : RtB} {s : RtS} (h : Rt w b s) (A B C n : Int) (s2 : RtS) (hop : ∀ w1, Rt w1 b s → Calls Tryz.prog 36 #[.pointer (some ⟨b.r, 0, none⟩), opv 19 A B C] w1 fun e w' => ∃ g', e = .returned (.tuple #[.int .i64 n, .int .i64 0]) ∧ Rt w' (b.on g') s2 ∧ Keep w1 w') :
    Calls Tryz.prog 7 #[.pointer (some ⟨b.r, 0, none⟩), opv 19 A B C] w fun e w' => e = .returned (.agg #[.int .i64 0, .int .i64 n]) ∧ (∃ g', Rt w' (b.on g') s2) ∧ Keep w w' := by
  have hb1 : Below w.heap.size w ((w.alloc (.cells #[.int .i64 19, .int .i64 A, .int .i64 B, .int .i64 C] 34)).alloc (.cells #[.int .i64 0, .int .i64 0] 31)) := ((Below.refl _ _).alloc (Nat.le_refl _) _).alloc (by simp) _
  have RB := Lib.hid (show ((w.alloc (.cells #[.int .i64 19, .int .i64 A, .int .i64 B, .int .i64 C] 34)).alloc (.cells #[.int .i64 0, .int .i64 0] 31)).drew.heap[w.heap.size]? = _ from (((Below.refl _ _).alloc (Nat.le_refl _) _).block w.heap.size (by simp)).trans (heap_alloc_new w (.cells #[.int .i64 19, .int .i64 A, .int .i64 B, .int .i64 C] 34)))
  have RA := Lib.hid (show ((w.alloc (.cells #[.int .i64 19, .int .i64 A, .int .i64 B, .int .i64 C] 34)).alloc (.cells #[.int .i64 0, .int .i64 0] 31)).drew.heap[w.heap.size + 1]? = some (.cells #[.int .i64 0, .int .i64 0] 31 (0, 0)) by
    have := heap_alloc_new (w.alloc (.cells #[.int .i64 19, .int .i64 A, .int .i64 B, .int .i64 C] 34)) (.cells #[.int .i64 0, .int .i64 0] 31)
    rw [show (w.alloc (.cells #[.int .i64 19, .int .i64 A, .int .i64 B, .int .i64 C] 34)).heap.size = w.heap.size + 1 by simp] at this
    exact this)
  have HB := Lib.hid (below_drew hb1)
  have HSZ := Lib.hid (show ((w.alloc (.cells #[.int .i64 19, .int .i64 A, .int .i64 B, .int .i64 C] 34)).alloc (.cells #[.int .i64 0, .int .i64 0] 31)).drew.heap.size = w.heap.size + 1 + 1 by show ((w.alloc (.cells #[.int .i64 19, .int .i64 A, .int .i64 B, .int .i64 C] 34)).alloc (.cells #[.int .i64 0, .int .i64 0] 31)).heap.size = w.heap.size + 1 + 1; simp)
  have HH := Lib.hid h
  have HOP := Lib.hid hop
  have Z0 := Lib.hid (OpS.of RB.out)
  clear h hop hb1
  unfold opv at HOP ⊢
  go_enter Tryz.func7, Tryz.ntmps7
  go_wp2_with fail
  go_region_held3 (fun w' => w'.cell? ⟨w.heap.size, 0, none⟩ = some (.int .i64 19) ∧ w'.cell? ⟨w.heap.size, 1, none⟩ = some (.int .i64 A) ∧ w'.cell? ⟨w.heap.size, 2, none⟩ = some (.int .i64 B) ∧ w'.cell? ⟨w.heap.size, 3, none⟩ = some (.int .i64 C))
    (first | (with_reducible exact hS) | (with_reducible exact Z0.out))
    ((go_at_call 11; refine (handlers_c _ b.r).mono ?_; rintro e w2 ⟨g1, g2, g3, g4, rfl, hm⟩; have HB2 := Lib.hid (HB.out.trans (hm.below.mono HB.out.size)); have RB2 := Lib.hid ((hm.below.block _ (lt_of_block RB.out)).trans RB.out); have RA2 := Lib.hid ((hm.below.block _ (lt_of_block RA.out)).trans RA.out); have hS := OpS.of RB2.out; have hm2 := hm.map; rw [HSZ.out] at hm2; have hl := lookup_hit Tryz.underlying45 w2 hm2 19 (.func (.func 36) #[.pointer (some ⟨b.r, 0, none⟩)] #[]) 18 true (by rfl); clear hm2; have HHM := Lib.hid (HH.out.below HB2.out); clear hm))
  obtain ⟨s0, s1, s2', s3⟩ := OpS.of RB2.out
  go_wp2_with (go_at_call 36; refine (HOP.out _ HHM.out).mono ?_; rintro e w3 ⟨g', rfl, hh, hkp⟩; have H3 := Lib.hid hh; have K3 := Lib.hid ((Keep.of_below HB2.out).trans hkp); have ra := (hkp.2 _ _ _ (by rfl) RA2.out); have RA3 := Lib.hid ra; have t0 := cell_of_row _ _ 0 _ _ _ ra; have t1 := cell_of_row _ _ 1 _ _ _ ra; have u0 := frozen_of_row _ _ 0 _ _ ra; have u1 := frozen_of_row _ _ 1 _ _ ra; clear hh hkp ra)
  have hF := fin2 _ _ _ _ _ (.int .i64 0) (.int .i64 n) RA3.out
  have q0 := cell_of_row _ _ 0 _ _ _ hF
  have q1 := cell_of_row _ _ 1 _ _ _ hF
  refine bodyPost_ret (v := .agg #[.int .i64 0, .int .i64 n]) (by simp [results, Tryz.results7, go_sem, q0, q1]) rfl ⟨rfl, ⟨g', H3.out.side31 RA3.out (frame2 _ _ _ _)⟩, Keep.side (k := w.heap.size + 1) K3.out (frame2 _ _ _ _) (Nat.le_succ _)⟩
set_option maxRecDepth 100000 in
set_option maxHeartbeats 4000000 in
theorem do17e [Base] (w : World) {b : RtB} {s : RtS} (h : Rt w b s) (A B C n : Int) (s2 : RtS) (hop : ∀ w1, Rt w1 b s → Calls Tryz.prog 34 #[.pointer (some ⟨b.r, 0, none⟩), opv 17 A B C] w1 fun e w' => ∃ g', e = .returned (.tuple #[.int .i64 n, .int .i64 4]) ∧ Rt w' (b.on g') s2 ∧ Keep w1 w') :
    Calls Tryz.prog 7 #[.pointer (some ⟨b.r, 0, none⟩), opv 17 A B C] w fun e w' => e = .returned (.agg #[.int .i64 4, .int .i64 0]) ∧ (∃ g', Rt w' (b.on g') s2) ∧ Keep w w' := by
  have hb1 : Below w.heap.size w ((w.alloc (.cells #[.int .i64 17, .int .i64 A, .int .i64 B, .int .i64 C] 34)).alloc (.cells #[.int .i64 0, .int .i64 0] 31)) := ((Below.refl _ _).alloc (Nat.le_refl _) _).alloc (by simp) _
  have RB := Lib.hid (show ((w.alloc (.cells #[.int .i64 17, .int .i64 A, .int .i64 B, .int .i64 C] 34)).alloc (.cells #[.int .i64 0, .int .i64 0] 31)).drew.heap[w.heap.size]? = _ from (((Below.refl _ _).alloc (Nat.le_refl _) _).block w.heap.size (by simp)).trans (heap_alloc_new w (.cells #[.int .i64 17, .int .i64 A, .int .i64 B, .int .i64 C] 34)))
  have RA := Lib.hid (show ((w.alloc (.cells #[.int .i64 17, .int .i64 A, .int .i64 B, .int .i64 C] 34)).alloc (.cells #[.int .i64 0, .int .i64 0] 31)).drew.heap[w.heap.size + 1]? = some (.cells #[.int .i64 0, .int .i64 0] 31 (0, 0)) by
    have := heap_alloc_new (w.alloc (.cells #[.int .i64 17, .int .i64 A, .int .i64 B, .int .i64 C] 34)) (.cells #[.int .i64 0, .int .i64 0] 31)
    rw [show (w.alloc (.cells #[.int .i64 17, .int .i64 A, .int .i64 B, .int .i64 C] 34)).heap.size = w.heap.size + 1 by simp] at this
    exact this)
  have HB := Lib.hid (below_drew hb1)
  have HSZ := Lib.hid (show ((w.alloc (.cells #[.int .i64 17, .int .i64 A, .int .i64 B, .int .i64 C] 34)).alloc (.cells #[.int .i64 0, .int .i64 0] 31)).drew.heap.size = w.heap.size + 1 + 1 by show ((w.alloc (.cells #[.int .i64 17, .int .i64 A, .int .i64 B, .int .i64 C] 34)).alloc (.cells #[.int .i64 0, .int .i64 0] 31)).heap.size = w.heap.size + 1 + 1; simp)
  have HH := Lib.hid h
  have HOP := Lib.hid hop
  have Z0 := Lib.hid (OpS.of RB.out)
  clear h hop hb1
  unfold opv at HOP ⊢
  go_enter Tryz.func7, Tryz.ntmps7
  go_wp2_with fail
  go_region_held3 (fun w' => w'.cell? ⟨w.heap.size, 0, none⟩ = some (.int .i64 17) ∧ w'.cell? ⟨w.heap.size, 1, none⟩ = some (.int .i64 A) ∧ w'.cell? ⟨w.heap.size, 2, none⟩ = some (.int .i64 B) ∧ w'.cell? ⟨w.heap.size, 3, none⟩ = some (.int .i64 C))
    (first | (with_reducible exact hS) | (with_reducible exact Z0.out))
    ((go_at_call 11; refine (handlers_c _ b.r).mono ?_; rintro e w2 ⟨g1, g2, g3, g4, rfl, hm⟩; have HB2 := Lib.hid (HB.out.trans (hm.below.mono HB.out.size)); have RB2 := Lib.hid ((hm.below.block _ (lt_of_block RB.out)).trans RB.out); have RA2 := Lib.hid ((hm.below.block _ (lt_of_block RA.out)).trans RA.out); have hS := OpS.of RB2.out; have hm2 := hm.map; rw [HSZ.out] at hm2; have hl := lookup_hit Tryz.underlying45 w2 hm2 17 (.func (.func 34) #[.pointer (some ⟨b.r, 0, none⟩)] #[]) 16 true (by rfl); clear hm2; have HHM := Lib.hid (HH.out.below HB2.out); clear hm))
  obtain ⟨s0, s1, s2', s3⟩ := OpS.of RB2.out
  go_wp2_with (go_at_call 34; refine (HOP.out _ HHM.out).mono ?_; rintro e w3 ⟨g', rfl, hh, hkp⟩; have H3 := Lib.hid hh; have K3 := Lib.hid ((Keep.of_below HB2.out).trans hkp); have ra := (hkp.2 _ _ _ (by rfl) RA2.out); have RA3 := Lib.hid ra; have t0 := cell_of_row _ _ 0 _ _ _ ra; have t1 := cell_of_row _ _ 1 _ _ _ ra; have u0 := frozen_of_row _ _ 0 _ _ ra; have u1 := frozen_of_row _ _ 1 _ _ ra; clear hh hkp ra)
  have hF := fin2 _ _ _ _ _ (.int .i64 4) (.int .i64 0) RA3.out
  have q0 := cell_of_row _ _ 0 _ _ _ hF
  have q1 := cell_of_row _ _ 1 _ _ _ hF
  refine bodyPost_ret (v := .agg #[.int .i64 4, .int .i64 0]) (by simp [results, Tryz.results7, go_sem, q0, q1]) rfl ⟨rfl, ⟨g', H3.out.side31 RA3.out (frame2 _ _ _ _)⟩, Keep.side (k := w.heap.size + 1) K3.out (frame2 _ _ _ _) (Nat.le_succ _)⟩
end Go.Proofs.YtibgbahaldojiaaGreat.Fns
