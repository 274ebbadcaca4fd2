/- View, of a runtime with nothing in it. -/
import Derived.Test.YtibgbahaldojiaaGreatRtd
namespace Go.Proofs.YtibgbahaldojiaaGreat.Fns
open Go Go.RowKit
theorem own_formN {w : World} {e size : Nat} {v : Value} {base n : Nat} {xs : List Value} (h : w.ownsRow base e size v n xs) : ∃ A c, v = .slice A n c := by
  rcases h.2 with ⟨rfl, h0⟩ | ⟨b, cap, _, rfl, _⟩
  · exact ⟨none, 0, by rw [h0]⟩
  · exact ⟨_, _, rfl⟩
theorem fin10 (w1 : World) (k : Nat) (t : TypeId) (a0 a1 a2 a3 a4 a5 a6 a7 a8 a9 u0 u1 u2 u3 u4 u5 u6 u7 u8 u9 : Value) (hr : w1.heap[k]? = some (.cells #[a0, a1, a2, a3, a4, a5, a6, a7, a8, a9] t (0, 0))) :
    ((((((((((w1.setCell ⟨k, 0, none⟩ u0).setCell ⟨k, 1, none⟩ u1).setCell ⟨k, 2, none⟩ u2).setCell ⟨k, 3, none⟩ u3).setCell ⟨k, 4, none⟩ u4).setCell ⟨k, 5, none⟩ u5).setCell ⟨k, 6, none⟩ u6).setCell ⟨k, 7, none⟩ u7).setCell ⟨k, 8, none⟩ u8).setCell ⟨k, 9, none⟩ u9).heap[k]? = some (.cells #[u0, u1, u2, u3, u4, u5, u6, u7, u8, u9] t (0, 0)) := by
  have h0 : (w1.setCell ⟨k, 0, none⟩ u0).heap[k]? = some (.cells #[u0, a1, a2, a3, a4, a5, a6, a7, a8, a9] t (0, 0)) := by rw [heap_setCell_same w1 k 0 _ _ _ hr]; rfl
  have h1 : ((w1.setCell ⟨k, 0, none⟩ u0).setCell ⟨k, 1, none⟩ u1).heap[k]? = some (.cells #[u0, u1, a2, a3, a4, a5, a6, a7, a8, a9] t (0, 0)) := by rw [heap_setCell_same _ k 1 _ _ _ h0]; rfl
  have h2 : (((w1.setCell ⟨k, 0, none⟩ u0).setCell ⟨k, 1, none⟩ u1).setCell ⟨k, 2, none⟩ u2).heap[k]? = some (.cells #[u0, u1, u2, a3, a4, a5, a6, a7, a8, a9] t (0, 0)) := by rw [heap_setCell_same _ k 2 _ _ _ h1]; rfl
  have h3 : ((((w1.setCell ⟨k, 0, none⟩ u0).setCell ⟨k, 1, none⟩ u1).setCell ⟨k, 2, none⟩ u2).setCell ⟨k, 3, none⟩ u3).heap[k]? = some (.cells #[u0, u1, u2, u3, a4, a5, a6, a7, a8, a9] t (0, 0)) := by rw [heap_setCell_same _ k 3 _ _ _ h2]; rfl
  have h4 : (((((w1.setCell ⟨k, 0, none⟩ u0).setCell ⟨k, 1, none⟩ u1).setCell ⟨k, 2, none⟩ u2).setCell ⟨k, 3, none⟩ u3).setCell ⟨k, 4, none⟩ u4).heap[k]? = some (.cells #[u0, u1, u2, u3, u4, a5, a6, a7, a8, a9] t (0, 0)) := by rw [heap_setCell_same _ k 4 _ _ _ h3]; rfl
  have h5 : ((((((w1.setCell ⟨k, 0, none⟩ u0).setCell ⟨k, 1, none⟩ u1).setCell ⟨k, 2, none⟩ u2).setCell ⟨k, 3, none⟩ u3).setCell ⟨k, 4, none⟩ u4).setCell ⟨k, 5, none⟩ u5).heap[k]? = some (.cells #[u0, u1, u2, u3, u4, u5, a6, a7, a8, a9] t (0, 0)) := by rw [heap_setCell_same _ k 5 _ _ _ h4]; rfl
  have h6 : (((((((w1.setCell ⟨k, 0, none⟩ u0).setCell ⟨k, 1, none⟩ u1).setCell ⟨k, 2, none⟩ u2).setCell ⟨k, 3, none⟩ u3).setCell ⟨k, 4, none⟩ u4).setCell ⟨k, 5, none⟩ u5).setCell ⟨k, 6, none⟩ u6).heap[k]? = some (.cells #[u0, u1, u2, u3, u4, u5, u6, a7, a8, a9] t (0, 0)) := by rw [heap_setCell_same _ k 6 _ _ _ h5]; rfl
  have h7 : ((((((((w1.setCell ⟨k, 0, none⟩ u0).setCell ⟨k, 1, none⟩ u1).setCell ⟨k, 2, none⟩ u2).setCell ⟨k, 3, none⟩ u3).setCell ⟨k, 4, none⟩ u4).setCell ⟨k, 5, none⟩ u5).setCell ⟨k, 6, none⟩ u6).setCell ⟨k, 7, none⟩ u7).heap[k]? = some (.cells #[u0, u1, u2, u3, u4, u5, u6, u7, a8, a9] t (0, 0)) := by rw [heap_setCell_same _ k 7 _ _ _ h6]; rfl
  have h8 : (((((((((w1.setCell ⟨k, 0, none⟩ u0).setCell ⟨k, 1, none⟩ u1).setCell ⟨k, 2, none⟩ u2).setCell ⟨k, 3, none⟩ u3).setCell ⟨k, 4, none⟩ u4).setCell ⟨k, 5, none⟩ u5).setCell ⟨k, 6, none⟩ u6).setCell ⟨k, 7, none⟩ u7).setCell ⟨k, 8, none⟩ u8).heap[k]? = some (.cells #[u0, u1, u2, u3, u4, u5, u6, u7, u8, a9] t (0, 0)) := by rw [heap_setCell_same _ k 8 _ _ _ h7]; rfl
  have h9 : ((((((((((w1.setCell ⟨k, 0, none⟩ u0).setCell ⟨k, 1, none⟩ u1).setCell ⟨k, 2, none⟩ u2).setCell ⟨k, 3, none⟩ u3).setCell ⟨k, 4, none⟩ u4).setCell ⟨k, 5, none⟩ u5).setCell ⟨k, 6, none⟩ u6).setCell ⟨k, 7, none⟩ u7).setCell ⟨k, 8, none⟩ u8).setCell ⟨k, 9, none⟩ u9).heap[k]? = some (.cells #[u0, u1, u2, u3, u4, u5, u6, u7, u8, u9] t (0, 0)) := by rw [heap_setCell_same _ k 9 _ _ _ h8]; rfl
  exact h9
theorem frame10 (w1 : World) (k : Nat) (u0 u1 u2 u3 u4 u5 u6 u7 u8 u9 : Value) : Frame w1 ((((((((((w1.setCell ⟨k, 0, none⟩ u0).setCell ⟨k, 1, none⟩ u1).setCell ⟨k, 2, none⟩ u2).setCell ⟨k, 3, none⟩ u3).setCell ⟨k, 4, none⟩ u4).setCell ⟨k, 5, none⟩ u5).setCell ⟨k, 6, none⟩ u6).setCell ⟨k, 7, none⟩ u7).setCell ⟨k, 8, none⟩ u8).setCell ⟨k, 9, none⟩ u9) (fun j => j = k) :=
  (((((((((((Frame.refl w1 (fun j => j = k)).setCell (p := ⟨k, 0, none⟩) (fun _ => rfl) u0).setCell (p := ⟨k, 1, none⟩) (fun _ => rfl) u1).setCell (p := ⟨k, 2, none⟩) (fun _ => rfl) u2).setCell (p := ⟨k, 3, none⟩) (fun _ => rfl) u3).setCell (p := ⟨k, 4, none⟩) (fun _ => rfl) u4).setCell (p := ⟨k, 5, none⟩) (fun _ => rfl) u5).setCell (p := ⟨k, 6, none⟩) (fun _ => rfl) u6).setCell (p := ⟨k, 7, none⟩) (fun _ => rfl) u7).setCell (p := ⟨k, 8, none⟩) (fun _ => rfl) u8).setCell (p := ⟨k, 9, none⟩) (fun _ => rfl) u9)
@[reducible] def ViS (b : RtB) (s : RtS) (w' : World) : Prop := w'.cell? ⟨b.p, 0, none⟩ = some (.pointer (some ⟨b.rf, 0, none⟩)) ∧ w'.cell? ⟨b.p, 1, none⟩ = some (.pointer (some ⟨b.hd, 0, none⟩)) ∧ w'.cell? ⟨b.p, 2, none⟩ = some (.pointer (some ⟨b.rt, 0, none⟩)) ∧ w'.cell? ⟨b.p, 3, none⟩ = some (.pointer (some ⟨b.fi, 0, none⟩)) ∧ w'.cell? ⟨b.p, 4, none⟩ = some (.pointer (some ⟨b.hp.h, 0, none⟩)) ∧ w'.cell? ⟨b.p, 8, none⟩ = some (.int .i64 0) ∧ w'.cell? ⟨b.p, 9, none⟩ = some (.int .i64 s.runs) ∧ w'.cell? ⟨b.hp.h, 0, none⟩ = some (.pointer (some ⟨b.hp.sp.sp, 0, none⟩))
theorem ViS.of [Base] {w : World} {b : RtB} {s : RtS} {vw vp : Value} (h : Pts w b s vw vp) : ViS b s w :=
  ⟨cell_of_row _ _ 0 _ _ _ h.pbox, cell_of_row _ _ 1 _ _ _ h.pbox, cell_of_row _ _ 2 _ _ _ h.pbox, cell_of_row _ _ 3 _ _ _ h.pbox, cell_of_row _ _ 4 _ _ _ h.pbox, cell_of_row _ _ 8 _ _ _ h.pbox, cell_of_row _ _ 9 _ _ _ h.pbox, h.heap.c0⟩
theorem Pts.side54 [Base] {w w' : World} {b : RtB} {s : RtS} {vw vp : Value} {k : Nat} {cs : Array Value} (h : Pts w b s vw vp) (hk : w.heap[k]? = some (.cells cs 54 (0, 0))) (hf : Frame w w' (fun j => j = k)) : Pts w' b s vw vp := by
  obtain ⟨c2, hc, _⟩ := h.hs.block
  refine h.frame hf ⟨heap_ne h.pbox hk (cells_ne (by decide)), heap_ne h.rfbox hk (cells_ne (by decide)), heap_ne h.qbox hk (cells_ne (by decide)), heap_ne hc hk (cells_ne (by decide)), heap_ne h.rts hk (cells_ne (by decide))⟩ (fun j hj e => ?_) (fun j hj e => ?_)
  · subst e; exact h.fin.apart hk (by rfl) hj
  · subst e
    rcases hj with hj | hj | hj
    · exact heap_ne hk h.heap.box (cells_ne (by decide)) hj
    · exact heap_ne hk h.heap.tab (cells_ne (by decide)) hj
    · exact h.heap.sm.apart hk (by rfl) hj
theorem ViS.st10 [Base] {w : World} {b : RtB} {s : RtS} {vw vp : Value} {k : Nat} {cs : Array Value} (h : Pts w b s vw vp) (hk : w.heap[k]? = some (.cells cs 54 (0, 0))) (u0 u1 u2 u3 u4 u5 u6 u7 u8 u9 : Value) : ViS b s ((((((((((w.setCell ⟨k, 0, none⟩ u0).setCell ⟨k, 1, none⟩ u1).setCell ⟨k, 2, none⟩ u2).setCell ⟨k, 3, none⟩ u3).setCell ⟨k, 4, none⟩ u4).setCell ⟨k, 5, none⟩ u5).setCell ⟨k, 6, none⟩ u6).setCell ⟨k, 7, none⟩ u7).setCell ⟨k, 8, none⟩ u8).setCell ⟨k, 9, none⟩ u9) :=
  ViS.of (h.side54 hk (frame10 w k u0 u1 u2 u3 u4 u5 u6 u7 u8 u9))
theorem serial_c [Base] (w : World) {b : RtB} {s : RtS} {vw vp : Value} (h : Pts w b s vw vp) : Calls Tryz.prog 82 #[.pointer (some ⟨b.rf, 0, none⟩)] w fun e w' => e = .returned (.int .i64 0) ∧ w = w' := by
  have c1 := cell_of_row _ _ 1 _ _ _ h.rfbox
  clear h
  go_enter Tryz.func82, Tryz.ntmps82
  go_wp2
  go_ret
  exact ⟨rfl, rfl⟩
set_option maxRecDepth 100000 in
set_option maxHeartbeats 8000000 in
theorem view_c [Base] (w : World) {b : RtB} {s : RtS} {vw vp : Value} (h : Pts w b s vw vp) (hm : s.m = 0) (hn : 2 ≤ s.n) (hW : s.W.length ≤ 1000) (hP : s.P.length ≤ 1000) :
    Calls Tryz.prog 39 #[.pointer (some ⟨b.p, 0, none⟩)] w fun e w' => ∃ A0 c0 A1 n1 c1 A2 n2 c2 A3 n3 c3 A4 n4 c4 A5 n5 c5 i6 i7 i8 i9, e = .returned (.agg #[.slice A0 0 c0, .slice A1 n1 c1, .slice A2 n2 c2, .slice A3 n3 c3, .slice A4 n4 c4, .slice A5 n5 c5, .int .i64 i6, .int .i64 i7, .int .i64 i8, .int .i64 i9]) ∧ Below w.heap.size w w' := by
  have hb0 : Below w.heap.size w (w.alloc (.cells #[.slice none 0 0, .slice none 0 0, .slice none 0 0, .slice none 0 0, .slice none 0 0, .slice none 0 0, .int .i64 0, .int .i64 0, .int .i64 0, .int .i64 0] 54)) := (Below.refl _ _).alloc (Nat.le_refl _) _
  have H := Lib.hid h
  have R2 := Lib.hid (show (w.alloc (.cells #[.slice none 0 0, .slice none 0 0, .slice none 0 0, .slice none 0 0, .slice none 0 0, .slice none 0 0, .int .i64 0, .int .i64 0, .int .i64 0, .int .i64 0] 54)).drew.heap[w.heap.size]? = _ from heap_alloc_new w (.cells #[.slice none 0 0, .slice none 0 0, .slice none 0 0, .slice none 0 0, .slice none 0 0, .slice none 0 0, .int .i64 0, .int .i64 0, .int .i64 0, .int .i64 0] 54))
  have HB0 := Lib.hid (below_drew hb0)
  have HS := Lib.hid (ViS.of (h.below (below_drew hb0)))
  have hc : Ch s.m s.f (fun _ => 2) (fun _ => false) (fun _ => 0) := ⟨fun i hi => by omega, fun i hi => by omega, fun i hi => by omega⟩
  have HC := Lib.hid hc
  clear h hb0 hc
  go_enter Tryz.func39, Tryz.ntmps39
  go_wp2_with fail
  go_region_held3 (fun w' => w'.cell? ⟨b.p, 0, none⟩ = some (.pointer (some ⟨b.rf, 0, none⟩)) ∧ w'.cell? ⟨b.p, 1, none⟩ = some (.pointer (some ⟨b.hd, 0, none⟩)) ∧ w'.cell? ⟨b.p, 2, none⟩ = some (.pointer (some ⟨b.rt, 0, none⟩)) ∧ w'.cell? ⟨b.p, 3, none⟩ = some (.pointer (some ⟨b.fi, 0, none⟩)) ∧ w'.cell? ⟨b.p, 4, none⟩ = some (.pointer (some ⟨b.hp.h, 0, none⟩)) ∧ w'.cell? ⟨b.p, 8, none⟩ = some (.int .i64 0) ∧ w'.cell? ⟨b.p, 9, none⟩ = some (.int .i64 s.runs) ∧ w'.cell? ⟨b.hp.h, 0, none⟩ = some (.pointer (some ⟨b.hp.sp.sp, 0, none⟩)))
    (first | (with_reducible exact hS) | (with_reducible exact HS.out) | (with_reducible exact ViS.st10 (H.out.below HB6.out) HR.out _ _ _ _ _ _ _ _ _ _))
    (first
      | (go_at_call 77; refine (objects_c _ (H.out.below HB0.out).heap HC.out (by omega) hn).mono ?_; rintro e w1 ⟨v, xs, rfl, ho, _, hb⟩; rw [hm] at ho; obtain ⟨A0, c0, rfl⟩ := own_formN ho; have HB1 := Lib.hid (HB0.out.trans (hb.mono HB0.out.size)); have hS := ViS.of (H.out.below HB1.out); have HR := Lib.hid ((hb.block _ (lt_of_block R2.out)).trans R2.out); clear ho hb)
      | (go_at_call 78; refine (all_c _ (H.out.below HB1.out).hs).mono ?_; rintro e w2 ⟨v, rfl, ho, hb⟩; obtain ⟨A1, c1, rfl⟩ := own_formN ho; have HB2 := Lib.hid (HB1.out.trans (hb.mono HB1.out.size)); have hS := ViS.of (H.out.below HB2.out); have hr := ((hb.block _ (lt_of_block HR.out)).trans HR.out); clear HR; have HR := Lib.hid hr; clear ho hb hr)
      | (go_at_call 79; refine (roots_c _ b.rt (H.out.below HB2.out).rts).mono ?_; rintro e w3 ⟨v, rfl, ho, hb⟩; obtain ⟨A2, c2, rfl⟩ := own_formN ho; have HB3 := Lib.hid (HB2.out.trans (hb.mono HB2.out.size)); have hS := ViS.of (H.out.below HB3.out); have hr := ((hb.block _ (lt_of_block HR.out)).trans HR.out); clear HR; have HR := Lib.hid hr; clear ho hb hr)
      | (go_at_call 80; refine (queued_c _ (H.out.below HB3.out)).mono ?_; rintro e w' ⟨rfl, rfl⟩; have hS := ViS.of (H.out.below HB3.out))
      | (go_at_call 81; refine (finals_c _ (H.out.below HB3.out).fin (by omega)).mono ?_; rintro e w4 ⟨v, rfl, ho, hb⟩; obtain ⟨A4, c4, rfl⟩ := own_formN ho; have HB4 := Lib.hid (HB3.out.trans (hb.mono HB3.out.size)); have hS := ViS.of (H.out.below HB4.out); have hr := ((hb.block _ (lt_of_block HR.out)).trans HR.out); clear HR; have HR := Lib.hid hr; clear ho hb hr)
      | (go_at_call 69; refine (pending_c _ (H.out.below HB4.out).fin (by omega)).mono ?_; rintro e w5 ⟨v, rfl, ho, hb⟩; obtain ⟨A5, c5, rfl⟩ := own_formN ho; have HB5 := Lib.hid (HB4.out.trans (hb.mono HB4.out.size)); have hS := ViS.of (H.out.below HB5.out); have hr := ((hb.block _ (lt_of_block HR.out)).trans HR.out); clear HR; have HR := Lib.hid hr; clear ho hb hr)
      | (go_at_call 82; refine (serial_c _ (H.out.below HB5.out)).mono ?_; rintro e w' ⟨rfl, rfl⟩; have hS := ViS.of (H.out.below HB5.out))
      | (go_at_call 74; refine (used_c _ (H.out.below HB5.out).heap.sm (by omega) hn _ rfl).mono ?_; rintro e w6 ⟨rfl, hb⟩; have HB6 := Lib.hid (HB5.out.trans (hb.mono HB5.out.size)); have hS := ViS.of (H.out.below HB6.out); have hr := ((hb.block _ (lt_of_block HR.out)).trans HR.out); clear HR; have HR := Lib.hid hr; have y0 := cell_of_row _ _ 0 _ _ _ hr; have y1 := cell_of_row _ _ 1 _ _ _ hr; have y2 := cell_of_row _ _ 2 _ _ _ hr; have y3 := cell_of_row _ _ 3 _ _ _ hr; have y4 := cell_of_row _ _ 4 _ _ _ hr; have y5 := cell_of_row _ _ 5 _ _ _ hr; have y6 := cell_of_row _ _ 6 _ _ _ hr; have y7 := cell_of_row _ _ 7 _ _ _ hr; have y8 := cell_of_row _ _ 8 _ _ _ hr; have y9 := cell_of_row _ _ 9 _ _ _ hr; have x0 := frozen_of_row _ _ 0 _ _ hr; have x1 := frozen_of_row _ _ 1 _ _ hr; have x2 := frozen_of_row _ _ 2 _ _ hr; have x3 := frozen_of_row _ _ 3 _ _ hr; have x4 := frozen_of_row _ _ 4 _ _ hr; have x5 := frozen_of_row _ _ 5 _ _ hr; have x6 := frozen_of_row _ _ 6 _ _ hr; have x7 := frozen_of_row _ _ 7 _ _ hr; have x8 := frozen_of_row _ _ 8 _ _ hr; have x9 := frozen_of_row _ _ 9 _ _ hr; clear hb hr))
  go_wp2

  have hF := fin10 _ _ _ _ _ _ _ _ _ _ _ _ _ (.slice A0 0 c0) (.slice A1 (allL s.T s.A 512).length c1) (.slice A2 16 c2) (.slice none 0 0) (.slice A4 s.W.length c4) (.slice A5 s.P.length c5) (.int .i64 0) (.int .i64 0) (.int .i64 0) (.int .i64 s.runs) HR.out
  have q0 := cell_of_row _ _ 0 _ _ _ hF
  have q1 := cell_of_row _ _ 1 _ _ _ hF
  have q2 := cell_of_row _ _ 2 _ _ _ hF
  have q3 := cell_of_row _ _ 3 _ _ _ hF
  have q4 := cell_of_row _ _ 4 _ _ _ hF
  have q5 := cell_of_row _ _ 5 _ _ _ hF
  have q6 := cell_of_row _ _ 6 _ _ _ hF
  have q7 := cell_of_row _ _ 7 _ _ _ hF
  have q8 := cell_of_row _ _ 8 _ _ _ hF
  have q9 := cell_of_row _ _ 9 _ _ _ hF
  refine bodyPost_ret (v := .agg #[.slice A0 0 c0, .slice A1 (allL s.T s.A 512).length c1, .slice A2 16 c2, .slice none 0 0, .slice A4 s.W.length c4, .slice A5 s.P.length c5, .int .i64 0, .int .i64 0, .int .i64 0, .int .i64 s.runs]) (by simp [results, Tryz.results39, go_sem, q0, q1, q2, q3, q4, q5, q6, q7, q8, q9]) rfl ⟨A0, c0, A1, _, c1, A2, _, c2, none, 0, 0, A4, _, c4, A5, _, c5, _, _, _, _, rfl, HB6.out.trans ((frame10 _ _ _ _ _ _ _ _ _ _ _ _).below HB6.out.size (fun j _ e => e ▸ Nat.le_refl _))⟩
end Go.Proofs.YtibgbahaldojiaaGreat.Fns
