/- A runtime is made. -/
import Derived.Test.YtibgbahaldojiaaGreatParts
namespace Go.Proofs.YtibgbahaldojiaaGreat.Fns
open Go Go.RowKit
theorem below_of_drew {w w' : World} (h : Below w.drew.heap.size w.drew w') : Below w.heap.size w w' := ⟨h.os, h.tape, h.output, h.size, h.block⟩
/-- A runtime's state at first. -/
def s0 (n : Nat) (rate stk : Int) : RtS := ⟨n, 0, fun _ => 0, fun _ => 0, fun _ => 0, [], [], rate, stk, 0⟩
/-- A runtime: its own block, and its parts. -/
def Rt [Base] (w : World) (b : RtB) (s : RtS) : Prop := w.heap[b.r]? = some (.cells #[.pointer (some ⟨b.p, 0, none⟩)] 41 (0, 0)) ∧ ∃ vw vp, Pts w b s vw vp
section
variable [Base]
set_option maxRecDepth 100000 in
set_option maxHeartbeats 2000000 in
theorem gcNew_c (w : World) (hB : Base.B ≤ w.heap.size) (n k : Nat) (rate : Int) (h1 : 1 ≤ n) (h2 : n ≤ 256) (h3 : 0 ≤ rate) (h4 : 1 ≤ k) (h5 : k ≤ 4096) : Calls Tryz.prog 9 #[.agg #[.int .i64 (n : Int), .int .i64 rate, .int .i64 (k : Int)]] w fun e w' => ∃ b : RtB, e = .returned (.tuple #[.pointer (some ⟨b.p, 0, none⟩), .int .i64 0]) ∧ Pts w' b (s0 n rate k) (.slice none 0 0) (.slice none 0 0) ∧ Below w.heap.size w w' := by
  have d0 : decide (rate < 0) = false := by simp; omega
  have R0 := Lib.hid (heap_alloc_new w (.cells #[.int .i64 (n : Int), .int .i64 rate, .int .i64 (k : Int)] 27))
  have HB0 := Lib.hid (show Below w.heap.size w (w.alloc (.cells #[.int .i64 (n : Int), .int .i64 rate, .int .i64 (k : Int)] 27)) from (Below.refl _ _).alloc (Nat.le_refl _) _)
  go_enter Tryz.func9, Tryz.ntmps9
  go_wp2_with (first
    | (go_at_call 13; refine (objNew_c _ n h1 h2).mono ?_; rintro e w1 ⟨B, rfl, hs, hb, hfr⟩; have HS := Lib.hid hs; have HB := Lib.hid hb; have HFR := Lib.hid hfr; clear hfr; have hr := (hb.block _ (lt_of_block R0.out)).trans R0.out; have R1 := Lib.hid hr; have b1 := cell_of_row _ _ 1 _ _ _ hr; have b2 := cell_of_row _ _ 2 _ _ _ hr; clear hs hb hr)
    | (go_at_call 14; refine (sk_new_ok k _ 0 (Nat.zero_le _) h4 h5).mono ?_; rintro e w2 ⟨rfl, _, hf⟩; have hb := hf.below (Nat.le_refl _) (fun _ _ e => e.elim); have HB2 := Lib.hid hb; have hr := (hb.block _ (lt_of_block R1.out)).trans R1.out; have R2 := Lib.hid hr; have c0 := cell_of_row _ _ 0 _ _ _ hr; have c1 := cell_of_row _ _ 1 _ _ _ hr; have c2 := cell_of_row _ _ 2 _ _ _ hr; clear hf hb hr))
  go_region_with (first
    | (go_at_call 15; refine (refNew_c _ _).mono ?_; rintro e w3 ⟨q, r, rfl, hq, hr, hb⟩; have HQ := Lib.hid hq; have HR := Lib.hid hr; have HB3 := Lib.hid hb; have hx := (hb.block _ (lt_of_block R2.out)).trans R2.out; have R3 := Lib.hid hx; have c0 := cell_of_row _ _ 0 _ _ _ hx; have c1 := cell_of_row _ _ 1 _ _ _ hx; have c2 := cell_of_row _ _ 2 _ _ _ hx; clear hx hq hr hb)
    | (go_at_call 16; refine (new_h _).mono ?_; rintro e w4 ⟨rfl, hh, hb⟩; have HH := Lib.hid hh; have HB4 := Lib.hid hb; have hx := (hb.block _ (lt_of_block R3.out)).trans R3.out; have R4 := Lib.hid hx; have c0 := cell_of_row _ _ 0 _ _ _ hx; have c1 := cell_of_row _ _ 1 _ _ _ hx; have c2 := cell_of_row _ _ 2 _ _ _ hx; clear hx hh hb)
    | (go_at_call 17; refine (rootNew_c _).mono ?_; rintro e w5 ⟨rfl, hr, hb⟩; have HO := Lib.hid hr; have HB5 := Lib.hid hb; have hx := (hb.block _ (lt_of_block R4.out)).trans R4.out; have R5 := Lib.hid hx; have c0 := cell_of_row _ _ 0 _ _ _ hx; have c1 := cell_of_row _ _ 1 _ _ _ hx; have c2 := cell_of_row _ _ 2 _ _ _ hx; clear hx hr hb)
    | (go_at_call 18; refine (finNew_c _ _).mono ?_; rintro e w6 ⟨rfl, hf, hb⟩; have HF := Lib.hid hf; have HB6 := Lib.hid hb; have hx := (hb.block _ (lt_of_block R5.out)).trans R5.out; have R6 := Lib.hid hx; have c0 := cell_of_row _ _ 0 _ _ _ hx; have c1 := cell_of_row _ _ 1 _ _ _ hx; have c2 := cell_of_row _ _ 2 _ _ _ hx; clear hx hf hb))
  all_goals
    go_wp2
    have hb7 : Below w6.heap.size w6 (w6.alloc (.cells #[.pointer (some ⟨r, 0, none⟩), .pointer (some ⟨w3.heap.size, 0, none⟩), .pointer (some ⟨w4.heap.size, 0, none⟩), .pointer (some ⟨w5.heap.size, 0, none⟩), .pointer (some ⟨B.h, 0, none⟩), .int .i64 (n : Int), .int .i64 rate, .int .i64 (k : Int), .int .i64 0, .int .i64 0] 72)) := (Below.refl _ _).alloc (Nat.le_refl _) _
    have b6 : Below w5.heap.size w5 _ := HB6.out.trans (hb7.mono HB6.out.size)
    have b5 : Below w4.heap.size w4 _ := HB5.out.trans (b6.mono HB5.out.size)
    have b4 : Below w3.heap.size w3 _ := HB4.out.trans (b5.mono HB4.out.size)
    have b3 : Below w2.heap.size w2 _ := (below_of_drew HB3.out).trans (b4.mono HB3.out.size)
    have b2 : Below w1.heap.size w1 _ := HB2.out.trans (b3.mono HB2.out.size)
    have bb := (HB0.out.trans ((HB.out.trans (b2.mono HB.out.size)).mono HB0.out.size))
    have F0 := HF.out.below hb7
    have H0 := HS.out.below b2
    refine bodyPost_ret (v := .tuple #[.pointer (some ⟨w6.heap.size, 0, none⟩), .int .i64 0]) (by simp [results, Tryz.results9, go_sem]) rfl ⟨⟨0, w6.heap.size, r, q, w3.heap.size, w4.heap.size, w5.heap.size, B⟩, rfl,
      ⟨heap_alloc_new _ _, (b4.block _ (lt_of_block HR.out)).trans HR.out, (b4.block _ (lt_of_block HQ.out)).trans HQ.out, HH.out.below b5, (b6.block _ (lt_of_block HO.out)).trans HO.out, F0, H0, ?_, ?_⟩, bb⟩
    rotate_left
    · have g0 := HB0.out.size
      have g1 := HB.out.size
      have g2 := HB2.out.size
      have g3 : w2.heap.size ≤ w3.heap.size := HB3.out.size
      have g4 := HB4.out.size
      have g5 := HB5.out.size
      have g6 := HB6.out.size
      refine ⟨?_, ?_, fun k hk => ?_, fun k hk => ?_⟩
      · exact Nat.le_trans hB (Nat.le_trans g0 (Nat.le_trans g1 (Nat.le_trans g2 (Nat.le_trans g3 (Nat.le_trans g4 (Nat.le_trans g5 g6))))))
      · exact Nat.le_trans hB (Nat.le_trans g0 (Nat.le_trans g1 (Nat.le_trans g2 g3)))
      · exact Nat.le_trans hB (Nat.le_trans g0 (HFR.out k hk))
      · rcases hk with e | e | e
        · rw [e]; exact Nat.le_trans hB (Nat.le_trans g0 (Nat.le_trans g1 (Nat.le_trans g2 (Nat.le_trans g3 (Nat.le_trans g4 g5)))))
        · cases e
        · cases e
    rintro j hj (e | e | e)
    · subst e
      rcases hj with e | e | e
      · exact heap_ne F0.box H0.box (cells_ne (by decide)) e
      · exact heap_ne F0.box H0.tab (cells_ne (by decide)) e
      · exact H0.sm.apart F0.box (by rfl) e
    · cases e
    · cases e
theorem rtNew_c (w : World) (hB : Base.B ≤ w.heap.size) (n k : Nat) (rate : Int) (h1 : 1 ≤ n) (h2 : n ≤ 256) (h3 : 0 ≤ rate) (h4 : 1 ≤ k) (h5 : k ≤ 4096) : Calls Tryz.prog 4 #[.agg #[.int .i64 (n : Int), .int .i64 rate, .int .i64 (k : Int)]] w fun e w' => ∃ b : RtB, e = .returned (.tuple #[.pointer (some ⟨b.r, 0, none⟩), .int .i64 0]) ∧ Rt w' b (s0 n rate k) ∧ Below w.heap.size w w' := by
  have HB0 := Lib.hid (show Below w.heap.size w (w.alloc (.cells #[.int .i64 (n : Int), .int .i64 rate, .int .i64 (k : Int)] 27)) from (Below.refl _ _).alloc (Nat.le_refl _) _)
  go_enter Tryz.func4, Tryz.ntmps4
  go_wp2_with (go_at_call 9; refine (gcNew_c _ (Nat.le_trans hB HB0.out.size) n k rate h1 h2 h3 h4 h5).mono ?_; rintro e w1 ⟨b, rfl, hp, hb⟩; have HP := Lib.hid hp; have HB := Lib.hid hb; clear hp hb)
  have hb1 : Below w1.heap.size w1 (w1.alloc (.cells #[.pointer (some ⟨b.p, 0, none⟩)] 41)) := (Below.refl _ _).alloc (Nat.le_refl _) _
  have hp := HP.out.below hb1
  refine bodyPost_ret (v := .tuple #[.pointer (some ⟨w1.heap.size, 0, none⟩), .int .i64 0]) (by simp [results, Tryz.results4, go_sem]) rfl ⟨{ b with r := w1.heap.size }, rfl, ⟨heap_alloc_new _ _, _, _, ⟨hp.pbox, hp.rfbox, hp.qbox, hp.hs, hp.rts, hp.fin, hp.heap, hp.sep, hp.far⟩⟩, HB0.out.trans ((HB.out.trans (hb1.mono HB.out.size)).mono HB0.out.size)⟩
set_option maxRecDepth 100000 in
theorem whole20_c (w : World) (b : RtB) (s : RtS) (vw vp : Value) (h : Pts w b s vw vp) : Calls Tryz.prog 10 #[.pointer (some ⟨b.p, 0, none⟩)] w fun e w' => e = .returned (.bool true) ∧ w = w' := by
  have p0 := cell_of_row _ _ 0 _ _ _ h.pbox
  have p1 := cell_of_row _ _ 1 _ _ _ h.pbox
  have p2 := cell_of_row _ _ 2 _ _ _ h.pbox
  have p3 := cell_of_row _ _ 3 _ _ _ h.pbox
  have r0 := cell_of_row _ _ 0 _ _ _ h.rfbox
  have q0 := cell_of_row _ _ 0 _ _ _ h.qbox
  have f0 := h.fin.c0
  have h0 := h.heap.c0
  have h1 := h.heap.c1
  clear h
  go_enter Tryz.func10, Tryz.ntmps10
  simp only [List.append]
  go_wp2
  go_ret
  exact ⟨rfl, rfl⟩
theorem whole21_c (w : World) (b : RtB) (s : RtS) (h : Rt w b s) : Calls Tryz.prog 5 #[.pointer (some ⟨b.r, 0, none⟩)] w fun e w' => e = .returned (.bool true) ∧ w = w' := by
  obtain ⟨h1, vw, vp, h2⟩ := h
  have H := Lib.hid h2
  have r0 := cell_of_row _ _ 0 _ _ _ h1
  clear h1 h2
  go_enter Tryz.func5, Tryz.ntmps5
  go_wp2_with (go_at_call 10; refine (whole20_c _ b s vw vp H.out).mono ?_; rintro e w' ⟨rfl, rfl⟩)
  go_ret
  exact ⟨rfl, rfl⟩
end
end Go.Proofs.YtibgbahaldojiaaGreat.Fns
