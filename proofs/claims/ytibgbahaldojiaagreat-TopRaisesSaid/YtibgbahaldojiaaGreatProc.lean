/- What a collection comes to, at such objects. -/
import Derived.Test.YtibgbahaldojiaaGreatFins
import Derived.Test.YtibgbahaldojiaaGreatNew
namespace Go.Proofs.YtibgbahaldojiaaGreat.Fns
open Go Go.RowKit
/-- The cells of what all phases share. -/
def cmO (t h : Nat) (vR vF : Value) (clk free rate : Int) (all : Bool) (stk : Int) : Obj := .cells #[.pointer (some ⟨t, 0, none⟩), .pointer (some ⟨h, 0, none⟩), vR, vF, .int .i64 clk, .int .i64 free, .int .i64 rate, .bool all, .int .i64 stk, .slice none 0 0] 217
/-- What comes out, as far as it is known: its cells. -/
def outO (v : Value) : Obj := .cells #[.slice none 0 0, .slice none 0 0, v, .slice none 0 0] 134
theorem app_nil (ty : TypeId) (w : World) : (Builtin.append_ #[51, 51] ty #[.slice none 0 0, .slice none 0 0]).run Tryz.prog w = .ok (.slice none 0 0) w := by
  obtain ⟨i0, hi0, hz0, hz1, hz2⟩ := info_parts info3
  simp [Builtin.append_, run_underlying Tryz.underlying51, sizeOf, typeInfo, hi0, Builtin.lenOf, Builtin.firstCells]
theorem proc_end {w w10 : World} {B t9 t4 B2 B3 n2 n3 : Nat} {v2 v3 : Value} {x2 x3 : List Value} (h9 : w10.heap[t9]? = some (.cells #[.slice none 0 0, .slice none 0 0, v2, .slice none 0 0] 134 (0, 0))) (h4 : w10.heap[t4]? = some (.cells #[.slice none 0 0, .slice none 0 0, .slice none 0 0, .slice none 0 0] 134 (0, 0))) (hne : t4 ≠ t9)
    (hb : Below B w w10) (hB : B ≤ w10.heap.size) (b4 : B ≤ t4) (b9 : B ≤ t9) (ho2 : w10.ownsRow B2 3 1 v2 n2 x2) (ho3 : w10.ownsRow B3 3 1 v3 n3 x3) (e2 : B ≤ B2) (e3 : B ≤ B3) :
    (((((w10.setCell ⟨t9, 3, none⟩ v3).setCell ⟨t4, 0, none⟩ (.slice none 0 0)).setCell ⟨t4, 1, none⟩ (.slice none 0 0)).setCell ⟨t4, 2, none⟩ v2).setCell ⟨t4, 3, none⟩ v3).heap[t4]? = some (.cells #[.slice none 0 0, .slice none 0 0, v2, v3] 134 (0, 0)) ∧
    Below B w (((((w10.setCell ⟨t9, 3, none⟩ v3).setCell ⟨t4, 0, none⟩ (.slice none 0 0)).setCell ⟨t4, 1, none⟩ (.slice none 0 0)).setCell ⟨t4, 2, none⟩ v2).setCell ⟨t4, 3, none⟩ v3) ∧
    (((((w10.setCell ⟨t9, 3, none⟩ v3).setCell ⟨t4, 0, none⟩ (.slice none 0 0)).setCell ⟨t4, 1, none⟩ (.slice none 0 0)).setCell ⟨t4, 2, none⟩ v2).setCell ⟨t4, 3, none⟩ v3).ownsRow B 3 1 v2 n2 x2 ∧
    (((((w10.setCell ⟨t9, 3, none⟩ v3).setCell ⟨t4, 0, none⟩ (.slice none 0 0)).setCell ⟨t4, 1, none⟩ (.slice none 0 0)).setCell ⟨t4, 2, none⟩ v2).setCell ⟨t4, 3, none⟩ v3).ownsRow B 3 1 v3 n3 x3 := by
  have r4 : (w10.setCell ⟨t9, 3, none⟩ v3).heap[t4]? = some (.cells #[.slice none 0 0, .slice none 0 0, .slice none 0 0, .slice none 0 0] 134 (0, 0)) := (frame_set (b := t9) 3 v3).heap h4 hne
  have hf : Frame w10 (((((w10.setCell ⟨t9, 3, none⟩ v3).setCell ⟨t4, 0, none⟩ (.slice none 0 0)).setCell ⟨t4, 1, none⟩ (.slice none 0 0)).setCell ⟨t4, 2, none⟩ v2).setCell ⟨t4, 3, none⟩ v3) (fun k => k = t9 ∨ k = t4) :=
    (((((Frame.refl w10 (fun k => k = t9 ∨ k = t4)).setCell (p := ⟨t9, 3, none⟩) (fun _ => .inl rfl) _).setCell (p := ⟨t4, 0, none⟩) (fun _ => .inr rfl) _).setCell (p := ⟨t4, 1, none⟩) (fun _ => .inr rfl) _).setCell (p := ⟨t4, 2, none⟩) (fun _ => .inr rfl) _).setCell (p := ⟨t4, 3, none⟩) (fun _ => .inr rfl) _
  refine ⟨fin4 _ t4 134 _ _ _ _ _ _ _ _ r4, hb.trans (hf.below hB (fun k _ e => e.elim (fun e => e ▸ b9) (fun e => e ▸ b4))), ownsRow_base_a (hf.owns ho2 (fun k hk e => e.elim (fun e => own_ne ho2 h9 (by decide) (e ▸ hk)) (fun e => own_ne ho2 h4 (by decide) (e ▸ hk)))) e2, ownsRow_base_a (hf.owns ho3 (fun k hk e => e.elim (fun e => own_ne ho3 h9 (by decide) (e ▸ hk)) (fun e => own_ne ho3 h4 (by decide) (e ▸ hk)))) e3⟩
section
variable (w : World) {B : HpB} {n m N stk : Nat} {f V : Nat → Int} {K : Nat → Int} {Fb : Nat → Bool} {F1 F2 : Nat → Bool} {AR AF : Option Addr} {nR cR nF cF : Nat} {clk free rate : Int} {all : Bool} {ys : List Int}
set_option maxRecDepth 100000 in
set_option maxHeartbeats 8000000 in
theorem process_c (h : Hp w B n m f) (hc : Ch m f K Fb V) (hN : N = n * 64) (hm : m ≤ 32) (hn : 2 ≤ n) (h1 : 1 ≤ stk) (h2 : stk ≤ 4096)
    (hmark : ∀ w0 w' b', Below w.heap.size w w0 → Tx w0 w' b' B.h N (fun _ => false) [] stk false → Calls Tryz.prog 135 #[.pointer (some ⟨b'.t, 0, none⟩), .slice AR nR cR] w' fun e w'' => e = .returned (.tuple #[]) ∧ Tx w0 w'' b' B.h N F1 [] stk false)
    (hfin : ∀ w0 w' b' c, Below w.heap.size w w0 → Tx w0 w' b' B.h N F1 [] stk false → Cm w' c b'.t B.h (.slice AR nR cR) (.slice AF nF cF) clk free rate all stk → Calls Tryz.prog 138 #[.agg #[.pointer (some ⟨c, 0, none⟩)]] w' fun e w'' => ∃ A c2, e = .returned (.slice A ys.length c2) ∧ Tx w0 w'' b' B.h N F2 [] stk false ∧ w''.ownsRow w'.heap.size 3 1 (.slice A ys.length c2) ys.length (ys.map (Value.int .i64))) :
    Calls Tryz.prog 113 #[.pointer (some ⟨B.h, 0, none⟩), .agg #[.slice AR nR cR, .slice AF nF cF, .int .i64 clk, .int .i64 free, .int .i64 rate, .bool all, .int .i64 (stk : Int)]] w fun e w' => ∃ A c2 A3 c3, e = .returned (.tuple #[.agg #[.slice none 0 0, .slice none 0 0, .slice A ys.length c2, .slice A3 (allF F2 N).length c3], .int .i64 0]) ∧ Below w.heap.size w w' ∧
      w'.ownsRow w.heap.size 3 1 (.slice A ys.length c2) ys.length (ys.map (Value.int .i64)) ∧ w'.ownsRow w.heap.size 3 1 (.slice A3 (allF F2 N).length c3) (allF F2 N).length ((allF F2 N).map (Value.int .i64)) := by
  have hmo := h.ar.most
  rw [← hN] at hmo
  have hb0 : Below w.heap.size w ((w.alloc (.cells #[.slice AR nR cR, .slice AF nF cF, .int .i64 clk, .int .i64 free, .int .i64 rate, .bool all, .int .i64 (stk : Int)] 180)).alloc (.cells #[.slice none 0 0, .slice none 0 0, .slice none 0 0, .slice none 0 0] 134)) := ((Below.refl _ _).alloc (Nat.le_refl _) _).alloc (by simp) _
  have hr3 : ((w.alloc (.cells #[.slice AR nR cR, .slice AF nF cF, .int .i64 clk, .int .i64 free, .int .i64 rate, .bool all, .int .i64 (stk : Int)] 180)).alloc (.cells #[.slice none 0 0, .slice none 0 0, .slice none 0 0, .slice none 0 0] 134)).heap[w.heap.size]? = some (.cells #[.slice AR nR cR, .slice AF nF cF, .int .i64 clk, .int .i64 free, .int .i64 rate, .bool all, .int .i64 (stk : Int)] 180 (0, 0)) := (Below.heap_alloc _ _ _ (by simp)).trans (heap_alloc_new w _)
  have hr4 : ((w.alloc (.cells #[.slice AR nR cR, .slice AF nF cF, .int .i64 clk, .int .i64 free, .int .i64 rate, .bool all, .int .i64 (stk : Int)] 180)).alloc (.cells #[.slice none 0 0, .slice none 0 0, .slice none 0 0, .slice none 0 0] 134)).heap[w.heap.size + 1]? = some (.cells #[.slice none 0 0, .slice none 0 0, .slice none 0 0, .slice none 0 0] 134 (0, 0)) := by
    have := heap_alloc_new (w.alloc (.cells #[.slice AR nR cR, .slice AF nF cF, .int .i64 clk, .int .i64 free, .int .i64 rate, .bool all, .int .i64 (stk : Int)] 180)) (.cells #[.slice none 0 0, .slice none 0 0, .slice none 0 0, .slice none 0 0] 134)
    simpa using this
  obtain ⟨w0, hw0⟩ : ∃ w0, w0 = ((w.alloc (.cells #[.slice AR nR cR, .slice AF nF cF, .int .i64 clk, .int .i64 free, .int .i64 rate, .bool all, .int .i64 (stk : Int)] 180)).alloc (.cells #[.slice none 0 0, .slice none 0 0, .slice none 0 0, .slice none 0 0] 134)) := ⟨_, rfl⟩
  rw [← hw0] at hb0 hr3 hr4
  have HB0 := Lib.hid hb0
  have R3 := Lib.hid hr3
  have R4 := Lib.hid hr4
  have H := Lib.hid (h.below hb0)
  have HC := Lib.hid hc
  have HMK := Lib.hid hmark
  have HFN := Lib.hid hfin
  have HW0 := Lib.hid hw0
  have HN := Lib.hid hN
  have r6 := cell_of_row _ _ 6 _ _ _ hr3
  rw [hw0] at r6
  clear h hc hmark hfin hb0 hr3 hr4 hw0 hN
  go_enter Tryz.func113, Tryz.ntmps113
  go_wp2_with (go_at_call 133; rw [← HW0.out]; refine (traceNew_c w0 H.out stk h1 h2).mono ?_; rintro e w1 ⟨b, rfl, ht⟩; rw [← HN.out] at ht; have ht2 := ht.old; have HT := Lib.hid ht; have HB1 := Lib.hid ht2; have hr := (ht2.block _ (lt_of_block R3.out)).trans R3.out; have R31 := Lib.hid hr; have q0 := cell_of_row _ _ 0 _ _ _ hr; have q1 := cell_of_row _ _ 1 _ _ _ hr; have q2 := cell_of_row _ _ 2 _ _ _ hr; have q3 := cell_of_row _ _ 3 _ _ _ hr; have q4 := cell_of_row _ _ 4 _ _ _ hr; have q5 := cell_of_row _ _ 5 _ _ _ hr; have q6 := cell_of_row _ _ 6 _ _ _ hr; have HD1 := Lib.hid (H.out.below (below_drew ht2)); clear ht ht2 hr)
  go_region_with (go_at_call 134; refine (refsOf_c _ HD1.out HC.out hm hn).mono ?_; rintro e w2 ⟨rfl, hb⟩; have hb := below_of_drew hb; have HB2 := Lib.hid hb; have hr := (hb.block _ (lt_of_block R31.out)).trans R31.out; have R32 := Lib.hid hr; have q0 := cell_of_row _ _ 0 _ _ _ hr; have q1 := cell_of_row _ _ 1 _ _ _ hr; have q2 := cell_of_row _ _ 2 _ _ _ hr; have q3 := cell_of_row _ _ 3 _ _ _ hr; have q4 := cell_of_row _ _ 4 _ _ _ hr; have q5 := cell_of_row _ _ 5 _ _ _ hr; have q6 := cell_of_row _ _ 6 _ _ _ hr; clear hb hr)
  all_goals
    have hbc : Below w2.heap.size w2 (w2.alloc (cmO b.t B.h (.slice AR nR cR) (.slice AF nF cF) clk free rate all stk)) := (Below.refl _ _).alloc (Nat.le_refl _) _
    have hcc : (w2.alloc (cmO b.t B.h (.slice AR nR cR) (.slice AF nF cF) clk free rate all stk)).heap[w2.heap.size]? = some (cmO b.t B.h (.slice AR nR cR) (.slice AF nF cF) clk free rate all stk) := heap_alloc_new w2 _
    have T3 := Lib.hid (HT.out.hold (w2 := w2.alloc (cmO b.t B.h (.slice AR nR cR) (.slice AF nF cF) clk free rate all stk)) (HB2.out.trans (hbc.mono HB2.out.size)) (fun k o => k = w2.heap.size ∧ o = cmO b.t B.h (.slice AR nR cR) (.slice AF nF cF) clk free rate all stk) (by rintro k o ⟨rfl, rfl⟩; exact ⟨hcc, HB2.out.size⟩))
    have HCC := Lib.hid hcc
    have k0 := cell_of_row _ _ 0 _ _ _ hcc
    have r0 := cell_of_row _ _ 0 _ _ _ ((hbc.block _ (lt_of_block R32.out)).trans R32.out)
    obtain ⟨b1, hb1⟩ : ∃ b1 : TrB, b1 = { b with P := fun k o => b.P k o ∨ k = w2.heap.size ∧ o = cmO b.t B.h (.slice AR nR cR) (.slice AF nF cF) clk free rate all stk } := ⟨_, rfl⟩
    have ht1 : b1.t = b.t := by rw [hb1]
    have hP1 : b1.P w2.heap.size (cmO b.t B.h (.slice AR nR cR) (.slice AF nF cF) clk free rate all stk) := by rw [hb1]; exact .inr ⟨rfl, rfl⟩
    rw [← hb1] at T3
    have HP1 := Lib.hid (And.intro ht1 hP1)
    have HM1 := HMK.out w0 (w2.alloc (cmO b.t B.h (.slice AR nR cR) (.slice AF nF cF) clk free rate all stk)).drew b1 HB0.out (T3.out.far (below_drew (Below.refl _ _)))
    rw [ht1] at HM1
    have HM1 := Lib.hid HM1
    unfold cmO at k0 r0 HM1
    clear hbc hcc ht1 hP1 hb1
    go_wp2
    go_region_with (go_at_call 135; refine HM1.out.mono ?_; rintro e w4 ⟨rfl, ht⟩; have T4 := Lib.hid ht; have hcm := ht.kept HP1.out.2; have C4 := Lib.hid hcm; clear ht hcm)
  all_goals
    go_wp2_with (first
      | (go_at_call 136; refine (softly_c _ C4.out).mono ?_; rintro e w5 ⟨rfl, hb⟩; have HB5 := Lib.hid hb; have T5 := Lib.hid (T4.out.far hb); have C5 := Lib.hid ((hb.block _ (lt_of_block C4.out)).trans C4.out); clear hb)
      | (go_at_call 137; refine (cleared_c (w5.alloc (.cells #[.slice none 0 0, .slice none 0 0, .slice none 0 0, .slice none 0 0] 134) |>.alloc (.cells #[.int .i64 1, .int .i64 2] 3)) (((((Below.refl w5.heap.size w5).alloc (Nat.le_refl _) _).alloc (by simp) _).block _ (lt_of_block C5.out)).trans C5.out) _).mono ?_; rintro e w' ⟨rfl, rfl⟩))
    have hb8 : Below w5.heap.size w5 ((w5.alloc (outO (.slice none 0 0))).alloc (.cells #[.int .i64 1, .int .i64 2] 3)) := ((Below.refl _ _).alloc (Nat.le_refl _) _).alloc (by simp) _
    have ho8 : ((w5.alloc (outO (.slice none 0 0))).alloc (.cells #[.int .i64 1, .int .i64 2] 3)).heap[w5.heap.size]? = some (outO (.slice none 0 0)) := (Below.heap_alloc _ _ _ (by simp)).trans (heap_alloc_new w5 _)
    have ht8 := T5.out.hold hb8 (fun k o => k = w5.heap.size ∧ o = outO (.slice none 0 0)) (by rintro k o ⟨rfl, rfl⟩; exact ⟨ho8, Nat.le_refl _⟩)
    obtain ⟨b2, hb2⟩ : ∃ b2 : TrB, b2 = { b1 with P := fun k o => b1.P k o ∨ k = w5.heap.size ∧ o = outO (.slice none 0 0) } := ⟨_, rfl⟩
    have ht2 : b2.t = b.t := by rw [hb2]; exact HP1.out.1
    have hP2 : b2.P w2.heap.size (cmO b.t B.h (.slice AR nR cR) (.slice AF nF cF) clk free rate all stk) ∧ b2.P w5.heap.size (outO (.slice none 0 0)) := by rw [hb2]; exact ⟨.inl HP1.out.2, .inr ⟨rfl, rfl⟩⟩
    rw [← hb2] at ht8
    have hne : w2.heap.size ≠ w5.heap.size := by have := lt_of_block C5.out; omega
    have hF1 := HFN.out w0 _ b2 w2.heap.size HB0.out ht8 (by show Cm _ _ _ _ _ _ _ _ _ _ _; rw [ht2]; exact (hb8.block _ (lt_of_block C5.out)).trans C5.out)
    have HF1 := Lib.hid hF1
    have HNE := Lib.hid hne
    have HP2 := Lib.hid hP2
    have HT2 := Lib.hid ht2
    have HSZ := Lib.hid (show w0.heap.size ≤ w5.heap.size from T5.out.old.size)
    unfold outO at HF1
    clear hb8 ho8 ht8 hb2 ht2 hP2 hF1
    refine HF1.out.mono ?_
    rintro e w9 ⟨A, c2, rfl, ht9, ho9⟩
    have hk1 := ht9.kept HP2.out.1
    have hk2 := ht9.kept HP2.out.2
    have hb9 := ht9.old
    obtain ⟨v9, d9, t9⟩ := ht9
    have K1 := Lib.hid hk1
    have K2 := Lib.hid hk2
    have T9 := Lib.hid t9
    have HB9 := Lib.hid hb9
    have HO9 := Lib.hid ho9
    unfold outO at hk2
    have f2 := frozen_of_row _ _ 2 _ _ hk2
    have e2 := cell_of_row _ _ 2 _ _ _ hk2
    have hfx := frame_set (w := w9) (b := w5.heap.size) 2 (.slice A ys.length c2)
    obtain ⟨cr, hr, _⟩ := t9.bits.row
    have hxo : (w9.setCell ⟨w5.heap.size, 2, none⟩ (.slice A ys.length c2)).heap[w5.heap.size]? = some (outO (.slice A ys.length c2)) := by unfold outO; rw [heap_setCell_same _ _ 2 _ _ _ hk2]; rfl
    have hxc : (w9.setCell ⟨w5.heap.size, 2, none⟩ (.slice A ys.length c2)).heap[w2.heap.size]? = some (cmO b.t B.h (.slice AR nR cR) (.slice AF nF cF) clk free rate all stk) := hfx.heap hk1 HNE.out
    have hxb := t9.bits.frame hfx (heap_ne t9.bits.box hk2 (cells_ne (by decide))) (heap_ne hr hk2 (cells_ne (by decide)))
    have hxt : (w9.setCell ⟨w5.heap.size, 2, none⟩ (.slice A ys.length c2)).cell? ⟨b.t, 0, none⟩ = some (.pointer (some ⟨b2.bb, 0, none⟩)) := by
      have := hfx.cell t9.c0 (heap_ne t9.box hk2 (cells_ne (by decide)))
      rwa [HT2.out] at this
    have hnt : b.t ≠ w5.heap.size := by rw [← HT2.out]; exact heap_ne t9.box hk2 (cells_ne (by decide))
    have hxp := hfx.owns ho9 (fun k hk e => own_ne ho9 hk2 (by decide) (e ▸ hk))
    have hxl := hb9.setCell (p := ⟨w5.heap.size, 2, none⟩) HSZ.out (.slice A ys.length c2)
    have hxi : (w9.setCell ⟨w5.heap.size, 2, none⟩ (.slice A ys.length c2)).heap.size = w9.heap.size := by simp [World.setCell]
    have l5 : w5.heap.size ≤ w9.heap.size := by have := lt_of_block hk2; omega
    clear hk1 hk2 hb9 ho9 t9 hfx hr
    go_wp2
    obtain ⟨wx, hwx⟩ : ∃ wx, wx = w9.setCell ⟨w5.heap.size, 2, none⟩ (.slice A ys.length c2) := ⟨_, rfl⟩
    rw [← hwx] at hxo hxc hxb hxp hxl hxi hxt ⊢
    have XO := Lib.hid hxo
    have XC := Lib.hid hxc
    have XB := Lib.hid hxb
    have XP := Lib.hid hxp
    have XL := Lib.hid hxl
    have XI := Lib.hid hxi
    have XT := Lib.hid hxt
    have XN := Lib.hid hnt
    unfold outO at hxo
    have f0 := frozen_of_row _ _ 0 _ _ hxo
    have f1 := frozen_of_row _ _ 1 _ _ hxo
    have f2 := frozen_of_row _ _ 2 _ _ hxo
    have f3 := frozen_of_row _ _ 3 _ _ hxo
    have e0 := cell_of_row _ _ 0 _ _ _ hxo
    have e1 := cell_of_row _ _ 1 _ _ _ hxo
    have e2 := cell_of_row _ _ 2 _ _ _ hxo
    have e3 := cell_of_row _ _ 3 _ _ _ hxo
    have lx := lt_of_block hxo
    have app := app_nil
    have XC1 := Lib.hid (show Cm (wx.alloc (.cells #[.int .i64 3] 3)).drew w2.heap.size b.t B.h (.slice AR nR cR) (.slice AF nF cF) clk free rate all stk from (((Below.refl wx.heap.size wx).alloc (Nat.le_refl _) _).block _ (lt_of_block hxc)).trans hxc)
    have k00 := cell_of_row _ _ 0 _ _ _ (show wx.heap[w2.heap.size]? = _ from hxc)
    clear hxo hxc hxb hxp hxl hxi hwx hxt hnt
    go_region_with (go_at_call 137; refine (cleared_c _ XC1.out _).mono ?_; rintro e w' ⟨rfl, rfl⟩)
    all_goals
      have hz : Frame wx (((wx.setCell ⟨w5.heap.size, 0, none⟩ (.slice none 0 0)).setCell ⟨w5.heap.size, 1, none⟩ (.slice none 0 0)).alloc (.cells #[.int .i64 3] 3)).drew (fun k => k = w5.heap.size) := ((((Frame.refl wx (fun k => k = w5.heap.size)).setCell (p := ⟨w5.heap.size, 0, none⟩) (fun _ => rfl) _).setCell (p := ⟨w5.heap.size, 1, none⟩) (fun _ => rfl) _).alloc _).drew
      obtain ⟨cr, hr, _⟩ := XB.out.row
      have hxo : wx.heap[w5.heap.size]? = some (.cells #[.slice none 0 0, .slice none 0 0, .slice A ys.length c2, .slice none 0 0] 134 (0, 0)) := XO.out
      have ZB := Lib.hid (XB.out.frame hz (heap_ne XB.out.box hxo (cells_ne (by decide))) (heap_ne hr hxo (cells_ne (by decide))))
      have ZK := Lib.hid (hz.cell XT.out XN.out)
      have ZP := Lib.hid (hz.owns XP.out (fun k hk e => own_ne XP.out hxo (by decide) (e ▸ hk)))
      have HZ := Lib.hid hz
      have zo : ((((wx.setCell ⟨w5.heap.size, 0, none⟩ (.slice none 0 0)).setCell ⟨w5.heap.size, 1, none⟩ (.slice none 0 0)).alloc (.cells #[.int .i64 3] 3)).drew).heap[w5.heap.size]? = some (.cells #[.slice none 0 0, .slice none 0 0, .slice A ys.length c2, .slice none 0 0] 134 (0, 0)) := by
        have e1 : (wx.setCell ⟨w5.heap.size, 0, none⟩ (.slice none 0 0)).heap[w5.heap.size]? = some (.cells #[.slice none 0 0, .slice none 0 0, .slice A ys.length c2, .slice none 0 0] 134 (0, 0)) := by rw [heap_setCell_same _ _ 0 _ _ _ hxo]; rfl
        have e2 : ((wx.setCell ⟨w5.heap.size, 0, none⟩ (.slice none 0 0)).setCell ⟨w5.heap.size, 1, none⟩ (.slice none 0 0)).heap[w5.heap.size]? = some (.cells #[.slice none 0 0, .slice none 0 0, .slice A ys.length c2, .slice none 0 0] 134 (0, 0)) := by rw [heap_setCell_same _ _ 1 _ _ _ e1]; rfl
        exact (Below.heap_alloc _ _ _ (lt_of_block e2)).trans e2
      have ZO := Lib.hid zo
      have l25 := lt_of_block C5.out
      have lcx := lt_of_block XC.out
      have l04 := lt_of_block R4.out
      have l05 := HSZ.out
      have hne4 : w.heap.size + 1 ≠ w5.heap.size := by omega
      have z4 := hz.heap ((XL.out.block _ (lt_of_block R4.out)).trans R4.out) hne4
      have Z4 := Lib.hid z4
      clear hz hr hxo zo z4
      go_wp2_with (first
        | (go_at_call 139; refine (put0_c _ _ _).mono ?_; rintro e w' ⟨rfl, rfl⟩)
        | (go_at_call 140; refine (bitsAll_c _ b.t b2.bb b2.br ZK.out ZB.out hmo).mono ?_; rintro e w10 ⟨v10, rfl, ho, hb⟩; obtain ⟨A3, c3, rfl⟩ := own_form ho; have HO10 := Lib.hid ho; have HB10 := Lib.hid hb; have r9 := (hb.block _ (lt_of_block ZO.out)).trans ZO.out; have R9 := Lib.hid r9; have f3 := frozen_of_row _ _ 3 _ _ r9; have e0 := cell_of_row _ _ 0 _ _ _ r9; have e1 := cell_of_row _ _ 1 _ _ _ r9; have e2 := cell_of_row _ _ 2 _ _ _ r9; have e3 := cell_of_row _ _ 3 _ _ _ r9; have r4 := (hb.block _ (lt_of_block Z4.out)).trans Z4.out; have R4' := Lib.hid r4; have y0 := cell_of_row _ _ 0 _ _ _ r4; have y1 := cell_of_row _ _ 1 _ _ _ r4; have y2 := cell_of_row _ _ 2 _ _ _ r4; have y3 := cell_of_row _ _ 3 _ _ _ r4; have x0 := frozen_of_row _ _ 0 _ _ r4; have x1 := frozen_of_row _ _ 1 _ _ r4; have x2 := frozen_of_row _ _ 2 _ _ r4; have x3 := frozen_of_row _ _ 3 _ _ r4; clear ho hb r9 r4))
      have hbw := HB0.out.trans (XL.out.mono HB0.out.size)
      have hzz := HZ.out
      have hbz := hbw.trans (hzz.below (B := w.heap.size) hbw.size (fun k _ e => by have := HB0.out.size; have := HSZ.out; omega))
      have hb10 := hbz.trans (HB10.out.mono hbz.size)
      have s0 := HB0.out.size
      have s5 := HSZ.out
      obtain ⟨g1, g2, g3, g4⟩ := proc_end (B := w.heap.size) R9.out R4'.out hne4 hb10 hb10.size (by omega) (by omega) (owns_below ZP.out HB10.out) HO10.out (by simp; omega) (Nat.le_trans hbw.size HZ.out.size)
      have q0 := cell_of_row _ _ 0 _ _ _ g1
      have q1 := cell_of_row _ _ 1 _ _ _ g1
      have q2 := cell_of_row _ _ 2 _ _ _ g1
      have q3 := cell_of_row _ _ 3 _ _ _ g1
      refine bodyPost_ret (v := .tuple #[.agg #[.slice none 0 0, .slice none 0 0, .slice A ys.length c2, .slice A3 (allF F2 N).length c3], .int .i64 0]) (by simp [results, Tryz.results113, go_sem, q0, q1, q2, q3]) rfl ⟨A, c2, A3, c3, rfl, g2, g3, g4⟩
end
end Go.Proofs.YtibgbahaldojiaaGreat.Fns
