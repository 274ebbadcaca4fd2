/- Collect and Run, as operations. -/
import Derived.Test.YtibgbahaldojiaaGreatCol
namespace Go.Proofs.YtibgbahaldojiaaGreat.Fns
open Go Go.RowKit
theorem reach_each [Base] (w : World) {b : RtB} {s : RtS} (h : Rt w b s) (hm : s.m ≤ 32) : Calls Tryz.prog 71 #[.pointer (some ⟨b.hp.sp.sp, 0, none⟩)] w fun e w' => ∃ A c, e = .returned (.slice A s.m c) ∧ Below w.heap.size w w' := by
  obtain ⟨_, vw, vp, hp⟩ := h
  refine (each_c w hp.heap.sm hm).mono ?_
  rintro e w' ⟨v, rfl, ho, hb⟩
  obtain ⟨A, c, rfl⟩ := own_form ho
  exact ⟨A, c, rfl, hb⟩
theorem PuS.al [Base] {w : World} {b : RtB} {g : Nat} {o x y : Int} (h : PuS b g o x y w) (u : Obj) : PuS b g o x y (w.alloc u) := by
  obtain ⟨⟨h1, h2, h3, h4, h5, h6, h7, h8⟩, h9, h10, h11, h12⟩ := h
  exact ⟨⟨cell_al h1 u, cell_al h2 u, cell_al h3 u, cell_al h4 u, cell_al h5 u, cell_al h6 u, cell_al h7 u, cell_al h8 u⟩, cell_al h9 u, cell_al h10 u, cell_al h11 u, cell_al h12 u⟩
theorem Rt.side [Base] {w w' : World} {b : RtB} {s : RtS} {k : Nat} {cs : Array Value} (h : Rt w b s) (hk : w.heap[k]? = some (.cells cs 134 (0, 0))) (hf : Frame w w' (fun j => j = k)) : Rt w' b s := by
  obtain ⟨hr, vw, vp, h⟩ := h
  exact ⟨hf.heap hr (heap_ne hr hk (cells_ne (by decide))), vw, vp, h.side hk hf⟩
theorem PuS.st4 [Base] {w : World} {b : RtB} {s : RtS} {g k : Nat} {o x y : Int} {cs : Array Value} (h : Rt w b s) (h1 : w.heap[g]? = some (.cells #[.int .i64 o, .int .i64 x, .int .i64 0, .int .i64 y] 34 (0, 0))) (hk : w.heap[k]? = some (.cells cs 134 (0, 0))) (u0 u1 u2 u3 : Value) : PuS b g o x y ((((w.setCell ⟨k, 0, none⟩ u0).setCell ⟨k, 1, none⟩ u1).setCell ⟨k, 2, none⟩ u2).setCell ⟨k, 3, none⟩ u3) :=
  PuS.of (h.side hk (frame4 w k u0 u1 u2 u3)) ((frame4 w k u0 u1 u2 u3).heap h1 (heap_ne h1 hk (cells_ne (by decide))))
set_option maxRecDepth 100000 in
set_option maxHeartbeats 4000000 in
theorem rcollect_c [Base] (w : World) {b : RtB} {s : RtS} (h : Rt w b s) (hm : s.m ≤ 32) (al : Bool) (A : Int) (hA : A = if al then 1 else 0) (s2 : RtS) (hm2 : s2.m ≤ s.m) (hcol : ∀ w1, Rt w1 b s → Calls Tryz.prog 72 #[.pointer (some ⟨b.p, 0, none⟩), .bool al] w1 fun e w' => ∃ a0 a1 a2 a3 a4 a5, e = .returned (.tuple #[.agg #[.slice none 0 0, .slice none 0 0, .slice a0 a1 a2, .slice a3 a4 a5], .int .i64 0]) ∧ Rt w' b s2 ∧ Keep w1 w') (o z : Int) (hz : (s.m : Int) - (s2.m : Int) = z) :
    Calls Tryz.prog 36 #[.pointer (some ⟨b.r, 0, none⟩), opv o A 0 0] w fun e w' => e = .returned (.tuple #[.int .i64 z, .int .i64 0]) ∧ Rt w' b s2 ∧ Keep w w' := by
  have hb1 := opo_below w o A 0 0
  have HE := Lib.hid (reach_each _ (h.below hb1) hm)
  have HC := Lib.hid hcol
  have HH := Lib.hid h
  have HB1 := Lib.hid hb1
  have R := Lib.hid (opo_row w o A 0 0)
  have hw : IntKind.i64.wrap ((s.m : Int) - (s2.m : Int)) = z := by rw [hz]; exact IntWalk.i64_in _ (by omega)
  obtain ⟨r0, rf, _, _, _, q, hp, sp⟩ := (h.below hb1).cells
  have HM2 := Lib.hid (Nat.le_trans hm2 hm)
  have HMZ := Lib.hid hm2
  clear h hcol hb1 hz hm2
  unfold opv
  unfold opo at HE HB1 R r0 rf q hp sp
  cases al
  · simp at hA
    subst hA
    go_enter Tryz.func36, Tryz.ntmps36
    go_wp2_with (go_at_call 71; refine HE.out.mono ?_; rintro e w2 ⟨A1, c1, rfl, hb⟩; have HB2 := Lib.hid (HB1.out.trans (hb.mono HB1.out.size)); have R2 := Lib.hid ((hb.block _ (lt_of_block R.out)).trans R.out); clear hb)
    have hbx : Below w.heap.size w (w2.alloc (.cells #[.slice none 0 0, .slice none 0 0, .slice none 0 0, .slice none 0 0] 134)).drew := below_drew (HB2.out.alloc HB2.out.size _)
    have HBX := Lib.hid hbx
    have R2d := Lib.hid (show w2.drew.heap[w.heap.size]? = _ from R2.out)
    have R2x := Lib.hid (show (w2.alloc (.cells #[.slice none 0 0, .slice none 0 0, .slice none 0 0, .slice none 0 0] 134)).drew.heap[w.heap.size]? = _ from (((Below.refl w2.heap.size w2).alloc (Nat.le_refl _) (.cells #[.slice none 0 0, .slice none 0 0, .slice none 0 0, .slice none 0 0] 134)).block _ (lt_of_block R2.out)).trans R2.out)
    have HS := Lib.hid (PuS.of (HH.out.below (below_drew HB2.out)) R2d.out)
    have HS2 := Lib.hid (PuS.of (HH.out.below HBX.out) R2x.out)
    have R7 := Lib.hid (show (w2.alloc (.cells #[.slice none 0 0, .slice none 0 0, .slice none 0 0, .slice none 0 0] 134)).drew.heap[w2.heap.size]? = _ from heap_alloc_new w2 (.cells #[.slice none 0 0, .slice none 0 0, .slice none 0 0, .slice none 0 0] 134))
    clear hbx
    go_region_held3 (fun w' => RtC b w' ∧ w'.cell? ⟨w.heap.size, 0, none⟩ = some (.int .i64 o) ∧ w'.cell? ⟨w.heap.size, 1, none⟩ = some (.int .i64 0) ∧ w'.cell? ⟨w.heap.size, 2, none⟩ = some (.int .i64 0) ∧ w'.cell? ⟨w.heap.size, 3, none⟩ = some (.int .i64 0))
      (first | (with_reducible exact hS) | (with_reducible exact HS.out) | (with_reducible exact HS2.out) | (with_reducible exact PuS.al HSX.out _) | (with_reducible exact PuS.st4 HH3.out RB3.out R73.out _ _ _ _))
      (first
        | (go_at_call 72; (with_reducible refine (HC.out w2.drew (HH.out.below (below_drew HB2.out))).mono ?_); rintro e w3 ⟨a0, a1, a2, a3, a4, a5, rfl, hh, hkp⟩; have HH3 := Lib.hid hh; have HK3 := Lib.hid ((Keep.of_below (below_drew HB2.out)).trans hkp); have hS : PuS b w.heap.size o 0 0 w3 := PuS.of hh (hkp.2 _ _ _ (by rfl) R2d.out); have HSX := Lib.hid hS; clear hh hkp)
        | (go_at_call 72; (with_reducible refine (HC.out (w2.alloc (.cells #[.slice none 0 0, .slice none 0 0, .slice none 0 0, .slice none 0 0] 134)).drew (HH.out.below HBX.out)).mono ?_); rintro e w3 ⟨a0, a1, a2, a3, a4, a5, rfl, hh, hkp⟩; have HH3 := Lib.hid hh; have HK3 := Lib.hid ((Keep.of_below HBX.out).trans hkp); have RB3 := Lib.hid (hkp.2 _ _ _ (by rfl) R2x.out); have hS : PuS b w.heap.size o 0 0 w3 := PuS.of hh RB3.out; have r7 := (hkp.2 _ _ _ (by rfl) R7.out); have R73 := Lib.hid r7; have y0 := cell_of_row _ _ 0 _ _ _ r7; have y1 := cell_of_row _ _ 1 _ _ _ r7; have y2 := cell_of_row _ _ 2 _ _ _ r7; have y3 := cell_of_row _ _ 3 _ _ _ r7; have x0 := frozen_of_row _ _ 0 _ _ r7; have x1 := frozen_of_row _ _ 1 _ _ r7; have x2 := frozen_of_row _ _ 2 _ _ r7; have x3 := frozen_of_row _ _ 3 _ _ r7; clear hh hkp r7))
    · have HHX := Lib.hid (HH3.out.below ((Below.refl w3.heap.size w3).alloc (Nat.le_refl _) (.cells #[.slice none 0 0, .slice none 0 0, .slice a0 a1 a2, .slice a3 a4 a5] 134)))
      have HKX := Lib.hid (HK3.out.trans (Keep.of_below ((Below.refl w3.heap.size w3).alloc (Nat.le_refl _) (.cells #[.slice none 0 0, .slice none 0 0, .slice a0 a1 a2, .slice a3 a4 a5] 134))))
      go_wp2_with (go_at_call 71; refine (reach_each _ HHX.out HM2.out).mono ?_; rintro e w5 ⟨A5, c5, rfl, hb⟩; have HB5 := Lib.hid hb; clear hb)
      refine bodyPost_ret (v := .tuple #[.int .i64 z, .int .i64 0]) (by simp [results, Tryz.results36, go_sem]) rfl ⟨rfl, HHX.out.below HB5.out, HKX.out.trans (Keep.of_below HB5.out)⟩
    · have HHX := Lib.hid (HH3.out.side R73.out (frame4 w3 w2.heap.size (.slice none 0 0) (.slice none 0 0) (.slice a0 a1 a2) (.slice a3 a4 a5)))
      have HKX := Lib.hid (Keep.side (k := w2.heap.size) HK3.out (frame4 w3 w2.heap.size (.slice none 0 0) (.slice none 0 0) (.slice a0 a1 a2) (.slice a3 a4 a5)) HB2.out.size)
      go_wp2_with (go_at_call 71; refine (reach_each _ HHX.out HM2.out).mono ?_; rintro e w5 ⟨A5, c5, rfl, hb⟩; have HB5 := Lib.hid hb; clear hb)
      refine bodyPost_ret (v := .tuple #[.int .i64 z, .int .i64 0]) (by simp [results, Tryz.results36, go_sem]) rfl ⟨rfl, HHX.out.below HB5.out, HKX.out.trans (Keep.of_below HB5.out)⟩
  · simp at hA
    subst hA
    go_enter Tryz.func36, Tryz.ntmps36
    go_wp2_with (go_at_call 71; refine HE.out.mono ?_; rintro e w2 ⟨A1, c1, rfl, hb⟩; have HB2 := Lib.hid (HB1.out.trans (hb.mono HB1.out.size)); have R2 := Lib.hid ((hb.block _ (lt_of_block R.out)).trans R.out); clear hb)
    have hbx : Below w.heap.size w (w2.alloc (.cells #[.slice none 0 0, .slice none 0 0, .slice none 0 0, .slice none 0 0] 134)).drew := below_drew (HB2.out.alloc HB2.out.size _)
    have HBX := Lib.hid hbx
    have R2d := Lib.hid (show w2.drew.heap[w.heap.size]? = _ from R2.out)
    have R2x := Lib.hid (show (w2.alloc (.cells #[.slice none 0 0, .slice none 0 0, .slice none 0 0, .slice none 0 0] 134)).drew.heap[w.heap.size]? = _ from (((Below.refl w2.heap.size w2).alloc (Nat.le_refl _) (.cells #[.slice none 0 0, .slice none 0 0, .slice none 0 0, .slice none 0 0] 134)).block _ (lt_of_block R2.out)).trans R2.out)
    have HS := Lib.hid (PuS.of (HH.out.below (below_drew HB2.out)) R2d.out)
    have HS2 := Lib.hid (PuS.of (HH.out.below HBX.out) R2x.out)
    have R7 := Lib.hid (show (w2.alloc (.cells #[.slice none 0 0, .slice none 0 0, .slice none 0 0, .slice none 0 0] 134)).drew.heap[w2.heap.size]? = _ from heap_alloc_new w2 (.cells #[.slice none 0 0, .slice none 0 0, .slice none 0 0, .slice none 0 0] 134))
    clear hbx
    go_region_held3 (fun w' => RtC b w' ∧ w'.cell? ⟨w.heap.size, 0, none⟩ = some (.int .i64 o) ∧ w'.cell? ⟨w.heap.size, 1, none⟩ = some (.int .i64 1) ∧ w'.cell? ⟨w.heap.size, 2, none⟩ = some (.int .i64 0) ∧ w'.cell? ⟨w.heap.size, 3, none⟩ = some (.int .i64 0))
      (first | (with_reducible exact hS) | (with_reducible exact HS.out) | (with_reducible exact HS2.out) | (with_reducible exact PuS.al HSX.out _) | (with_reducible exact PuS.st4 HH3.out RB3.out R73.out _ _ _ _))
      (first
        | (go_at_call 72; (with_reducible refine (HC.out w2.drew (HH.out.below (below_drew HB2.out))).mono ?_); rintro e w3 ⟨a0, a1, a2, a3, a4, a5, rfl, hh, hkp⟩; have HH3 := Lib.hid hh; have HK3 := Lib.hid ((Keep.of_below (below_drew HB2.out)).trans hkp); have hS : PuS b w.heap.size o 1 0 w3 := PuS.of hh (hkp.2 _ _ _ (by rfl) R2d.out); have HSX := Lib.hid hS; clear hh hkp)
        | (go_at_call 72; (with_reducible refine (HC.out (w2.alloc (.cells #[.slice none 0 0, .slice none 0 0, .slice none 0 0, .slice none 0 0] 134)).drew (HH.out.below HBX.out)).mono ?_); rintro e w3 ⟨a0, a1, a2, a3, a4, a5, rfl, hh, hkp⟩; have HH3 := Lib.hid hh; have HK3 := Lib.hid ((Keep.of_below HBX.out).trans hkp); have RB3 := Lib.hid (hkp.2 _ _ _ (by rfl) R2x.out); have hS : PuS b w.heap.size o 1 0 w3 := PuS.of hh RB3.out; have r7 := (hkp.2 _ _ _ (by rfl) R7.out); have R73 := Lib.hid r7; have y0 := cell_of_row _ _ 0 _ _ _ r7; have y1 := cell_of_row _ _ 1 _ _ _ r7; have y2 := cell_of_row _ _ 2 _ _ _ r7; have y3 := cell_of_row _ _ 3 _ _ _ r7; have x0 := frozen_of_row _ _ 0 _ _ r7; have x1 := frozen_of_row _ _ 1 _ _ r7; have x2 := frozen_of_row _ _ 2 _ _ r7; have x3 := frozen_of_row _ _ 3 _ _ r7; clear hh hkp r7))
    · have HHX := Lib.hid (HH3.out.below ((Below.refl w3.heap.size w3).alloc (Nat.le_refl _) (.cells #[.slice none 0 0, .slice none 0 0, .slice a0 a1 a2, .slice a3 a4 a5] 134)))
      have HKX := Lib.hid (HK3.out.trans (Keep.of_below ((Below.refl w3.heap.size w3).alloc (Nat.le_refl _) (.cells #[.slice none 0 0, .slice none 0 0, .slice a0 a1 a2, .slice a3 a4 a5] 134))))
      go_wp2_with (go_at_call 71; refine (reach_each _ HHX.out HM2.out).mono ?_; rintro e w5 ⟨A5, c5, rfl, hb⟩; have HB5 := Lib.hid hb; clear hb)
      refine bodyPost_ret (v := .tuple #[.int .i64 z, .int .i64 0]) (by simp [results, Tryz.results36, go_sem]) rfl ⟨rfl, HHX.out.below HB5.out, HKX.out.trans (Keep.of_below HB5.out)⟩
    · have HHX := Lib.hid (HH3.out.side R73.out (frame4 w3 w2.heap.size (.slice none 0 0) (.slice none 0 0) (.slice a0 a1 a2) (.slice a3 a4 a5)))
      have HKX := Lib.hid (Keep.side (k := w2.heap.size) HK3.out (frame4 w3 w2.heap.size (.slice none 0 0) (.slice none 0 0) (.slice a0 a1 a2) (.slice a3 a4 a5)) HB2.out.size)
      go_wp2_with (go_at_call 71; refine (reach_each _ HHX.out HM2.out).mono ?_; rintro e w5 ⟨A5, c5, rfl, hb⟩; have HB5 := Lib.hid hb; clear hb)
      refine bodyPost_ret (v := .tuple #[.int .i64 z, .int .i64 0]) (by simp [results, Tryz.results36, go_sem]) rfl ⟨rfl, HHX.out.below HB5.out, HKX.out.trans (Keep.of_below HB5.out)⟩
end Go.Proofs.YtibgbahaldojiaaGreat.Fns
