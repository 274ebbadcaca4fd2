/- Run, as an operation: the pending object's own handle. -/
import Derived.Test.YtibgbahaldojiaaGreatRtc
namespace Go.Proofs.YtibgbahaldojiaaGreat.Fns
open Go Go.RowKit
theorem rootok_c (w : World) (g : Nat) : Calls Tryz.prog 98 #[.pointer (some ⟨g, 0, none⟩), .int .i64 0] w fun e w' => e = .returned (.bool true) ∧ w = w' := by
  go_enter Tryz.func98, Tryz.ntmps98
  go_wp2
  go_ret
  exact ⟨rfl, rfl⟩
theorem root_c (w : World) (g : Nat) (hr : w.heap[g]? = some (.cells z16 103 (0, 0))) : Calls Tryz.prog 53 #[.pointer (some ⟨g, 0, none⟩), .int .i64 0] w fun e w' => e = .returned (.tuple #[.int .i64 0, .int .i64 0]) ∧ w = w' := by
  have c0 : w.cell? ⟨g, 0, none⟩ = some (.int .i64 0) := cell_of_row _ _ 0 _ _ _ hr
  clear hr
  go_enter Tryz.func53, Tryz.ntmps53
  go_wp2_with (go_at_call 98; refine (rootok_c _ g).mono ?_; rintro e w' ⟨rfl, rfl⟩)
  refine bodyPost_ret (v := .tuple #[.int .i64 0, .int .i64 0]) (by simp [results, Tryz.results53, go_sem]) rfl ⟨rfl, rfl⟩
theorem pendlen_c [Base] (w : World) {b : RtB} {s : RtS} (h : Rt w b s) (hP : s.P.length ≤ 1000) : Calls Tryz.prog 69 #[.pointer (some ⟨b.fi, 0, none⟩)] w fun e w' => ∃ A c, e = .returned (.slice A s.P.length c) ∧ Below w.heap.size w w' := by
  obtain ⟨_, vw, vp, hp⟩ := h
  refine (pending_c _ hp.fin (by omega)).mono ?_
  rintro e w' ⟨v, rfl, ho, hb⟩
  obtain ⟨A, c, rfl⟩ := own_form ho
  exact ⟨A, c, rfl, hb⟩
theorem take_keep [Base] (w : World) {b : RtB} {s : RtS} (h : Rt w b s) (a : Int) (hP : s.P = [a]) : Calls Tryz.prog 70 #[.pointer (some ⟨b.fi, 0, none⟩), .int .i64 0] w fun e w' => e = .returned (.tuple #[.int .i64 a, .int .i64 0]) ∧ Rt w' b { s with P := [] } ∧ Keep w w' := by
  obtain ⟨hr, vw, vp, hp⟩ := h
  refine (take_c w hp.fin 0 (by rw [hP]; simp) (by rw [hP]; simp) a (by rw [hP]; rfl)).mono ?_
  rintro e w' ⟨rfl, v1, v2, ht⟩
  have K := hp.keepFin ht.2.1
  have q := hp.finTurn ht
  have e1 : s.P.take 0 ++ s.P.drop (0 + 1) = [] := by rw [hP]; rfl
  rw [e1] at q
  exact ⟨rfl, Rt.keep hr K q ⟨rfl, rfl⟩, K⟩
@[reducible] def RuS (b : RtB) (g : Nat) (o : Int) (w' : World) : Prop := RtC b w' ∧ w'.cell? ⟨g, 0, none⟩ = some (.int .i64 o) ∧ w'.cell? ⟨g, 1, none⟩ = some (.int .i64 0) ∧ w'.cell? ⟨g, 2, none⟩ = some (.int .i64 2) ∧ w'.cell? ⟨g, 3, none⟩ = some (.int .i64 0)
theorem RuS.of [Base] {w : World} {b : RtB} {s : RtS} {g : Nat} {o : Int} (h : Rt w b s) (h1 : w.heap[g]? = some (.cells #[.int .i64 o, .int .i64 0, .int .i64 2, .int .i64 0] 34 (0, 0))) : RuS b g o w :=
  ⟨h.cells, cell_of_row _ _ 0 _ _ _ h1, cell_of_row _ _ 1 _ _ _ h1, cell_of_row _ _ 2 _ _ _ h1, cell_of_row _ _ 3 _ _ _ h1⟩
set_option maxRecDepth 100000 in
set_option maxHeartbeats 4000000 in
theorem rrun_c [Base] (w : World) {b : RtB} {s : RtS} (h : Rt w b s) (a : Int) (ha : 1 ≤ a) (hP : s.P = [a]) (k : Nat) (hk : k < 512) (hA : ∀ i, i < k → s.A i ≠ 0) (h0 : s.A k = 0) (hroom : (allL s.T s.A 512).length < 512) (z : Int) (hz : tell s.T k = z) (o : Int) :
    Calls Tryz.prog 35 #[.pointer (some ⟨b.r, 0, none⟩), opv o 0 2 0] w fun e w' => e = .returned (.tuple #[.int .i64 z, .int .i64 0]) ∧ Rt w' b { s with P := [], A := put s.A k a } ∧ Keep w w' := by
  have hb1 := opo_below w o 0 2 0
  have HH := Lib.hid h
  have HB1 := Lib.hid hb1
  have R := Lib.hid (opo_row w o 0 2 0)
  have HR0 := Lib.hid (fun w1 (hb : Below w.heap.size w w1) => by obtain ⟨_, vw, vp, hp⟩ := h.below hb; exact root_c w1 b.rt hp.rts)
  have HPL := Lib.hid (fun w1 (hb : Below w.heap.size w w1) => by have := pendlen_c w1 (h.below hb) (by rw [hP]; simp); rw [hP] at this; exact this)
  have HTK := Lib.hid (fun w1 (hb : Below w.heap.size w w1) => take_keep w1 (h.below hb) a hP)
  obtain ⟨y, hy⟩ : ∃ y : Int, 512 - ((allL s.T s.A 512).length : Int) = y := ⟨_, rfl⟩
  have d2 : (y == 0) = false := by simp; omega
  have HRM := Lib.hid (fun w1 (hb : Below w.heap.size w w1) => by obtain ⟨_, vw, vp, hp⟩ := h.below hb; exact room_c w1 hp.hs y hy)
  have HG := Lib.hid (fun w2 (hh : Rt w2 b { s with P := [] }) => given_c w2 hh a ha k hk hA h0 hroom z hz)
  clear h hb1 hA h0 hroom hz hy hP
  unfold opv
  unfold opo at HB1 R
  have HSA := Lib.hid (fun w1 (hb : Below w.heap.size w w1) (r : w1.heap[w.heap.size]? = some (.cells #[.int .i64 o, .int .i64 0, .int .i64 2, .int .i64 0] 34 (0, 0))) => RuS.of (HH.out.below hb) r)
  go_enter Tryz.func35, Tryz.ntmps35
  go_wp2_with fail
  have HS := Lib.hid (HSA.out _ (below_drew HB1.out) R.out)
  go_region_held3 (fun w' => RtC b w' ∧ w'.cell? ⟨w.heap.size, 0, none⟩ = some (.int .i64 o) ∧ w'.cell? ⟨w.heap.size, 1, none⟩ = some (.int .i64 0) ∧ w'.cell? ⟨w.heap.size, 2, none⟩ = some (.int .i64 2) ∧ w'.cell? ⟨w.heap.size, 3, none⟩ = some (.int .i64 0))
    (first | (with_reducible exact hS) | (with_reducible exact HS.out))
    ((go_at_call 53; refine (HR0.out _ (below_drew HB1.out)).mono ?_; rintro e w' ⟨rfl, rfl⟩))
  clear HS
  go_wp2_with fail
  have HS := Lib.hid (HSA.out _ (below_drew (below_drew HB1.out)) R.out)
  go_region_held3 (fun w' => RtC b w' ∧ w'.cell? ⟨w.heap.size, 0, none⟩ = some (.int .i64 o) ∧ w'.cell? ⟨w.heap.size, 1, none⟩ = some (.int .i64 0) ∧ w'.cell? ⟨w.heap.size, 2, none⟩ = some (.int .i64 2) ∧ w'.cell? ⟨w.heap.size, 3, none⟩ = some (.int .i64 0))
    (first | (with_reducible exact hS) | (with_reducible exact HS.out))
    ((go_at_call 69; refine (HPL.out _ (below_drew (below_drew HB1.out))).mono ?_; rintro e w2 ⟨A2, c2, rfl, hb⟩; have HB2 := Lib.hid ((below_drew (below_drew HB1.out)).trans (hb.mono HB1.out.size)); have R2 := Lib.hid ((hb.block _ (lt_of_block R.out)).trans R.out); have hS : RuS b w.heap.size o w2 := HSA.out _ HB2.out R2.out; clear hb))
  clear HS
  have sRC := RuS.of (HH.out.below HB2.out) R2.out
  go_split_ands
  go_wp2_with (go_at_call 61; refine (HRM.out _ HB2.out).mono ?_; rintro e w3 ⟨rfl, hb⟩; have HB3 := Lib.hid (HB2.out.trans (hb.mono HB2.out.size)); have R3 := Lib.hid ((hb.block _ (lt_of_block R2.out)).trans R2.out); have sRC3 := RuS.of (HH.out.below HB3.out) R3.out; go_split_ands; clear hb)
  have HS := Lib.hid (HSA.out _ (below_drew HB3.out) R3.out)
  go_region_held3 (fun w' => RtC b w' ∧ w'.cell? ⟨w.heap.size, 0, none⟩ = some (.int .i64 o) ∧ w'.cell? ⟨w.heap.size, 1, none⟩ = some (.int .i64 0) ∧ w'.cell? ⟨w.heap.size, 2, none⟩ = some (.int .i64 2) ∧ w'.cell? ⟨w.heap.size, 3, none⟩ = some (.int .i64 0))
    (first | (with_reducible exact hS) | (with_reducible exact HS.out))
    ((go_at_call 70; refine (HTK.out _ (below_drew HB3.out)).mono ?_; rintro e w4 ⟨rfl, hh, hkp⟩; have HH4 := Lib.hid hh; have HK4 := Lib.hid ((Keep.of_below (below_drew HB3.out)).trans hkp); have R4 := Lib.hid (hkp.2 _ _ _ (by rfl) (show w3.drew.heap[w.heap.size]? = _ from R3.out)); have hS : RuS b w.heap.size o w4 := RuS.of hh R4.out; clear hh hkp))
  clear HS
  have sRC4 := RuS.of HH4.out R4.out
  go_split_ands
  go_wp2_with (go_at_call 49; refine (HG.out _ HH4.out).mono ?_; rintro e w5 ⟨rfl, hh, hkp⟩; have HH5 := Lib.hid hh; have HK5 := Lib.hid hkp; clear hh hkp)
  refine bodyPost_ret (v := .tuple #[.int .i64 z, .int .i64 0]) (by simp [results, Tryz.results35, go_sem]) rfl ⟨rfl, HH5.out, HK4.out.trans HK5.out⟩
end Go.Proofs.YtibgbahaldojiaaGreat.Fns
