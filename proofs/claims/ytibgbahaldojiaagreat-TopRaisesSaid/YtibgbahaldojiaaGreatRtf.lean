/- The runtime's own functions: what they keep. -/
/- An object is made and held. -/
/- The runtime's functions on what is held. -/
import Derived.Test.YtibgbahaldojiaaGreatCollect
import Derived.Test.YtibgbahaldojiaaGreatNew
namespace Go.Proofs.YtibgbahaldojiaaGreat.Fns
open Go Go.RowKit
theorem Rt.keep [Base] {w w' : World} {b : RtB} {s' : RtS} {vw vp : Value} {b' : RtB} (hr : w.heap[b.r]? = some (.cells #[.pointer (some ⟨b.p, 0, none⟩)] 41 (0, 0))) (hk : Keep w w') (h : Pts w' b' s' vw vp) (e : b'.r = b.r ∧ b'.p = b.p) : Rt w' b' s' :=
  ⟨by rw [e.1, e.2]; exact hk.2 _ _ _ (by rfl) hr, vw, vp, h⟩
set_option maxRecDepth 100000 in
set_option maxHeartbeats 2000000 in
theorem given_c [Base] (w : World) {b : RtB} {s : RtS} (h : Rt w b s) (a : Int) (ha : 1 ≤ a) (k : Nat) (hk : k < 512) (hA : ∀ i, i < k → s.A i ≠ 0) (h0 : s.A k = 0) (hroom : (allL s.T s.A 512).length < 512) (z : Int) (hz : tell s.T k = z) :
    Calls Tryz.prog 49 #[.pointer (some ⟨b.r, 0, none⟩), .int .i64 a] w fun e w' => e = .returned (.tuple #[.int .i64 z, .int .i64 0]) ∧ Rt w' b { s with A := put s.A k a } ∧ Keep w w' := by
  obtain ⟨hr, vw, vp, h⟩ := h
  have r0 := cell_of_row _ _ 0 _ _ _ hr
  have p1 := cell_of_row _ _ 1 _ _ _ h.pbox
  have d1 : (a == 0) = false := by simp; omega
  have H := Lib.hid h
  have HR := Lib.hid hr
  have HA := Lib.hid (And.intro hA (And.intro h0 hz))
  obtain ⟨y, hy⟩ : ∃ y : Int, 512 - ((allL s.T s.A 512).length : Int) = y := ⟨_, rfl⟩
  have d2 : (y == 0) = false := by simp; omega
  have HY := Lib.hid hy
  clear h hr hA h0 hz hy
  go_enter Tryz.func49, Tryz.ntmps49
  go_wp2_with (first
    | (go_at_call 61; refine (room_c _ H.out.hs y HY.out).mono ?_; rintro e w1 ⟨rfl, hb⟩; have HB := Lib.hid hb; have r0 := cell_of_row _ _ 0 _ _ _ ((hb.block _ (lt_of_block HR.out)).trans HR.out); have p1 := cell_of_row _ _ 1 _ _ _ (H.out.below hb).pbox; clear hb)
    | (go_at_call 93; refine (hold_ok _ (H.out.below HB.out).hs a ha k hk HA.out.1 HA.out.2.1 z HA.out.2.2).mono ?_; rintro e w2 ⟨rfl, hh, hf⟩; have HH := Lib.hid hh; have HF := Lib.hid hf; clear hh hf))
  have H1 := H.out.below HB.out
  have K1 := (Keep.of_below HB.out).trans (H1.keepHd HF.out)
  refine bodyPost_ret (v := .tuple #[.int .i64 z, .int .i64 0]) (by simp [results, Tryz.results49, go_sem]) rfl ⟨rfl, Rt.keep HR.out K1 (H1.hdTurn HH.out HF.out) ⟨rfl, rfl⟩, K1⟩
/-- The cells by which the runtime's functions go. -/
@[reducible] def RtC (b : RtB) (w' : World) : Prop := w'.cell? ⟨b.r, 0, none⟩ = some (.pointer (some ⟨b.p, 0, none⟩)) ∧ w'.cell? ⟨b.p, 0, none⟩ = some (.pointer (some ⟨b.rf, 0, none⟩)) ∧ w'.cell? ⟨b.p, 1, none⟩ = some (.pointer (some ⟨b.hd, 0, none⟩)) ∧ w'.cell? ⟨b.p, 2, none⟩ = some (.pointer (some ⟨b.rt, 0, none⟩)) ∧ w'.cell? ⟨b.p, 3, none⟩ = some (.pointer (some ⟨b.fi, 0, none⟩)) ∧ w'.cell? ⟨b.rf, 0, none⟩ = some (.pointer (some ⟨b.q, 0, none⟩)) ∧ w'.cell? ⟨b.q, 0, none⟩ = some (.pointer (some ⟨b.hp.h, 0, none⟩)) ∧ w'.cell? ⟨b.hp.h, 0, none⟩ = some (.pointer (some ⟨b.hp.sp.sp, 0, none⟩))
theorem Rt.cells [Base] {w : World} {b : RtB} {s : RtS} (h : Rt w b s) : RtC b w := by
  obtain ⟨hr, vw, vp, h⟩ := h
  exact ⟨cell_of_row _ _ 0 _ _ _ hr, cell_of_row _ _ 0 _ _ _ h.pbox, cell_of_row _ _ 1 _ _ _ h.pbox, cell_of_row _ _ 2 _ _ _ h.pbox, cell_of_row _ _ 3 _ _ _ h.pbox, cell_of_row _ _ 0 _ _ _ h.rfbox, cell_of_row _ _ 0 _ _ _ h.qbox, h.heap.c0⟩
theorem Rt.below [Base] {w w' : World} {b : RtB} {s : RtS} (h : Rt w b s) (hb : Below w.heap.size w w') : Rt w' b s := by
  obtain ⟨hr, vw, vp, h⟩ := h
  exact ⟨(hb.block _ (lt_of_block hr)).trans hr, vw, vp, h.below hb⟩
theorem Rt.dr [Base] {w : World} {b : RtB} {s : RtS} (h : Rt w b s) : Rt w.drew b s := h.below (below_drew (Below.refl _ _))
/-- The runtime as it is with other pages of its space. -/
def RtB.on (b : RtB) (g : PgB) : RtB := { b with hp := { b.hp with g := g } }
theorem make_keep [Base] (w : World) {b : RtB} {s : RtS} (h : Rt w b s) (hm : s.m < 32) (hn : 2 ≤ s.n) (a : Nat) (ha : a = 64 + s.m * 2) (k : Int) (hk : k = 2 ∨ k = 3) : Calls Tryz.prog 89 #[.pointer (some ⟨b.hp.h, 0, none⟩), hd k 1 false] w fun e w' => ∃ g' : PgB, e = .returned (.tuple #[.int .i64 (a : Int), .int .i64 0]) ∧ Rt w' (b.on g') { s with m := s.m + 1, f := put (wipe s.f a 2) a (hw k 1 false) } ∧ Keep w w' := by
  obtain ⟨hr, vw, vp, h⟩ := h
  refine (make_c _ h.heap hm hn a ha k hk).mono ?_
  rintro e w' ⟨g', rfl, hh, hf, hg⟩
  exact ⟨g', rfl, Rt.keep hr (h.keepHeap hf) (h.heapTurn hh hf hg) ⟨rfl, rfl⟩, h.keepHeap hf⟩
@[reducible] def ObS (b : RtB) (g1 g2 : Nat) (k : Int) (w' : World) : Prop := RtC b w' ∧ w'.cell? ⟨g1, 0, none⟩ = some (.pointer (some ⟨b.r, 0, none⟩)) ∧ w'.cell? ⟨g2, 0, none⟩ = some (.int .i64 k) ∧ w'.cell? ⟨g2, 1, none⟩ = some (.int .i64 0) ∧ w'.cell? ⟨g2, 2, none⟩ = some (.int .i64 1) ∧ w'.cell? ⟨g2, 3, none⟩ = some (.bool false)
theorem ObS.of [Base] {w : World} {b : RtB} {s : RtS} {g1 g2 : Nat} {k : Int} (h : Rt w b s) (h1 : w.heap[g1]? = some (.cells #[.pointer (some ⟨b.r, 0, none⟩)] 22 (0, 0))) (h2 : w.heap[g2]? = some (.cells #[.int .i64 k, .int .i64 0, .int .i64 1, .bool false] 111 (0, 0))) : ObS b g1 g2 k w :=
  ⟨h.cells, cell_of_row _ _ 0 _ _ _ h1, cell_of_row _ _ 0 _ _ _ h2, cell_of_row _ _ 1 _ _ _ h2, cell_of_row _ _ 2 _ _ _ h2, cell_of_row _ _ 3 _ _ _ h2⟩
set_option maxRecDepth 100000 in
set_option maxHeartbeats 4000000 in
theorem object1_c [Base] (w : World) {b : RtB} {s : RtS} (h : Rt w b s) (hm : s.m < 32) (hn : 2 ≤ s.n) (a : Nat) (ha : a = 64 + s.m * 2) (k : Int) (hk : k = 2 ∨ k = 3) (g1 g2 : Nat) (h1 : w.heap[g1]? = some (.cells #[.pointer (some ⟨b.r, 0, none⟩)] 22 (0, 0))) (h2 : w.heap[g2]? = some (.cells #[.int .i64 k, .int .i64 0, .int .i64 1, .bool false] 111 (0, 0))) :
    Calls Tryz.prog 88 #[.pointer (some ⟨g1, 0, none⟩), .pointer (some ⟨g2, 0, none⟩)] w fun e w' => ∃ g' : PgB, e = .returned (.tuple #[.int .i64 (a : Int), .int .i64 0]) ∧ Rt w' (b.on g') { s with m := s.m + 1, f := put (wipe s.f a 2) a (hw k 1 false) } ∧ Keep w w' := by
  have HM := Lib.hid (make_keep w.drew h.dr hm hn a ha k hk)
  unfold hd at HM
  have HS := Lib.hid (ObS.of h.dr (show w.drew.heap[g1]? = _ from h1) (show w.drew.heap[g2]? = _ from h2))
  have H1 := Lib.hid (show w.drew.heap[g1]? = _ from h1)
  have H2 := Lib.hid (show w.drew.heap[g2]? = _ from h2)
  clear h h1 h2 ha
  go_enter Tryz.func88, Tryz.ntmps88
  go_wp2_with fail
  go_region_held3 (fun w' => RtC b w' ∧ w'.cell? ⟨g1, 0, none⟩ = some (.pointer (some ⟨b.r, 0, none⟩)) ∧ w'.cell? ⟨g2, 0, none⟩ = some (.int .i64 k) ∧ w'.cell? ⟨g2, 1, none⟩ = some (.int .i64 0) ∧ w'.cell? ⟨g2, 2, none⟩ = some (.int .i64 1) ∧ w'.cell? ⟨g2, 3, none⟩ = some (.bool false))
    (first | (with_reducible exact hS) | (with_reducible exact HS.out))
    ((go_at_call 89; refine HM.out.mono ?_; rintro e w1 ⟨g', rfl, hh, hkp⟩; have HH := Lib.hid hh; have HKP := Lib.hid hkp; have hS : ObS b g1 g2 k w1 := ObS.of (b := b.on g') hh (hkp.2 _ _ _ (by rfl) H1.out) (hkp.2 _ _ _ (by rfl) H2.out); clear hh hkp))
  go_wp2
  refine bodyPost_ret (v := .tuple #[.int .i64 (a : Int), .int .i64 0]) (by simp [results, Tryz.results88, go_sem]) rfl ⟨g', rfl, HH.out, HKP.out.undrew⟩
end Go.Proofs.YtibgbahaldojiaaGreat.Fns
namespace Go.Proofs.YtibgbahaldojiaaGreat.Fns
open Go Go.RowKit
section
variable [Base] (w : World) {b : RtB} {s : RtS} (h : Rt w b s) (hm : s.m < 32) (hn : 2 ≤ s.n) (a : Nat) (ha : a = 64 + s.m * 2) (k : Int) (hk : k = 2 ∨ k = 3) (q : Nat) (hq : q < 512) (hA : ∀ i, i < q → s.A i ≠ 0) (h0 : s.A q = 0) (hroom : (allL s.T s.A 512).length < 512) (z : Int) (hz : tell s.T q = z)
include h hm hn ha hk hq hA h0 hroom hz
/-- What is left where an object was made. -/
def MadeP (w : World) (b : RtB) (s : RtS) (a : Nat) (k : Int) (q : Nat) (z : Int) (e : Ending) (w' : World) : Prop := ∃ g' : PgB, e = .returned (.tuple #[.int .i64 z, .int .i64 0]) ∧ Rt w' (b.on g') { s with m := s.m + 1, f := put (wipe s.f a 2) a (hw k 1 false), A := put s.A q a } ∧ Keep w w'
set_option maxRecDepth 100000 in
set_option maxHeartbeats 4000000 in
theorem made_c (g1 g2 : Nat) (h1 : w.heap[g1]? = some (.cells #[.pointer (some ⟨b.r, 0, none⟩)] 22 (0, 0))) (h2 : w.heap[g2]? = some (.cells #[.int .i64 k, .int .i64 0, .int .i64 1, .bool false] 111 (0, 0))) :
    Calls Tryz.prog 55 #[.pointer (some ⟨b.r, 0, none⟩), .func (.func 88) #[] #[.pointer (some ⟨g1, 0, none⟩), .pointer (some ⟨g2, 0, none⟩)]] w (MadeP w b s a k q z) := by
  obtain ⟨y, hy⟩ : ∃ y : Int, 512 - ((allL s.T s.A 512).length : Int) = y := ⟨_, rfl⟩
  have d2 : (y == 0) = false := by simp; omega
  have HRM := Lib.hid (by obtain ⟨_, vw, vp, hp⟩ := h; exact room_c w hp.hs y hy : Calls Tryz.prog 61 #[.pointer (some ⟨b.hd, 0, none⟩)] w fun e w' => e = .returned (.int .i64 y) ∧ Below w.heap.size w w')
  have HX := Lib.hid (fun w1 (hb : Below w.heap.size w w1) => object1_c w1 (h.below hb) hm hn a ha k hk g1 g2 ((hb.block _ (lt_of_block h1)).trans h1) ((hb.block _ (lt_of_block h2)).trans h2))
  have HG := Lib.hid (fun w2 (g' : PgB) (hh : Rt w2 (b.on g') { s with m := s.m + 1, f := put (wipe s.f a 2) a (hw k 1 false) }) => given_c w2 hh (a : Int) (by omega) q hq hA h0 hroom z hz)
  obtain ⟨r0, _, r1, _⟩ := h.cells
  clear h h1 h2 ha hm hA h0 hroom hz hy
  go_enter Tryz.func55, Tryz.ntmps55
  go_wp2_with (first
    | (go_at_call 61; refine HRM.out.mono ?_; rintro e w1 ⟨rfl, hb⟩; have HB := Lib.hid hb; clear hb)
    | (go_at_call 88; refine (HX.out _ HB.out).mono ?_; rintro e w2 ⟨g', rfl, hh, hkp⟩; have HH := Lib.hid hh; have HK := Lib.hid hkp; clear hh hkp))
  have HB3 := Lib.hid (show Below w2.heap.size w2 (w2.alloc (.cells #[.bool false, .bool true] 4)) from (Below.refl _ _).alloc (Nat.le_refl _) _)
  go_loopw [26, 6, 7] (fun iv t6 t7 wr => iv = .int .i64 0 ∧ t6 = .int .i64 (a : Int) ∧ t7 = .int .i64 0 ∧ wr = w2.alloc (.cells #[.bool false, .bool true] 4)) (fun _ _ _ _ => 0)
  case atStart => exact ⟨rfl, rfl, rfl, rfl⟩
  case round =>
    obtain ⟨rfl, rfl, rfl, rfl⟩ := hrel
    go_wp2_with (go_at_call 49; refine (HG.out _ g' (HH.out.below HB3.out)).mono ?_; rintro e w4 ⟨rfl, hh, hkp⟩; have HH4 := Lib.hid hh; have HK4 := Lib.hid hkp; clear hh hkp)
    refine bodyPost_ret (v := .tuple #[.int .i64 z, .int .i64 0]) (by simp [results, Tryz.results55, go_sem]) rfl ⟨g', rfl, HH4.out, ((Keep.of_below HB.out).trans HK.out).trans ((Keep.of_below HB3.out).trans HK4.out)⟩
set_option maxRecDepth 100000 in
set_option maxHeartbeats 4000000 in
theorem object_c : Calls Tryz.prog 45 #[.pointer (some ⟨b.r, 0, none⟩), .agg #[.int .i64 k, .int .i64 0, .int .i64 1, .bool false]] w (MadeP w b s a k q z) := by
  have hb1 : Below w.heap.size w (w.alloc (.cells #[.pointer (some ⟨b.r, 0, none⟩)] 22)) := (Below.refl _ _).alloc (Nat.le_refl _) _
  have hb2 : Below w.heap.size w ((w.alloc (.cells #[.pointer (some ⟨b.r, 0, none⟩)] 22)).alloc (.cells #[.int .i64 k, .int .i64 0, .int .i64 1, .bool false] 111)) := hb1.alloc hb1.size _
  have HM := Lib.hid (made_c _ (h.below hb2) hm hn a ha k hk q hq hA h0 hroom z hz w.heap.size (w.heap.size + 1) (((Below.refl _ _).alloc (Nat.le_refl _) _).block w.heap.size (by simp) |>.trans (heap_alloc_new w _)) (by simpa using heap_alloc_new (w.alloc (.cells #[.pointer (some ⟨b.r, 0, none⟩)] 22)) (.cells #[.int .i64 k, .int .i64 0, .int .i64 1, .bool false] 111)))
  have HB2 := Lib.hid hb2
  clear h ha hm hA h0 hroom hz hb1 hb2
  go_enter Tryz.func45, Tryz.ntmps45
  go_wp2_with (go_at_call 55; refine HM.out.mono ?_; rintro e w2 ⟨g', rfl, hh, hkp⟩; have HH := Lib.hid hh; have HK := Lib.hid hkp; clear hh hkp)
  refine bodyPost_ret (v := .tuple #[.int .i64 z, .int .i64 0]) (by simp [results, Tryz.results45, go_sem]) rfl ⟨g', rfl, HH.out, (Keep.of_below HB2.out).trans HK.out⟩
set_option maxRecDepth 100000 in
set_option maxHeartbeats 4000000 in
theorem list1_c (g1 g2 : Nat) (o : Int) (h1 : w.heap[g1]? = some (.cells #[.pointer (some ⟨b.r, 0, none⟩)] 22 (0, 0))) (h2 : w.heap[g2]? = some (.cells #[.int .i64 k] 3 (0, 0))) : Calls Tryz.prog 46 #[.agg #[.int .i64 o, .int .i64 1, .int .i64 0, .int .i64 0], .pointer (some ⟨g1, 0, none⟩), .pointer (some ⟨g2, 0, none⟩)] w (MadeP w b s a k q z) := by
  have hb1 : Below w.heap.size w (w.alloc (.cells #[.int .i64 o, .int .i64 1, .int .i64 0, .int .i64 0] 34)) := (Below.refl _ _).alloc (Nat.le_refl _) _
  have HM := Lib.hid (object_c _ (h.below hb1) hm hn a ha k hk q hq hA h0 hroom z hz)
  have HB1 := Lib.hid hb1
  have c1 := cell_of_row _ _ 0 _ _ _ ((hb1.block _ (lt_of_block h1)).trans h1)
  have c2 := cell_of_row _ _ 0 _ _ _ ((hb1.block _ (lt_of_block h2)).trans h2)
  clear h ha hm hA h0 hroom hz hb1 h1 h2
  go_enter Tryz.func46, Tryz.ntmps46
  go_wp2_with (go_at_call 45; refine HM.out.mono ?_; rintro e w2 ⟨g', rfl, hh, hkp⟩; have HH := Lib.hid hh; have HK := Lib.hid hkp; clear hh hkp)
  refine bodyPost_ret (v := .tuple #[.int .i64 z, .int .i64 0]) (by simp [results, Tryz.results46, go_sem]) rfl ⟨g', rfl, HH.out, (Keep.of_below HB1.out).trans HK.out⟩
end
end Go.Proofs.YtibgbahaldojiaaGreat.Fns
namespace Go.Proofs.YtibgbahaldojiaaGreat.Fns
open Go Go.RowKit
theorem RefsP.two {w w' : World} {e : Ending} (h : RefsP 2 w e w') : ∃ s c, e = .returned (.slice (some ⟨s, 0, none⟩) 1 c) ∧ w'.cell? ⟨s, 0, none⟩ = some (.int .i64 0) ∧ Below w.heap.size w w' := by
  obtain ⟨hb, ⟨_, s, c, h1, h2⟩ | ⟨h3, _⟩⟩ := h
  · exact ⟨s, c, h1, h2, hb⟩
  · omega
theorem RefsP.three {w w' : World} {e : Ending} (h : RefsP 3 w e w') : e = .returned (.slice none 0 0) ∧ Below w.heap.size w w' := by
  obtain ⟨hb, ⟨h3, _⟩ | ⟨_, h1⟩⟩ := h
  · omega
  · exact ⟨h1, hb⟩
theorem contains_zero (w : World) (s c : Nat) (h : w.cell? ⟨s, 0, none⟩ = some (.int .i64 0)) : Calls Tryz.prog 91 #[.slice (some ⟨s, 0, none⟩) 1 c, .int .i64 0] w fun e w' => e = .returned (.bool true) ∧ w = w' :=
  (Tryz.slices_Contains_int s 0 1 c [0] 0 w (by simp) (by omega) (fun j hj => by
    have : j = 0 := by simpa using hj
    subst this; simpa using h)).mono fun _ _ q => ⟨by simpa using q.1, q.2.symm⟩
section
variable [Base] (w : World) {b : RtB} {s : RtS} (h : Rt w b s)
include h
set_option maxRecDepth 100000 in
set_option maxHeartbeats 2000000 in
theorem rheld_c (x : Int) (hx : x ≤ 9223372036854775807) (hf : fnd s.T s.A x = true) (z : Int) (hz : s.A (x % 512).toNat = z) (fl : Bool) :
    Calls Tryz.prog 47 #[.pointer (some ⟨b.r, 0, none⟩), .int .i64 x, .bool fl] w fun e w' => e = .returned (.tuple #[.int .i64 z, .int .i64 0]) ∧ w = w' := by
  have HC := Lib.hid (by obtain ⟨_, vw, vp, hp⟩ := h; exact held_yes w hp.hs x hx hf z hz : Calls Tryz.prog 90 #[.pointer (some ⟨b.hd, 0, none⟩), .int .i64 x] w fun e w' => e = .returned (.tuple #[.int .i64 z, .int .i64 0]) ∧ w = w')
  have d1 : (x == 0) = false := by
    simp [fnd] at hf
    simp; omega
  obtain ⟨r0, _, r1, _⟩ := h.cells
  clear h hf hz
  cases fl
  all_goals
    go_enter Tryz.func47, Tryz.ntmps47
    go_wp2_with (go_at_call 90; refine HC.out.mono ?_; rintro e w' ⟨rfl, rfl⟩)
    refine bodyPost_ret (v := .tuple #[.int .i64 z, .int .i64 0]) (by simp [results, Tryz.results47, go_sem]) rfl ⟨rfl, rfl⟩
set_option maxRecDepth 100000 in
set_option maxHeartbeats 2000000 in
theorem rfield_c (hm : s.m ≤ 32) (hn : 2 ≤ s.n) (i a : Nat) (hi : i < s.m) (ha : a = 64 + i * 2) (k : Int) (fin : Bool) (hk : k = 2 ∨ k = 3) (hf : s.f a = hw k 1 fin) (z : Int) (hz : s.f (a + 1) = z) :
    Calls Tryz.prog 48 #[.pointer (some ⟨b.r, 0, none⟩), .int .i64 (a : Int), .int .i64 0] w fun e w' => e = .returned (.tuple #[.int .i64 z, .bool (k == 2), .int .i64 0]) ∧ Below w.heap.size w w' := by
  have H1 := Lib.hid (fun w1 (hb : Below w.heap.size w w1) => by obtain ⟨_, vw, vp, hp⟩ := h.below hb; exact head_c w1 hp.heap hm hn i a hi ha k fin hk hf)
  have H2 := Lib.hid (fun w1 (hb : Below w.heap.size w w1) => by obtain ⟨_, vw, vp, hp⟩ := h.below hb; exact field_c w1 hp.heap hm hn i a hi ha k fin hk hf z hz)
  have H3 := Lib.hid (fun w1 (hb : Below w.heap.size w w1) => by obtain ⟨_, vw, vp, hp⟩ := h.below hb; exact refs_c w1 hp.heap hm hn i a hi ha k fin hk hf)
  have d4 : (k == 4) = false := by rcases hk with rfl | rfl <;> rfl
  have HH := Lib.hid h
  obtain ⟨r0, rf, _, _, _, q, hp, _⟩ := h.cells
  clear h hf hz ha
  unfold hd at H1
  rcases hk with rfl | rfl
  · go_enter Tryz.func48, Tryz.ntmps48
    go_wp2_with (first
      | (go_at_call 59; refine (H1.out _ (Below.refl _ _)).mono ?_; rintro e w1 ⟨rfl, hb⟩; have HB1 := Lib.hid (hb.alloc hb.size (.cells #[.int .i64 2, .int .i64 0, .int .i64 1, .bool fin] 111)); obtain ⟨r0, rf, _, _, _, q, hp, _⟩ := (HH.out.below HB1.out).cells; clear hb)
      | (go_at_call 60; refine (H2.out _ HB1.out).mono ?_; rintro e w2 ⟨rfl, hb⟩; have HB2 := Lib.hid (HB1.out.trans (hb.mono HB1.out.size)); obtain ⟨r0, rf, _, _, _, q, hp, _⟩ := (HH.out.below HB2.out).cells; clear hb)
      | (go_at_call 92; refine (H3.out _ HB2.out).mono ?_; intro e w3 hh; obtain ⟨s0, c0, rfl, hc, hb⟩ := hh.two; have HB3 := Lib.hid (HB2.out.trans (hb.mono HB2.out.size)); clear hh hb)
      | (go_at_call 91; refine (contains_zero _ s0 c0 hc).mono ?_; rintro e w' ⟨rfl, rfl⟩))
    refine bodyPost_ret (v := .tuple #[.int .i64 z, .bool true, .int .i64 0]) (by simp [results, Tryz.results48, go_sem]) rfl ⟨rfl, HB3.out⟩
  · go_enter Tryz.func48, Tryz.ntmps48
    go_wp2_with (first
      | (go_at_call 59; refine (H1.out _ (Below.refl _ _)).mono ?_; rintro e w1 ⟨rfl, hb⟩; have HB1 := Lib.hid (hb.alloc hb.size (.cells #[.int .i64 3, .int .i64 0, .int .i64 1, .bool fin] 111)); obtain ⟨r0, rf, _, _, _, q, hp, _⟩ := (HH.out.below HB1.out).cells; clear hb)
      | (go_at_call 60; refine (H2.out _ HB1.out).mono ?_; rintro e w2 ⟨rfl, hb⟩; have HB2 := Lib.hid (HB1.out.trans (hb.mono HB1.out.size)); obtain ⟨r0, rf, _, _, _, q, hp, _⟩ := (HH.out.below HB2.out).cells; clear hb)
      | (go_at_call 92; refine (H3.out _ HB2.out).mono ?_; intro e w3 hh; obtain ⟨rfl, hb⟩ := hh.three; have HB3 := Lib.hid (HB2.out.trans (hb.mono HB2.out.size)); clear hh hb)
      | (go_at_call 91; refine (contains_nil _ _).mono ?_; rintro e w' ⟨rfl, rfl⟩))
    refine bodyPost_ret (v := .tuple #[.int .i64 z, .bool false, .int .i64 0]) (by simp [results, Tryz.results48, go_sem]) rfl ⟨rfl, HB3.out⟩
end
end Go.Proofs.YtibgbahaldojiaaGreat.Fns
