/- Get, Set, Put, Drop, Final. -/
import Derived.Test.YtibgbahaldojiaaGreatRtf
namespace Go.Proofs.YtibgbahaldojiaaGreat.Fns
open Go Go.RowKit
/-- An operation. -/
def opv (o A B C : Int) : Value := .agg #[.int .i64 o, .int .i64 A, .int .i64 B, .int .i64 C]
def opo (o A B C : Int) : Obj := .cells #[.int .i64 o, .int .i64 A, .int .i64 B, .int .i64 C] 34
theorem opo_row (w : World) (o A B C : Int) : (w.alloc (opo o A B C)).heap[w.heap.size]? = some (.cells #[.int .i64 o, .int .i64 A, .int .i64 B, .int .i64 C] 34 (0, 0)) := heap_alloc_new _ _
theorem opo_below (w : World) (o A B C : Int) : Below w.heap.size w (w.alloc (opo o A B C)) := (Below.refl _ _).alloc (Nat.le_refl _) _
/-- What follows the making of the operation's box. -/
def boxed (w : World) (o A B C : Int) : World := w.alloc (.cells #[.int .i64 o, .int .i64 A, .int .i64 B, .int .i64 C] 34)
section
variable [Base] (w : World) {b : RtB} {s : RtS} (h : Rt w b s) (x : Int) (hx : x ≤ 9223372036854775807) (hx2 : fnd s.T s.A x = true)
include h hx hx2
section
variable (hm : s.m ≤ 32) (hn : 2 ≤ s.n) (i a : Nat) (hi : i < s.m) (ha : a = 64 + i * 2) (ha2 : s.A (x % 512).toNat = (a : Int)) (k : Int) (fin : Bool) (hf : s.f a = hw k 1 fin)
include hm hn hi ha ha2 hf
set_option maxRecDepth 100000 in
set_option maxHeartbeats 4000000 in
theorem rget_data (hk : k = 3) (z : Int) (hz : s.f (a + 1) = z) (o : Int) : Calls Tryz.prog 22 #[.pointer (some ⟨b.r, 0, none⟩), opv o x 0 0] w fun e w' => e = .returned (.tuple #[.int .i64 z, .int .i64 0]) ∧ Rt w' b s ∧ Keep w w' := by
  have hb1 := opo_below w o x 0 0
  have HC := Lib.hid (rheld_c _ (h.below hb1) x hx hx2 a ha2 false)
  have HF := Lib.hid (rfield_c _ (h.below hb1) hm hn i a hi ha k fin (.inr hk) hf z hz)
  have HB1 := Lib.hid hb1
  have HH := Lib.hid h
  subst hk
  clear h hx2 ha ha2 hf hz hb1
  unfold opv
  unfold opo at HC HF HB1
  go_enter Tryz.func22, Tryz.ntmps22
  go_wp2_with (first
    | (go_at_call 47; refine HC.out.mono ?_; rintro e w1 ⟨rfl, rfl⟩)
    | (go_at_call 48; refine HF.out.mono ?_; rintro e w2 ⟨rfl, hb⟩; have HB2 := Lib.hid (HB1.out.trans (hb.mono HB1.out.size)); clear hb))
  refine bodyPost_ret (v := .tuple #[.int .i64 z, .int .i64 0]) (by simp [results, Tryz.results22, go_sem]) rfl ⟨rfl, HH.out.below HB2.out, Keep.of_below HB2.out⟩
set_option maxRecDepth 100000 in
set_option maxHeartbeats 4000000 in
theorem rget_ref (hk : k = 2) (z : Int) (hz : s.f (a + 1) = z) (hz1 : 1 ≤ z) (q : Nat) (hq : q < 512) (hA : ∀ i, i < q → s.A i ≠ 0) (h0 : s.A q = 0) (hroom : (allL s.T s.A 512).length < 512) (y : Int) (hy : tell s.T q = y) (o : Int) : Calls Tryz.prog 22 #[.pointer (some ⟨b.r, 0, none⟩), opv o x 0 0] w fun e w' => e = .returned (.tuple #[.int .i64 y, .int .i64 0]) ∧ Rt w' b { s with A := put s.A q z } ∧ Keep w w' := by
  have hb1 := opo_below w o x 0 0
  have HC := Lib.hid (rheld_c _ (h.below hb1) x hx hx2 a ha2 false)
  have HF := Lib.hid (rfield_c _ (h.below hb1) hm hn i a hi ha k fin (.inl hk) hf z hz)
  have HG := Lib.hid (fun w2 (hb : Below w.heap.size w w2) => given_c w2 (h.below hb) z hz1 q hq hA h0 hroom y hy)
  have HB1 := Lib.hid hb1
  subst hk
  clear h hx2 ha ha2 hf hz hb1 hA h0 hroom hy
  unfold opv
  unfold opo at HC HF HB1
  go_enter Tryz.func22, Tryz.ntmps22
  go_wp2_with (first
    | (go_at_call 47; refine HC.out.mono ?_; rintro e w1 ⟨rfl, rfl⟩)
    | (go_at_call 48; refine HF.out.mono ?_; rintro e w2 ⟨rfl, hb⟩; have HB2 := Lib.hid (HB1.out.trans (hb.mono HB1.out.size)); clear hb)
    | (go_at_call 49; refine (HG.out _ HB2.out).mono ?_; rintro e w3 ⟨rfl, hh, hkp⟩; have HH3 := Lib.hid hh; have HK3 := Lib.hid hkp; clear hh hkp))
  refine bodyPost_ret (v := .tuple #[.int .i64 y, .int .i64 0]) (by simp [results, Tryz.results22, go_sem]) rfl ⟨rfl, HH3.out, (Keep.of_below HB2.out).trans HK3.out⟩
end
end
/-- A field is written. -/
theorem put_keep [Base] (w : World) {b : RtB} {s : RtS} (h : Rt w b s) (hm : s.m ≤ 32) (hn : 2 ≤ s.n) (i a : Nat) (hi : i < s.m) (ha : a = 64 + i * 2) (k : Int) (fin : Bool) (hk : k = 2 ∨ k = 3) (hf : s.f a = hw k 1 fin) (x : Int) :
    Calls Tryz.prog 50 #[.pointer (some ⟨b.hp.h, 0, none⟩), .int .i64 (a : Int), .int .i64 0, .int .i64 x] w fun e w' => e = .returned (.int .i64 0) ∧ Rt w' b { s with f := put s.f (a + 1) x } ∧ Keep w w' := by
  obtain ⟨hr, vw, vp, h⟩ := h
  refine (put_c _ h.heap hm hn i a hi ha k fin hk hf x).mono ?_
  rintro e w' ⟨rfl, hh, hfr⟩
  have := h.heapTurn (g' := b.hp.g) hh hfr (fun _ q _ => q)
  exact ⟨rfl, Rt.keep hr (h.keepHeap hfr) this ⟨rfl, rfl⟩, h.keepHeap hfr⟩
@[reducible] def PuS (b : RtB) (g : Nat) (o x y : Int) (w' : World) : Prop := RtC b w' ∧ w'.cell? ⟨g, 0, none⟩ = some (.int .i64 o) ∧ w'.cell? ⟨g, 1, none⟩ = some (.int .i64 x) ∧ w'.cell? ⟨g, 2, none⟩ = some (.int .i64 0) ∧ w'.cell? ⟨g, 3, none⟩ = some (.int .i64 y)
theorem PuS.of [Base] {w : World} {b : RtB} {s : RtS} {g : Nat} {o x y : Int} (h : Rt w b s) (h1 : w.heap[g]? = some (.cells #[.int .i64 o, .int .i64 x, .int .i64 0, .int .i64 y] 34 (0, 0))) : PuS b g o x y w :=
  ⟨h.cells, cell_of_row _ _ 0 _ _ _ h1, cell_of_row _ _ 1 _ _ _ h1, cell_of_row _ _ 2 _ _ _ h1, cell_of_row _ _ 3 _ _ _ h1⟩
section
variable [Base] (w : World) {b : RtB} {s : RtS} (h : Rt w b s) (x : Int) (hx : x ≤ 9223372036854775807) (hx2 : fnd s.T s.A x = true)
include h hx hx2
section
variable (hm : s.m ≤ 32) (hn : 2 ≤ s.n) (i a : Nat) (hi : i < s.m) (ha : a = 64 + i * 2) (ha2 : s.A (x % 512).toNat = (a : Int)) (k : Int) (fin : Bool) (hf : s.f a = hw k 1 fin)
include hm hn hi ha ha2 hf
set_option maxRecDepth 100000 in
set_option maxHeartbeats 4000000 in
theorem rput_c (hk : k = 3) (y : Int) (o : Int) : Calls Tryz.prog 24 #[.pointer (some ⟨b.r, 0, none⟩), opv o x 0 y] w fun e w' => e = .returned (.tuple #[.int .i64 0, .int .i64 0]) ∧ Rt w' b { s with f := put s.f (a + 1) y } ∧ Keep w w' := by
  have hb1 := opo_below w o x 0 y
  have HC := Lib.hid (rheld_c _ (h.below hb1) x hx hx2 a ha2 false)
  have HF := Lib.hid (rfield_c _ (h.below hb1) hm hn i a hi ha k fin (.inr hk) hf _ rfl)
  have HP := Lib.hid (fun w2 (hb : Below w.heap.size w w2) => put_keep w2 (h.below hb) hm hn i a hi ha k fin (.inr hk) hf y)
  have HB1 := Lib.hid hb1
  have HH := Lib.hid h
  have R := Lib.hid (opo_row w o x 0 y)
  subst hk
  clear h hx2 ha ha2 hf hb1
  unfold opv
  unfold opo at HC HF HB1 R
  go_enter Tryz.func24, Tryz.ntmps24
  go_wp2_with (first
    | (go_at_call 47; refine HC.out.mono ?_; rintro e w1 ⟨rfl, rfl⟩)
    | (go_at_call 48; refine HF.out.mono ?_; rintro e w2 ⟨rfl, hb⟩; have HB2 := Lib.hid (HB1.out.trans (hb.mono HB1.out.size)); have R2 := Lib.hid ((hb.block _ (lt_of_block R.out)).trans R.out); clear hb))
  have HS := Lib.hid (PuS.of (HH.out.below (below_drew HB2.out)) (show w2.drew.heap[w.heap.size]? = _ from R2.out))
  go_region_held3 (fun w' => RtC b w' ∧ w'.cell? ⟨w.heap.size, 0, none⟩ = some (.int .i64 o) ∧ w'.cell? ⟨w.heap.size, 1, none⟩ = some (.int .i64 x) ∧ w'.cell? ⟨w.heap.size, 2, none⟩ = some (.int .i64 0) ∧ w'.cell? ⟨w.heap.size, 3, none⟩ = some (.int .i64 y))
    (first | (with_reducible exact hS) | (with_reducible exact HS.out))
    ((go_at_call 50; refine (HP.out _ (below_drew HB2.out)).mono ?_; rintro e w3 ⟨rfl, hh, hkp⟩; have HH3 := Lib.hid hh; have HK3 := Lib.hid hkp; have hS : PuS b w.heap.size o x y w3 := PuS.of hh (hkp.2 _ _ _ (by rfl) (show w2.drew.heap[w.heap.size]? = _ from R2.out)); clear hh hkp))
  go_wp2
  refine bodyPost_ret (v := .tuple #[.int .i64 0, .int .i64 0]) (by simp [results, Tryz.results24, go_sem]) rfl ⟨rfl, HH3.out, (Keep.of_below (below_drew HB2.out)).trans HK3.out⟩
set_option maxRecDepth 100000 in
set_option maxHeartbeats 4000000 in
theorem rset_c (hk : k = 2) (y : Int) (hy : y ≤ 9223372036854775807) (hy2 : fnd s.T s.A y = true) (c : Int) (hc : s.A (y % 512).toNat = c) (o : Int) : Calls Tryz.prog 23 #[.pointer (some ⟨b.r, 0, none⟩), opv o x 0 y] w fun e w' => e = .returned (.tuple #[.int .i64 0, .int .i64 0]) ∧ Rt w' b { s with f := put s.f (a + 1) c } ∧ Keep w w' := by
  have hb1 := opo_below w o x 0 y
  have HC := Lib.hid (rheld_c _ (h.below hb1) x hx hx2 a ha2 false)
  have HC2 := Lib.hid (rheld_c _ (h.below hb1) y hy hy2 c hc true)
  have HF := Lib.hid (rfield_c _ (h.below hb1) hm hn i a hi ha k fin (.inl hk) hf _ rfl)
  have HP := Lib.hid (fun w2 (hb : Below w.heap.size w w2) => put_keep w2 (h.below hb) hm hn i a hi ha k fin (.inl hk) hf c)
  have HB1 := Lib.hid hb1
  have HH := Lib.hid h
  have R := Lib.hid (opo_row w o x 0 y)
  subst hk
  clear h hx2 ha ha2 hf hb1 hy2 hc
  unfold opv
  unfold opo at HC HC2 HF HB1 R
  go_enter Tryz.func23, Tryz.ntmps23
  go_wp2_with (first
    | (go_at_call 47; first | ((with_reducible refine HC.out.mono ?_); rintro e w1 ⟨rfl, rfl⟩) | ((with_reducible refine HC2.out.mono ?_); rintro e w1 ⟨rfl, rfl⟩))
    | (go_at_call 48; refine HF.out.mono ?_; rintro e w2 ⟨rfl, hb⟩; have HB2 := Lib.hid (HB1.out.trans (hb.mono HB1.out.size)); have R2 := Lib.hid ((hb.block _ (lt_of_block R.out)).trans R.out); clear hb))
  have HS := Lib.hid (PuS.of (HH.out.below (below_drew HB2.out)) (show w2.drew.heap[w.heap.size]? = _ from R2.out))
  go_region_held3 (fun w' => RtC b w' ∧ w'.cell? ⟨w.heap.size, 0, none⟩ = some (.int .i64 o) ∧ w'.cell? ⟨w.heap.size, 1, none⟩ = some (.int .i64 x) ∧ w'.cell? ⟨w.heap.size, 2, none⟩ = some (.int .i64 0) ∧ w'.cell? ⟨w.heap.size, 3, none⟩ = some (.int .i64 y))
    (first | (with_reducible exact hS) | (with_reducible exact HS.out))
    ((go_at_call 50; refine (HP.out _ (below_drew HB2.out)).mono ?_; rintro e w3 ⟨rfl, hh, hkp⟩; have HH3 := Lib.hid hh; have HK3 := Lib.hid hkp; have hS : PuS b w.heap.size o x y w3 := PuS.of hh (hkp.2 _ _ _ (by rfl) (show w2.drew.heap[w.heap.size]? = _ from R2.out)); clear hh hkp))
  go_wp2
  refine bodyPost_ret (v := .tuple #[.int .i64 0, .int .i64 0]) (by simp [results, Tryz.results23, go_sem]) rfl ⟨rfl, HH3.out, (Keep.of_below (below_drew HB2.out)).trans HK3.out⟩
set_option maxRecDepth 100000 in
set_option maxHeartbeats 4000000 in
theorem rfinal_have (hk : k = 2 ∨ k = 3) (hfin : fin = true) (o : Int) : Calls Tryz.prog 34 #[.pointer (some ⟨b.r, 0, none⟩), opv o x 0 0] w fun e w' => e = .returned (.tuple #[.int .i64 0, .int .i64 4]) ∧ Rt w' b s ∧ Keep w w' := by
  have hb1 := opo_below w o x 0 0
  have HC := Lib.hid (rheld_c _ (h.below hb1) x hx hx2 a ha2 false)
  have HF := Lib.hid (by obtain ⟨_, vw, vp, hp⟩ := h.below hb1; exact await_have _ hp.fin hp.heap hm hn i a hi ha k fin hk hf hfin)
  have HB1 := Lib.hid hb1
  have HH := Lib.hid h
  obtain ⟨r0, _, _, _, r3, _⟩ := (h.below hb1).cells
  clear h hx2 ha ha2 hf hb1
  unfold opv
  unfold opo at HC HF HB1 r0 r3
  go_enter Tryz.func34, Tryz.ntmps34
  go_wp2_with (first
    | (go_at_call 47; refine HC.out.mono ?_; rintro e w1 ⟨rfl, rfl⟩)
    | (go_at_call 68; refine HF.out.mono ?_; rintro e w2 ⟨rfl, hb⟩; have HB2 := Lib.hid (HB1.out.trans (hb.mono HB1.out.size)); clear hb))
  refine bodyPost_ret (v := .tuple #[.int .i64 0, .int .i64 4]) (by simp [results, Tryz.results34, go_sem]) rfl ⟨rfl, HH.out.below HB2.out, Keep.of_below HB2.out⟩
set_option maxRecDepth 100000 in
set_option maxHeartbeats 4000000 in
theorem rfinal_ok (hk : k = 2 ∨ k = 3) (hfin : fin = false) (hl : s.W.length ≤ 1000000) (o : Int) : Calls Tryz.prog 34 #[.pointer (some ⟨b.r, 0, none⟩), opv o x 0 0] w fun e w' => e = .returned (.tuple #[.int .i64 0, .int .i64 0]) ∧ Rt w' b { s with f := put s.f a (hw k 1 true), W := s.W ++ [(a : Int)] } ∧ Keep w w' := by
  have hb1 := opo_below w o x 0 0
  have HC := Lib.hid (rheld_c _ (h.below hb1) x hx hx2 a ha2 false)
  have HF := Lib.hid (show Calls Tryz.prog 68 #[.pointer (some ⟨b.fi, 0, none⟩), .int .i64 (a : Int)] (w.alloc (opo o x 0 0)) fun e w' => e = .returned (.int .i64 0) ∧ Rt w' b { s with f := put s.f a (hw k 1 true), W := s.W ++ [(a : Int)] } ∧ Keep (w.alloc (opo o x 0 0)) w' by
    obtain ⟨hr, vw, vp, hp⟩ := h.below hb1
    refine (await_ok _ hp.fin hp.heap hp.sep hm hn i a hi ha k fin hk hf hfin hl).mono ?_
    rintro e w' ⟨rfl, w1, hh, hfr, vw1, vp1, ht⟩
    have h1 := hp.heapTurn (g' := b.hp.g) hh hfr (fun _ q _ => q)
    have K := (hp.keepHeap hfr).trans (h1.keepFin ht.2.1)
    exact ⟨rfl, Rt.keep hr K (h1.finTurn ht) ⟨rfl, rfl⟩, K⟩)
  have HB1 := Lib.hid hb1
  obtain ⟨r0, _, _, _, r3, _⟩ := (h.below hb1).cells
  clear h hx2 ha ha2 hf hb1
  unfold opv
  unfold opo at HC HF HB1 r0 r3
  go_enter Tryz.func34, Tryz.ntmps34
  go_wp2_with (first
    | (go_at_call 47; refine HC.out.mono ?_; rintro e w1 ⟨rfl, rfl⟩)
    | (go_at_call 68; refine HF.out.mono ?_; rintro e w2 ⟨rfl, hh, hkp⟩; have HH := Lib.hid hh; have HK := Lib.hid hkp; clear hh hkp))
  refine bodyPost_ret (v := .tuple #[.int .i64 0, .int .i64 0]) (by simp [results, Tryz.results34, go_sem]) rfl ⟨rfl, HH.out, (Keep.of_below HB1.out).trans HK.out⟩
end
set_option maxRecDepth 100000 in
set_option maxHeartbeats 4000000 in
theorem rdrop_c (i : Nat) (hi : x % 512 = (i : Int)) (ht : s.T i < 1000000) (o : Int) : Calls Tryz.prog 25 #[.pointer (some ⟨b.r, 0, none⟩), opv o x 0 0] w fun e w' => e = .returned (.tuple #[.int .i64 0, .int .i64 0]) ∧ Rt w' b { s with T := put s.T i (s.T i + 1), A := put s.A i 0 } ∧ Keep w w' := by
  have hb1 := opo_below w o x 0 0
  have hb2 := below_drew hb1
  have HF := Lib.hid (show Calls Tryz.prog 51 #[.pointer (some ⟨b.hd, 0, none⟩), .int .i64 x] (w.alloc (opo o x 0 0)).drew fun e w' => e = .returned (.int .i64 0) ∧ Rt w' b { s with T := put s.T i (s.T i + 1), A := put s.A i 0 } ∧ Keep (w.alloc (opo o x 0 0)).drew w' by
    obtain ⟨hr, vw, vp, hp⟩ := h.below hb2
    refine (drop_yes _ hp.hs x hx hx2 i hi ht).mono ?_
    rintro e w' ⟨rfl, hh, hfr⟩
    have K := hp.keepHd hfr
    exact ⟨rfl, Rt.keep hr K (hp.hdTurn hh hfr) ⟨rfl, rfl⟩, K⟩)
  have HB2 := Lib.hid hb2
  have R := Lib.hid (show (w.alloc (opo o x 0 0)).drew.heap[w.heap.size]? = _ from opo_row w o x 0 0)
  have HS := Lib.hid (PuS.of (h.below hb2) R.out)
  clear h hx2 hb1 hb2
  unfold opv
  unfold opo at HF HB2 R HS
  go_enter Tryz.func25, Tryz.ntmps25
  go_wp2_with fail
  go_region_held3 (fun w' => RtC b w' ∧ w'.cell? ⟨w.heap.size, 0, none⟩ = some (.int .i64 o) ∧ w'.cell? ⟨w.heap.size, 1, none⟩ = some (.int .i64 x) ∧ w'.cell? ⟨w.heap.size, 2, none⟩ = some (.int .i64 0) ∧ w'.cell? ⟨w.heap.size, 3, none⟩ = some (.int .i64 0))
    (first | (with_reducible exact hS) | (with_reducible exact HS.out))
    ((go_at_call 51; refine HF.out.mono ?_; rintro e w3 ⟨rfl, hh, hkp⟩; have HH3 := Lib.hid hh; have HK3 := Lib.hid hkp; have hS : PuS b w.heap.size o x 0 w3 := PuS.of hh (hkp.2 _ _ _ (by rfl) R.out); clear hh hkp))
  go_wp2
  refine bodyPost_ret (v := .tuple #[.int .i64 0, .int .i64 0]) (by simp [results, Tryz.results25, go_sem]) rfl ⟨rfl, HH3.out, (Keep.of_below HB2.out).trans HK3.out⟩
end
end Go.Proofs.YtibgbahaldojiaaGreat.Fns
