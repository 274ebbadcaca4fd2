/- A collection, once what it comes to and what goes are known. -/
import Derived.Test.YtibgbahaldojiaaGreatSweep
import Derived.Deep.DeepCutAuto
namespace Go.Proofs.YtibgbahaldojiaaGreat.Fns
open Go Go.RowKit
theorem clear0_c (w : World) (r c : Nat) : Calls Tryz.prog 63 #[.pointer (some ⟨r, 0, none⟩), .slice none 0 c] w fun e w' => e = .returned (.int .i64 0) ∧ w = w' := by
  go_enter Tryz.func63, Tryz.ntmps63
  go_wp2
  go_loopw [15] (fun iv wr => iv = .int .i64 0 ∧ wr = w) (fun _ _ => 0)
  case atStart => exact ⟨rfl, rfl⟩
  case round =>
    obtain ⟨rfl, rfl⟩ := hrel
    go_wp2
    go_loopw [31] (fun iv wx => iv = .int .i64 0 ∧ wx = wr) (fun _ _ => 0)
    case atStart => exact ⟨rfl, rfl⟩
    case round =>
      obtain ⟨rfl, rfl⟩ := hrel
      go_wp2
      go_ret
      exact ⟨rfl, rfl⟩
/-- A block of another kind may turn. -/
theorem Pts.side [Base] {w w' : World} {b : RtB} {s : RtS} {vw vp : Value} {k : Nat} {cs : Array Value} (h : Pts w b s vw vp) (hk : w.heap[k]? = some (.cells cs 134 (0, 0))) (hf : Frame w w' (fun j => j = k)) : Pts w' b s vw vp := by
  obtain ⟨c2, hc, _⟩ := h.hs.block
  refine h.frame hf ⟨heap_ne h.pbox hk (cells_ne (by decide)), heap_ne h.rfbox hk (cells_ne (by decide)), heap_ne h.qbox hk (cells_ne (by decide)), heap_ne hc hk (cells_ne (by decide)), heap_ne h.rts hk (cells_ne (by decide))⟩ (fun j hj e => ?_) (fun j hj e => ?_)
  · subst e; exact h.fin.apart hk (by rfl) hj
  · subst e
    rcases hj with hj | hj | hj
    · exact heap_ne hk h.heap.box (cells_ne (by decide)) hj
    · exact heap_ne hk h.heap.tab (cells_ne (by decide)) hj
    · exact h.heap.sm.apart hk (by rfl) hj
/-- The kinds of blocks that are never the runtime's own, once made. -/
def keepTy (t : TypeId) : Bool := [31, 34, 54, 22, 111, 41, 27, 134].contains t
/-- What is not the parts' own stays as it was. -/
structure Keep [Base] (w w' : World) : Prop where
  size : w.heap.size ≤ w'.heap.size
  kept : ∀ (k : Nat) (cs : Array Value) (t : TypeId), keepTy t = true → w.heap[k]? = some (Obj.cells cs t (0, 0)) → w'.heap[k]? = some (Obj.cells cs t (0, 0))
  old : Base.B ≤ w.heap.size → Below Base.B w w'
theorem Keep.refl [Base] (w : World) : Keep w w := ⟨Nat.le_refl _, fun _ _ _ _ h => h, fun _ => Below.refl _ _⟩
theorem Keep.trans [Base] {a b c : World} (h : Keep a b) (g : Keep b c) : Keep a c := ⟨Nat.le_trans h.1 g.1, fun k cs t ht hk => g.2 k cs t ht (h.2 k cs t ht hk), fun hB => (h.3 hB).trans (g.3 (Nat.le_trans hB h.1))⟩
theorem Keep.of_below [Base] {w w' : World} (h : Below w.heap.size w w') : Keep w w' := ⟨h.size, fun k _ _ _ hk => (h.block k (lt_of_block hk)).trans hk, fun hB => h.mono hB⟩
theorem Keep.undrew [Base] {w w' : World} (h : Keep w.drew w') : Keep w w' := ⟨h.1, h.2, fun hB => ⟨(h.3 hB).os, (h.3 hB).tape, (h.3 hB).output, (h.3 hB).size, (h.3 hB).block⟩⟩
theorem Keep.drew [Base] {w w' : World} (h : Keep w w') : Keep w w'.drew := ⟨h.1, h.2, fun hB => ⟨(h.3 hB).os, (h.3 hB).tape, (h.3 hB).output, (h.3 hB).size, (h.3 hB).block⟩⟩
theorem keepTy_cases {t : TypeId} (h : keepTy t = true) {p : TypeId → Prop} (h1 : p 31) (h2 : p 34) (h3 : p 54) (h4 : p 22) (h5 : p 111) (h6 : p 41) (h7 : p 27) (h8 : p 134) : p t := by
  simp [keepTy] at h
  rcases h with h | h | h | h | h | h | h | h <;> subst h <;> assumption
theorem Keep.of_frame [Base] {w w' : World} {F : Nat → Prop} (h : Frame w w' F) (hF : ∀ (k : Nat) (cs : Array Value) (t : TypeId), keepTy t = true → w.heap[k]? = some (Obj.cells cs t (0, 0)) → ¬ F k) (hO : ∀ k, F k → Base.B ≤ k) : Keep w w' :=
  ⟨h.size, fun k cs t ht hk => h.heap hk (hF k cs t ht hk), fun hB => h.below hB (fun k _ e => hO k e)⟩
theorem Pts.keepHeap [Base] {w w' : World} {b : RtB} {s : RtS} {vw vp : Value} (h : Pts w b s vw vp) (hf : Frame w w' (SFoot b.hp.sp b.hp.g s.m)) : Keep w w' :=
  Keep.of_frame hf (fun _ cs t ht hk => h.heap.sm.apart hk (keepTy_cases (p := fun t => spTy (.cells cs t (0, 0)) = false) ht (by rfl) (by rfl) (by rfl) (by rfl) (by rfl) (by rfl) (by rfl) (by rfl))) (fun k e => h.far.2.2.1 k (.inr (.inr e)))
theorem Pts.keepFin [Base] {w w' : World} {b : RtB} {s : RtS} {vw vp : Value} (h : Pts w b s vw vp) (hf : Frame w w' (FiFoot b.fi vw vp)) : Keep w w' :=
  Keep.of_frame hf (fun _ cs t ht hk => h.fin.apart hk (keepTy_cases (p := fun t => fiTy (.cells cs t (0, 0)) = false) ht (by rfl) (by rfl) (by rfl) (by rfl) (by rfl) (by rfl) (by rfl) (by rfl))) h.far.2.2.2
theorem Pts.keepHd [Base] {w w' : World} {b : RtB} {s : RtS} {vw vp : Value} (h : Pts w b s vw vp) (hf : Frame w w' (fun k => k = b.hd)) : Keep w w' := by
  obtain ⟨c2, hc, _⟩ := h.hs.block
  exact Keep.of_frame hf (fun k cs t ht hk e => by subst e; exact heap_ne hk hc (keepTy_cases (p := fun t => Obj.cells cs t (0, 0) ≠ Obj.cells c2 100 (0, 0)) ht (cells_ne (by decide)) (cells_ne (by decide)) (cells_ne (by decide)) (cells_ne (by decide)) (cells_ne (by decide)) (cells_ne (by decide)) (cells_ne (by decide)) (cells_ne (by decide))) rfl) (fun k e => e ▸ h.far.2.1)
theorem Keep.side [Base] {w w1 w2 : World} {k : Nat} (K : Keep w w1) (hf : Frame w1 w2 (fun j => j = k)) (hk : w.heap.size ≤ k) : Keep w w2 :=
  ⟨Nat.le_trans K.1 hf.size, fun j cs t ht hj => hf.heap (K.2 j cs t ht hj) (fun e => absurd (lt_of_block hj) (by omega)), fun hB => (K.3 hB).trans (hf.below (Nat.le_trans hB K.1) (fun j _ e => e ▸ Nat.le_trans hB hk))⟩
theorem Pts.keepRuns [Base] {w : World} {b : RtB} {s : RtS} {vw vp : Value} (h : Pts w b s vw vp) (v : Value) : Keep w (w.setCell ⟨b.p, 9, none⟩ v) :=
  Keep.of_frame (frame_set (w := w) (b := b.p) 9 v) (fun k cs t ht hk e => by subst e; exact heap_ne hk h.pbox (keepTy_cases (p := fun t => ∀ c2, Obj.cells cs t (0, 0) ≠ Obj.cells c2 72 (0, 0)) ht (fun _ => cells_ne (by decide)) (fun _ => cells_ne (by decide)) (fun _ => cells_ne (by decide)) (fun _ => cells_ne (by decide)) (fun _ => cells_ne (by decide)) (fun _ => cells_ne (by decide)) (fun _ => cells_ne (by decide)) (fun _ => cells_ne (by decide)) _) rfl) (fun k e => e ▸ h.far.1)
def keepC (b : RtB) (h : Nat) (w' : World) : Prop := w'.cell? ⟨b.p, 4, none⟩ = some (.pointer (some ⟨h, 0, none⟩))
theorem keepC.on {b : RtB} {h : Nat} {w2 w3 : World} (k : keepC b h w2) (hb : Below w2.heap.size w2 w3) : keepC b h w3 := (hb.cell (World.block_lt_of_cell? _ _ k)).trans k
theorem keepC.al {b : RtB} {h : Nat} {w2 : World} (k : keepC b h w2) (o : Obj) : keepC b h (w2.alloc o) := k.on ((Below.refl _ _).alloc (Nat.le_refl _) _)
theorem cell_al {w2 : World} {a : Addr} {v : Value} (k : w2.cell? a = some v) (o : Obj) : (w2.alloc o).cell? a = some v := (((Below.refl _ _).alloc (Nat.le_refl _) o).cell (World.block_lt_of_cell? _ _ k)).trans k
theorem cell_st4 {w2 : World} {p t : Nat} {v : Value} (k : w2.cell? ⟨p, 4, none⟩ = some v) (hne : p < t) (a0 a1 a2 a3 : Value) : ((((w2.setCell ⟨t, 0, none⟩ a0).setCell ⟨t, 1, none⟩ a1).setCell ⟨t, 2, none⟩ a2).setCell ⟨t, 3, none⟩ a3).cell? ⟨p, 4, none⟩ = some v :=
  (Below.cell (B := t) (((((Below.refl t w2).setCell (p := ⟨t, 0, none⟩) (Nat.le_refl _) a0).setCell (p := ⟨t, 1, none⟩) (Nat.le_refl _) a1).setCell (p := ⟨t, 2, none⟩) (Nat.le_refl _) a2).setCell (p := ⟨t, 3, none⟩) (Nat.le_refl _) a3) hne).trans k
theorem cell_st4' {w2 : World} {p : Nat} {v : Value} (k : w2.cell? ⟨p, 4, none⟩ = some v) (o : Obj) (a0 a1 a2 a3 : Value) : (((((w2.alloc o).setCell ⟨w2.heap.size, 0, none⟩ a0).setCell ⟨w2.heap.size, 1, none⟩ a1).setCell ⟨w2.heap.size, 2, none⟩ a2).setCell ⟨w2.heap.size, 3, none⟩ a3).cell? ⟨p, 4, none⟩ = some v :=
  cell_st4 (cell_al k o) (World.block_lt_of_cell? _ _ k) a0 a1 a2 a3
theorem frame4 (w1 : World) (k : Nat) (u0 u1 u2 u3 : Value) : Frame w1 ((((w1.setCell ⟨k, 0, none⟩ u0).setCell ⟨k, 1, none⟩ u1).setCell ⟨k, 2, none⟩ u2).setCell ⟨k, 3, none⟩ u3) (fun j => j = k) :=
  (((((Frame.refl w1 (fun j => j = k)).setCell (p := ⟨k, 0, none⟩) (fun _ => rfl) u0).setCell (p := ⟨k, 1, none⟩) (fun _ => rfl) u1).setCell (p := ⟨k, 2, none⟩) (fun _ => rfl) u2).setCell (p := ⟨k, 3, none⟩) (fun _ => rfl) u3)
theorem colEnd {w1 w2 : World} {B0 t6 : Nat} {A A3 : Option Addr} {c2 c3 : Nat} {ys ls : List Int} (hr : w2.heap[t6]? = some (Obj.cells #[.slice none 0 0, .slice none 0 0, .slice none 0 0, .slice none 0 0] 134 (0, 0))) (hb : Below w1.heap.size w1 w2) (h6 : B0 < t6) (h7 : w1.heap.size ≤ t6) {Bo Bp : Nat} (hBo : B0 ≤ Bo) (hBp : B0 ≤ Bp)
    (ho1 : w2.ownsRow Bo 3 1 (.slice A ys.length c2) ys.length (ys.map (Value.int .i64))) (ho2 : w2.ownsRow Bp 3 1 (.slice A3 ls.length c3) ls.length (ls.map (Value.int .i64))) (wx : World) (he : wx = (((w2.setCell ⟨t6, 0, none⟩ (.slice none 0 0)).setCell ⟨t6, 1, none⟩ (.slice none 0 0)).setCell ⟨t6, 2, none⟩ (.slice A ys.length c2)).setCell ⟨t6, 3, none⟩ (.slice A3 ls.length c3)) :
    wx.heap[t6]? = some (Obj.cells #[.slice none 0 0, .slice none 0 0, .slice A ys.length c2, .slice A3 ls.length c3] 134 (0, 0)) ∧ Below w1.heap.size w1 wx ∧ B0 < t6 ∧ wx.ownsRow B0 3 1 (.slice A ys.length c2) ys.length (ys.map (Value.int .i64)) ∧ wx.ownsRow B0 3 1 (.slice A3 ls.length c3) ls.length (ls.map (Value.int .i64)) := by
  subst he
  have hf : Frame w2 ((((w2.setCell ⟨t6, 0, none⟩ (.slice none 0 0)).setCell ⟨t6, 1, none⟩ (.slice none 0 0)).setCell ⟨t6, 2, none⟩ (.slice A ys.length c2)).setCell ⟨t6, 3, none⟩ (.slice A3 ls.length c3)) (fun j => j = t6) := frame4 _ _ _ _ _ _
  refine ⟨fin4 _ _ _ _ _ _ _ _ _ _ _ hr, hb.trans (hf.below hb.size (fun k _ e => e ▸ h7)), h6, hf.owns (ownsRow_base_a ho1 hBo) (fun k hk e => own_ne ho1 hr (by decide) (e ▸ hk)), hf.owns (ownsRow_base_a ho2 hBp) (fun k hk e => own_ne ho2 hr (by decide) (e ▸ hk))⟩
theorem colPend [Base] {wd w2 : World} {b : RtB} {s : RtS} {vw vp vw1 vp1 : Value} {W' P' : List Int} {t4 t6 B0 : Nat} {c4 c6 : Array Value} {A3 : Option Addr} {c3 : Nat} {ls : List Int} (h : Pts wd b s vw vp) (ht : FiTo b.fi b.hp.h vw vp vw1 vp1 W' P' wd w2) (hft : ∀ k, FiFoot b.fi vw vp k → k < B0) (r4 : wd.heap[t4]? = some (.cells c4 134 (0, 0))) (r6 : wd.heap[t6]? = some (.cells c6 134 (0, 0))) (ho : wd.ownsRow B0 3 1 (.slice A3 ls.length c3) ls.length (ls.map (Value.int .i64))) :
    Pts w2 b { s with W := W', P := P' } vw1 vp1 ∧ w2.heap[t4]? = some (.cells c4 134 (0, 0)) ∧ w2.heap[t6]? = some (.cells c6 134 (0, 0)) ∧ Ints w2 w2.heap.size A3 ls.length ls := by
  refine ⟨h.finTurn ht, ht.2.1.heap r4 (h.fin.apart r4 (by rfl)), ht.2.1.heap r6 (h.fin.apart r6 (by rfl)), ints_own (ht.2.1.owns ho (fun k hk e => ?_))⟩
  have := hft k e
  have := (ho.lt k hk).1
  omega
set_option maxRecDepth 100000 in
set_option maxHeartbeats 8000000 in
theorem collect_c [Base] (w : World) {b b2 : RtB} {s s2 : RtS} {vw vp : Value} (h : Pts w b s vw vp) (all : Bool) (L R ys ls : List Int) (hL : (allL s.T s.A 512).map Prod.snd = L) (hR : (Lib.compact (([L, List.replicate 16 0, [], s.P] : List (List Int)).flatten.mergeSort le64)).filter pos = R) (hm : s.m ≤ 32) (hn : 2 ≤ s.n) (hW : s.W.length ≤ 1000) (hP : s.P.length ≤ 1000) (hys : ys.length ≤ 1000) (hb2 : b2.p = b.p ∧ b2.hp.h = b.hp.h) (hruns : 0 ≤ s2.runs ∧ s2.runs ≤ 1000000)
    (hproc : ∀ (w1 : World) (AR : Option Addr) (cR : Nat) (AF : Option Addr) (cF : Nat) (free : Int), Pts w1 b s vw vp → w1.ownsRow w.heap.size 3 1 (.slice AR R.length cR) R.length (R.map (Value.int .i64)) → w1.ownsRow w.heap.size 3 1 (.slice AF s.W.length cF) s.W.length (s.W.map (Value.int .i64)) →
      Calls Tryz.prog 113 #[.pointer (some ⟨b.hp.h, 0, none⟩), .agg #[.slice AR R.length cR, .slice AF s.W.length cF, .int .i64 0, .int .i64 free, .int .i64 s.rate, .bool all, .int .i64 s.stk]] w1 fun e w' => ∃ A c2 A3 c3, e = .returned (.tuple #[.agg #[.slice none 0 0, .slice none 0 0, .slice A ys.length c2, .slice A3 ls.length c3], .int .i64 0]) ∧ Below w1.heap.size w1 w' ∧
        w'.ownsRow w1.heap.size 3 1 (.slice A ys.length c2) ys.length (ys.map (Value.int .i64)) ∧ w'.ownsRow w1.heap.size 3 1 (.slice A3 ls.length c3) ls.length (ls.map (Value.int .i64)))
    (hsweep : ∀ (w1 : World) (A : Option Addr) (c : Nat) (vw1 vp1 : Value), Pts w1 b { s with W := (pendL s.W s.P ys).1, P := (pendL s.W s.P ys).2 } vw1 vp1 → Ints w1 w1.heap.size A ls.length ls → Calls Tryz.prog 116 #[.pointer (some ⟨b.hp.h, 0, none⟩), .slice A ls.length c] w1 fun e w' => ∃ k : Int, e = .returned (.int .i64 k) ∧ Pts w' b2 s2 vw1 vp1 ∧ Keep w1 w') :
    Calls Tryz.prog 72 #[.pointer (some ⟨b.p, 0, none⟩), .bool all] w fun e w' => ∃ a0 a1 a2 a3 a4 a5, e = .returned (.tuple #[.agg #[.slice none 0 0, .slice none 0 0, .slice a0 a1 a2, .slice a3 a4 a5], .int .i64 0]) ∧ (∃ vw1 vp1, Pts w' b2 { s2 with runs := s2.runs + 1 } vw1 vp1) ∧ Keep w w' := by
  have hb0 : Below w.heap.size w (w.alloc (.cells #[.slice none 0 0, .slice none 0 0, .slice none 0 0, .slice none 0 0] 134)) := (Below.refl _ _).alloc (Nat.le_refl _) _
  have H := Lib.hid (h.below hb0)
  have R4 := Lib.hid (heap_alloc_new w (.cells #[.slice none 0 0, .slice none 0 0, .slice none 0 0, .slice none 0 0] 134))
  have HB0 := Lib.hid hb0
  have HI := Lib.hid (fun W (hb : Below (w.alloc (.cells #[.slice none 0 0, .slice none 0 0, .slice none 0 0, .slice none 0 0] 134)).heap.size (w.alloc (.cells #[.slice none 0 0, .slice none 0 0, .slice none 0 0, .slice none 0 0] 134)) W) => partsIn_c W ((h.below hb0).below hb) all R L hL hR hm hn hW hP _ rfl)
  have k4 := cell_of_row _ _ 4 _ _ _ (h.below hb0).pbox
  have HPR := Lib.hid hproc
  have HSW := Lib.hid hsweep
  have HBP := Lib.hid (show b.p < w.heap.size from lt_of_block h.pbox)
  have HFT := Lib.hid (fun k (e : FiFoot b.fi vw vp k) => h.fin.foot_lt e)
  have HC := Lib.hid (And.intro hW (And.intro hP hys))
  have HB2 := Lib.hid hb2
  have HA1 := Lib.hid (show Below (w.alloc (.cells #[.slice none 0 0, .slice none 0 0, .slice none 0 0, .slice none 0 0] 134)).heap.size (w.alloc (.cells #[.slice none 0 0, .slice none 0 0, .slice none 0 0, .slice none 0 0] 134)) (w.alloc (.cells #[.slice none 0 0, .slice none 0 0, .slice none 0 0, .slice none 0 0] 134)).drew from below_drew (Below.refl _ _))
  have HA2 := Lib.hid (show Below (w.alloc (.cells #[.slice none 0 0, .slice none 0 0, .slice none 0 0, .slice none 0 0] 134)).heap.size (w.alloc (.cells #[.slice none 0 0, .slice none 0 0, .slice none 0 0, .slice none 0 0] 134)) ((w.alloc (.cells #[.slice none 0 0, .slice none 0 0, .slice none 0 0, .slice none 0 0] 134)).alloc (.cells #[.slice none 0 0, .slice none 0 0, .slice none 0 0, .slice none 0 0] 134)).drew from below_drew ((Below.refl _ _).alloc (Nat.le_refl _) _))
  have K1 := Lib.hid (show (w.alloc (.cells #[.slice none 0 0, .slice none 0 0, .slice none 0 0, .slice none 0 0] 134)).drew.cell? ⟨b.p, 4, none⟩ = some (.pointer (some ⟨b.hp.h, 0, none⟩)) from k4)
  have K2 := Lib.hid (show ((w.alloc (.cells #[.slice none 0 0, .slice none 0 0, .slice none 0 0, .slice none 0 0] 134)).alloc (.cells #[.slice none 0 0, .slice none 0 0, .slice none 0 0, .slice none 0 0] 134)).drew.cell? ⟨b.p, 4, none⟩ = some (.pointer (some ⟨b.hp.h, 0, none⟩)) from cell_al k4 _)
  have R6 := Lib.hid (show ((w.alloc (.cells #[.slice none 0 0, .slice none 0 0, .slice none 0 0, .slice none 0 0] 134)).alloc (.cells #[.slice none 0 0, .slice none 0 0, .slice none 0 0, .slice none 0 0] 134)).drew.heap[w.heap.size + 1]? = some (.cells #[.slice none 0 0, .slice none 0 0, .slice none 0 0, .slice none 0 0] 134 (0, 0)) by
    have := heap_alloc_new (w.alloc (.cells #[.slice none 0 0, .slice none 0 0, .slice none 0 0, .slice none 0 0] 134)) (.cells #[.slice none 0 0, .slice none 0 0, .slice none 0 0, .slice none 0 0] 134)
    rw [show (w.alloc (.cells #[.slice none 0 0, .slice none 0 0, .slice none 0 0, .slice none 0 0] 134)).heap.size = w.heap.size + 1 by simp] at this
    exact this)
  obtain ⟨r0, r1⟩ := hruns
  clear h hb0 hL hR hproc hsweep hb2
  go_enter Tryz.func72, Tryz.ntmps72
  go_upto_region 3 with fail
  go_cut [6, 7] (fun t ev wx => ∃ t6 A c2 A3 c3, t = .pointer (some ⟨t6, 0, none⟩) ∧ ev = .int .i64 0 ∧ wx.heap[t6]? = some (Obj.cells #[.slice none 0 0, .slice none 0 0, .slice A ys.length c2, .slice A3 ls.length c3] 134 (0, 0)) ∧ Below (w.alloc (.cells #[.slice none 0 0, .slice none 0 0, .slice none 0 0, .slice none 0 0] 134)).heap.size (w.alloc (.cells #[.slice none 0 0, .slice none 0 0, .slice none 0 0, .slice none 0 0] 134)) wx ∧ w.heap.size < t6 ∧
    wx.ownsRow w.heap.size 3 1 (.slice A ys.length c2) ys.length (ys.map (Value.int .i64)) ∧ wx.ownsRow w.heap.size 3 1 (.slice A3 ls.length c3) ls.length (ls.map (Value.int .i64)))
  case first =>
    go_region_held3 (fun w' => w'.cell? ⟨b.p, 4, none⟩ = some (.pointer (some ⟨b.hp.h, 0, none⟩)))
      (first | (with_reducible assumption) | (with_reducible exact K1.out) | (with_reducible exact K2.out) | (with_reducible exact cell_st4 KS2.out NE2.out _ _ _ _) | (with_reducible exact cell_st4' KS2.out _ _ _ _ _) | (refine cell_al ?_ _; with_reducible assumption))
      (first
        | (go_at_call 114; first
          | ((with_reducible refine (HI.out _ HA1.out).mono ?_); rintro e w1 ⟨AR, cR, AF, cF, rfl, hb, ho1, ho2⟩; have hS : w1.cell? ⟨b.p, 4, none⟩ = some (.pointer (some ⟨b.hp.h, 0, none⟩)) := keepC.on (h := b.hp.h) K1.out hb; have HB1 := Lib.hid (HA1.out.trans (hb.mono HA1.out.size)); have HO1 := Lib.hid (ownsRow_base_a ho1 (Nat.le_trans HB0.out.size HA1.out.size)); have HO2 := Lib.hid (ownsRow_base_a ho2 (Nat.le_trans HB0.out.size HA1.out.size)); clear hb ho1 ho2)
          | ((with_reducible refine (HI.out _ HA2.out).mono ?_); rintro e w1 ⟨AR, cR, AF, cF, rfl, hb, ho1, ho2⟩; have hS : w1.cell? ⟨b.p, 4, none⟩ = some (.pointer (some ⟨b.hp.h, 0, none⟩)) := keepC.on (h := b.hp.h) K2.out hb; have HB1 := Lib.hid (HA2.out.trans (hb.mono HA2.out.size)); have HO1 := Lib.hid (ownsRow_base_a ho1 (Nat.le_trans HB0.out.size HA2.out.size)); have HO2 := Lib.hid (ownsRow_base_a ho2 (Nat.le_trans HB0.out.size HA2.out.size)); have R61 := Lib.hid ((hb.block _ (lt_of_block R6.out)).trans R6.out); clear hb ho1 ho2))
        | (go_at_call 113; first
          | ((with_reducible refine (HPR.out w1 AR cR AF cF _ (H.out.below HB1.out) HO1.out HO2.out).mono ?_); rintro e w2 ⟨A, c2, A3, c3, rfl, hb, ho1, ho2⟩; have hS : w2.cell? ⟨b.p, 4, none⟩ = some (.pointer (some ⟨b.hp.h, 0, none⟩)) := keepC.on (h := b.hp.h) (by unfold keepC; with_reducible assumption) hb; have KS2 := Lib.hid hS; have NE2 := Lib.hid (Nat.lt_succ_of_lt HBP.out); have R62 := Lib.hid ((hb.block _ (lt_of_block R61.out)).trans R61.out); have r4 := R62.out; have y0 := cell_of_row _ _ 0 _ _ _ r4; have y1 := cell_of_row _ _ 1 _ _ _ r4; have y2 := cell_of_row _ _ 2 _ _ _ r4; have y3 := cell_of_row _ _ 3 _ _ _ r4; have x0 := frozen_of_row _ _ 0 _ _ r4; have x1 := frozen_of_row _ _ 1 _ _ r4; have x2 := frozen_of_row _ _ 2 _ _ r4; have x3 := frozen_of_row _ _ 3 _ _ r4; clear r4; have HB2 := Lib.hid (HB1.out.trans (hb.mono HB1.out.size)); have HP1 := Lib.hid ho1; have HP2 := Lib.hid ho2; clear hb ho1 ho2)
          | ((with_reducible refine (HPR.out (w1.alloc (.cells #[.slice none 0 0, .slice none 0 0, .slice none 0 0, .slice none 0 0] 134)) AR cR AF cF _ (H.out.below (HB1.out.alloc HB1.out.size _)) (owns_below HO1.out ((Below.refl _ _).alloc (Nat.le_refl _) _)) (owns_below HO2.out ((Below.refl _ _).alloc (Nat.le_refl _) _))).mono ?_); rintro e w2 ⟨A, c2, A3, c3, rfl, hb, ho1, ho2⟩; have hS : w2.cell? ⟨b.p, 4, none⟩ = some (.pointer (some ⟨b.hp.h, 0, none⟩)) := keepC.on (h := b.hp.h) (by unfold keepC; with_reducible assumption) hb; have KS2 := Lib.hid hS; have NE2 := Lib.hid (Nat.lt_of_lt_of_le HBP.out (Nat.le_trans HB0.out.size HB1.out.size)); have R63 := Lib.hid ((hb.block _ (lt_of_block (heap_alloc_new w1 (.cells #[.slice none 0 0, .slice none 0 0, .slice none 0 0, .slice none 0 0] 134)))).trans (heap_alloc_new w1 (.cells #[.slice none 0 0, .slice none 0 0, .slice none 0 0, .slice none 0 0] 134))); have r4 := R63.out; have y0 := cell_of_row _ _ 0 _ _ _ r4; have y1 := cell_of_row _ _ 1 _ _ _ r4; have y2 := cell_of_row _ _ 2 _ _ _ r4; have y3 := cell_of_row _ _ 3 _ _ _ r4; have x0 := frozen_of_row _ _ 0 _ _ r4; have x1 := frozen_of_row _ _ 1 _ _ r4; have x2 := frozen_of_row _ _ 2 _ _ r4; have x3 := frozen_of_row _ _ 3 _ _ r4; clear r4; have HB2 := Lib.hid ((HB1.out.alloc HB1.out.size (.cells #[.slice none 0 0, .slice none 0 0, .slice none 0 0, .slice none 0 0] 134)).trans (hb.mono (Nat.le_trans HB1.out.size (by simp)))); have HP1 := Lib.hid ho1; have HP2 := Lib.hid ho2; clear hb ho1 ho2)
          | ((with_reducible refine (HPR.out w1 AR cR AF cF _ (H.out.below HB1.out) HO1.out HO2.out).mono ?_); rintro e w2 ⟨A, c2, A3, c3, rfl, hb, ho1, ho2⟩; have hS : w2.cell? ⟨b.p, 4, none⟩ = some (.pointer (some ⟨b.hp.h, 0, none⟩)) := keepC.on (h := b.hp.h) (by unfold keepC; with_reducible assumption) hb; have KS2 := Lib.hid hS; have HB2 := Lib.hid (HB1.out.trans (hb.mono HB1.out.size)); have HP1 := Lib.hid ho1; have HP2 := Lib.hid ho2; clear hb ho1 ho2)))
    all_goals (go_wp2; go_meet)
    all_goals (case rel =>
      have l0 : w.heap.size + 1 = (w.alloc (.cells #[.slice none 0 0, .slice none 0 0, .slice none 0 0, .slice none 0 0] 134)).heap.size := by simp
      have l1 := HB1.out.size
      first
        | (have q := colEnd R62.out HB2.out (Nat.lt_succ_self w.heap.size) (Nat.le_of_eq l0.symm) (Bo := w1.heap.size) (by omega) (by omega) HP1.out HP2.out _ rfl; exact ⟨_, A, c2, A3, c3, rfl, rfl, q.1, q.2.1, q.2.2.1, q.2.2.2.1, q.2.2.2.2⟩)
        | (have q := colEnd R63.out HB2.out (show w.heap.size < w1.heap.size by omega) l1 (Bo := (w1.alloc (.cells #[.slice none 0 0, .slice none 0 0, .slice none 0 0, .slice none 0 0] 134)).heap.size) (Nat.le_trans (by omega) (show w1.heap.size ≤ _ by simp)) (Nat.le_trans (by omega) (show w1.heap.size ≤ _ by simp)) HP1.out HP2.out _ rfl; exact ⟨_, A, c2, A3, c3, rfl, rfl, q.1, q.2.1, q.2.2.1, q.2.2.2.1, q.2.2.2.2⟩)
        | (have l2 := HB2.out.size; have bx : Below w2.heap.size w2 (w2.alloc (.cells #[.slice none 0 0, .slice none 0 0, .slice A ys.length c2, .slice A3 ls.length c3] 134)) := (Below.refl _ _).alloc (Nat.le_refl _) _
           exact ⟨w2.heap.size, A, c2, A3, c3, rfl, rfl, heap_alloc_new w2 _, HB2.out.alloc HB2.out.size _, by omega, ownsRow_base_a (owns_below HP1.out bx) (by omega), ownsRow_base_a (owns_below HP2.out bx) (by omega)⟩))
  case rest =>
    rename_i t t0 wx
    obtain ⟨t6, A, c2, A3, c3, rfl, rfl, row, hb, ht6, ho1, ho2⟩ := hcut
    have HX := Lib.hid (H.out.below hb)
    have HBX := Lib.hid hb
    have R6x := Lib.hid row
    have R4x := Lib.hid ((hb.block _ (lt_of_block R4.out)).trans R4.out)
    have HKW := Lib.hid (show Keep w wc.drew.drew from Keep.of_below (below_drew (below_drew (HB0.out.trans (hb.mono HB0.out.size)))))
    have HXD := Lib.hid ((H.out.below (below_drew hb)))
    have p0 : wc.drew.cell? ⟨b.p, 0, none⟩ = some (.pointer (some ⟨b.rf, 0, none⟩)) := cell_of_row _ _ 0 _ _ _ HX.out.pbox
    have z0 : wc.drew.cell? ⟨t6, 0, none⟩ = some (.slice none 0 0) := cell_of_row _ _ 0 _ _ _ row
    have z1 : wc.drew.cell? ⟨t6, 1, none⟩ = some (.slice none 0 0) := cell_of_row _ _ 1 _ _ _ row
    have HO1 := Lib.hid ho1
    have HO2 := Lib.hid ho2
    have HT6 := Lib.hid ht6
    clear hb ho1 ho2 row R6 K1 K2 HA1 HA2 HI HPR R4 k4 ht6
    go_wp2_with fail
    go_region_held3 (fun w' => w'.cell? ⟨b.p, 0, none⟩ = some (.pointer (some ⟨b.rf, 0, none⟩)) ∧ w'.cell? ⟨t6, 0, none⟩ = some (.slice none 0 0))
      (exact ⟨p0, z0⟩)
      ((go_at_call 63; refine (clear0_c _ _ _).mono ?_; rintro e w' ⟨rfl, rfl⟩))
    go_wp2_with fail
    go_loopw [38] (fun iv wr => iv = .int .i64 0 ∧ wr = wc.drew) (fun _ _ => 0)
    case atStart => exact ⟨rfl, rfl⟩
    case round =>
      obtain ⟨rfl, rfl⟩ := hrel
      go_wp2_with fail
      have HY := Lib.hid (H.out.below (below_drew (below_drew HBX.out)))
      have p3 : wc.drew.drew.cell? ⟨b.p, 3, none⟩ = some (.pointer (some ⟨b.fi, 0, none⟩)) := cell_of_row _ _ 3 _ _ _ HX.out.pbox
      have z2 : wc.drew.drew.cell? ⟨t6, 2, none⟩ = some (.slice A ys.length c2) := cell_of_row _ _ 2 _ _ _ R6x.out
      have HA := Lib.hid (fun ad (e : A = some ad) (hk : FiFoot b.fi vw vp ad.block) => by
        have l0 := HFT.out _ hk
        have l1 := (HO1.out.lt ad.block (by rw [e]; rfl)).1
        omega : ∀ ad, A = some ad → ¬ FiFoot b.fi vw vp ad.block)
      have HI1 := Lib.hid (show Ints wc.drew.drew wc.drew.drew.heap.size A ys.length ys from ints_own HO1.out)
      go_region_held3 (fun w' => w'.cell? ⟨b.p, 3, none⟩ = some (.pointer (some ⟨b.fi, 0, none⟩)) ∧ w'.cell? ⟨t6, 2, none⟩ = some (.slice A ys.length c2))
        (first | (with_reducible exact ⟨p3, z2⟩) | (with_reducible exact hS))
        ((go_at_call 115; refine (pend_c _ HY.out.fin A ys.length c2 ys HI1.out HA.out (by have := HC.out.1; omega) (by have := HC.out.2.1; omega) (by have := HC.out.2.2; omega)).mono ?_; rintro e w2 ⟨rfl, vw1, vp1, ht⟩; have HKQ := Lib.hid (HY.out.keepFin ht.2.1); have HQ := Lib.hid (colPend (t4 := w.heap.size) HY.out ht HFT.out R4x.out R6x.out HO2.out); have hS : w2.cell? ⟨b.p, 3, none⟩ = some (.pointer (some ⟨b.fi, 0, none⟩)) ∧ w2.cell? ⟨t6, 2, none⟩ = some (.slice A ys.length c2) := ⟨cell_of_row _ _ 3 _ _ _ HQ.out.1.pbox, cell_of_row _ _ 2 _ _ _ HQ.out.2.2.1⟩; clear ht))
      go_wp2_with fail
      have HQ1 := HQ.out.1.below (below_drew (Below.refl _ _))
      have HS := Lib.hid (HSW.out w2.drew A3 c3 vw1 vp1 HQ1 HQ.out.2.2.2)
      have p4 : w2.drew.cell? ⟨b.p, 4, none⟩ = some (.pointer (some ⟨b.hp.h, 0, none⟩)) := cell_of_row _ _ 4 _ _ _ HQ.out.1.pbox
      have z3 : w2.drew.cell? ⟨t6, 3, none⟩ = some (.slice A3 ls.length c3) := cell_of_row _ _ 3 _ _ _ HQ.out.2.2.1
      clear HQ1
      go_region_held3 (fun w' => w'.cell? ⟨b.p, 4, none⟩ = some (.pointer (some ⟨b.hp.h, 0, none⟩)) ∧ w'.cell? ⟨t6, 3, none⟩ = some (.slice A3 ls.length c3))
        (first | (with_reducible exact ⟨p4, z3⟩) | (with_reducible exact hS))
        ((go_at_call 116; refine HS.out.mono ?_; rintro e w3 ⟨kk, rfl, hp, hk⟩; have HPZ := Lib.hid hp; have H6 := Lib.hid (hk.2 _ _ _ (by rfl) HQ.out.2.2.1); have H4 := Lib.hid (hk.2 _ _ _ (by rfl) HQ.out.2.1); have HK3 := Lib.hid hk; have hS : w3.cell? ⟨b.p, 4, none⟩ = some (.pointer (some ⟨b.hp.h, 0, none⟩)) ∧ w3.cell? ⟨t6, 3, none⟩ = some (.slice A3 ls.length c3) := ⟨by rw [← HB2.out.1, ← HB2.out.2]; exact cell_of_row _ _ 4 _ _ _ hp.pbox, cell_of_row _ _ 3 _ _ _ H6.out⟩; clear hp hk))
      have q9 : w3.cell? ⟨b.p, 9, none⟩ = some (.int .i64 s2.runs) := by rw [← HB2.out.1]; exact cell_of_row _ _ 9 _ _ _ HPZ.out.pbox
      have f9 : w3.frozen? ⟨b.p, 9, none⟩ = false := by rw [← HB2.out.1]; exact frozen_of_row _ _ 9 _ _ HPZ.out.pbox
      have e9 : IntKind.i64.wrap (s2.runs + 1) = s2.runs + 1 := IntWalk.i64_in _ (by omega)
      have HR := Lib.hid (by have := HPZ.out.runsTurn (s2.runs + 1); rw [HB2.out.1] at this; exact this : Pts (w3.setCell ⟨b.p, 9, none⟩ (.int .i64 (s2.runs + 1))) b2 { s2 with runs := s2.runs + 1 } vw1 vp1)
      have HF9 := Lib.hid (frame_set (w := w3) (b := b.p) 9 (.int .i64 (s2.runs + 1)))
      have bp := HPZ.out.pbox
      rw [HB2.out.1] at bp
      have G6 := Lib.hid (HF9.out.heap H6.out (heap_ne H6.out bp (cells_ne (by decide))))
      have G4 := Lib.hid (HF9.out.heap H4.out (heap_ne H4.out bp (cells_ne (by decide))))
      clear bp
      have g0 := cell_of_row _ _ 0 _ _ _ G6.out
      have g1 := cell_of_row _ _ 1 _ _ _ G6.out
      have g2 := cell_of_row _ _ 2 _ _ _ G6.out
      have g3 := cell_of_row _ _ 3 _ _ _ G6.out
      have h0 := cell_of_row _ _ 0 _ _ _ G4.out
      have h1 := cell_of_row _ _ 1 _ _ _ G4.out
      have h2 := cell_of_row _ _ 2 _ _ _ G4.out
      have h3 := cell_of_row _ _ 3 _ _ _ G4.out
      have f0 := frozen_of_row _ _ 0 _ _ G4.out
      have f1 := frozen_of_row _ _ 1 _ _ G4.out
      have f2 := frozen_of_row _ _ 2 _ _ G4.out
      have f3 := frozen_of_row _ _ 3 _ _ G4.out
      go_wp2_with fail
      have hF := fin4 _ _ _ _ _ _ _ (.slice none 0 0) (.slice none 0 0) (.slice A ys.length c2) (.slice A3 ls.length c3) G4.out
      have q0 := cell_of_row _ _ 0 _ _ _ hF
      have q1 := cell_of_row _ _ 1 _ _ _ hF
      have q2 := cell_of_row _ _ 2 _ _ _ hF
      have q3 := cell_of_row _ _ 3 _ _ _ hF
      refine bodyPost_ret (v := .tuple #[.agg #[.slice none 0 0, .slice none 0 0, .slice A ys.length c2, .slice A3 ls.length c3], .int .i64 0]) (by simp [results, Tryz.results72, go_sem, q0, q1, q2, q3]) rfl ⟨_, _, _, _, _, _, rfl, ⟨vw1, vp1, HR.out.side G4.out (frame4 _ _ _ _ _ _)⟩, Keep.side (k := w.heap.size) ((HKW.out.trans HKQ.out).trans (HK3.out.undrew.trans (by have := HPZ.out.keepRuns (.int .i64 (s2.runs + 1)); rw [HB2.out.1] at this; exact this))) (frame4 _ _ _ _ _ _) (Nat.le_refl _)⟩
end Go.Proofs.YtibgbahaldojiaaGreat.Fns
