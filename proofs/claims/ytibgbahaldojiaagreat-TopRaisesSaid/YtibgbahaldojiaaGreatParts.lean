/- All parts of a runtime: made anew. -/
import Derived.Test.YtibgbahaldojiaaGreatPend
import Derived.Test.YtibgbahaldojiaaGreatStk
namespace Go.Proofs.YtibgbahaldojiaaGreat.Fns
open Go Go.RowKit
theorem queueNew_c (w : World) (h : Nat) : Calls Tryz.prog 42 #[.pointer (some ⟨h, 0, none⟩)] w fun e w' => e = .returned (.pointer (some ⟨w.heap.size, 0, none⟩)) ∧ w' = w.alloc (.cells #[.pointer (some ⟨h, 0, none⟩), .slice none 0 0] 78) := by
  go_enter Tryz.func42, Tryz.ntmps42
  go_wp2
  go_ret
  exact ⟨rfl, rfl⟩
theorem refNew_c (w : World) (h : Nat) : Calls Tryz.prog 15 #[.pointer (some ⟨h, 0, none⟩)] w fun e w' => ∃ q r, e = .returned (.pointer (some ⟨r, 0, none⟩)) ∧ w'.heap[q]? = some (.cells #[.pointer (some ⟨h, 0, none⟩), .slice none 0 0] 78 (0, 0)) ∧ w'.heap[r]? = some (.cells #[.pointer (some ⟨q, 0, none⟩), .int .i64 0] 75 (0, 0)) ∧ Below w.heap.size w w' := by
  go_enter Tryz.func15, Tryz.ntmps15
  go_wp2_with (go_at_call 42; refine (queueNew_c _ _).mono ?_; rintro e w' ⟨rfl, rfl⟩)
  go_ret
  refine ⟨w.heap.size, w.heap.size + 1, rfl, ?_, ?_, ((Below.refl _ _).alloc (Nat.le_refl _) _).alloc (by simp) _⟩
  · rw [Below.heap_alloc _ _ _ (by simp), heap_alloc_new]
  · have := heap_alloc_new (w.alloc (.cells #[.pointer (some ⟨h, 0, none⟩), .slice none 0 0] 78)) (.cells #[.pointer (some ⟨w.heap.size, 0, none⟩), .int .i64 0] 75)
    simpa using this
/-- The cells of roots that are none. -/
def z16 : Array Value := #[.int .i64 0, .int .i64 0, .int .i64 0, .int .i64 0, .int .i64 0, .int .i64 0, .int .i64 0, .int .i64 0, .int .i64 0, .int .i64 0, .int .i64 0, .int .i64 0, .int .i64 0, .int .i64 0, .int .i64 0, .int .i64 0]
theorem rootNew_c (w : World) : Calls Tryz.prog 17 #[] w fun e w' => e = .returned (.pointer (some ⟨w.heap.size, 0, none⟩)) ∧ w'.heap[w.heap.size]? = some (.cells z16 103 (0, 0)) ∧ Below w.heap.size w w' := by
  go_enter Tryz.func17, Tryz.ntmps17
  go_wp2
  go_ret
  exact ⟨rfl, heap_alloc_new _ _, (Below.refl _ _).alloc (Nat.le_refl _) _⟩
theorem tabNew_c (w : World) : Calls Tryz.prog 41 #[] w fun e w' => e = .returned (.pointer (some ⟨w.heap.size, 0, none⟩)) ∧ w'.heap[w.heap.size]? = some (.cells #[.slice none 0 0] 153 (0, 0)) ∧ Below w.heap.size w w' := by
  go_enter Tryz.func41, Tryz.ntmps41
  go_wp2
  go_ret
  exact ⟨rfl, heap_alloc_new _ _, (Below.refl _ _).alloc (Nat.le_refl _) _⟩
theorem objNew_c (w : World) (n : Nat) (h1 : 1 ≤ n) (h2 : n ≤ 256) : Calls Tryz.prog 13 #[.int .i64 (n : Int)] w fun e w' => ∃ B : HpB, e = .returned (.tuple #[.pointer (some ⟨B.h, 0, none⟩), .int .i64 0]) ∧ Hp w' B n 0 (fun _ => 0) ∧ Below w.heap.size w w' ∧ ∀ k, HFoot B 0 k → w.heap.size ≤ k := by
  go_enter Tryz.func13, Tryz.ntmps13
  go_wp2_with (first
    | (go_at_call 40; refine (spNew_c _ n h1 h2).mono ?_; rintro e w1 ⟨b, rfl, hs, hb, hfr⟩; have HS := Lib.hid hs; have HB := Lib.hid hb; have HFR := Lib.hid hfr; clear hs hb hfr)
    | (go_at_call 41; refine (tabNew_c _).mono ?_; rintro e w2 ⟨rfl, ht, hb⟩; have HT := Lib.hid ht; have HB2 := Lib.hid hb; clear ht hb))
  have hb3 : Below w2.heap.size w2 (w2.alloc (.cells #[.pointer (some ⟨b.sp, 0, none⟩), .pointer (some ⟨w1.heap.size, 0, none⟩)] 84)) := (Below.refl _ _).alloc (Nat.le_refl _) _
  have hs2 := (HS.out.below HB2.out).below hb3
  have ht2 := (hb3.block _ (lt_of_block HT.out)).trans HT.out
  refine bodyPost_ret (v := .tuple #[.pointer (some ⟨w2.heap.size, 0, none⟩), .int .i64 0]) (by simp [results, Tryz.results13, go_sem]) rfl ⟨⟨w2.heap.size, w1.heap.size, b, ⟨0, 0, 0⟩⟩, rfl, ⟨heap_alloc_new _ _, ht2, .inl ⟨rfl, 0, hs2⟩⟩, (HB.out.trans ((HB2.out.trans (hb3.mono HB2.out.size)).mono HB.out.size)), ?_⟩
  intro k hk
  have q1 := HB.out.size
  have q2 := HB2.out.size
  obtain ⟨z1, z2, z3, z4, z5, z6, z7, z8⟩ := HFR.out
  rcases hk with e | e | e | e | e | e | e | e | e | e | ⟨e, _⟩
  · rw [e]; exact Nat.le_trans q1 q2
  · rw [e]; exact q1
  · rw [e]; exact z1
  · rw [e]; exact z2
  · rw [e]; exact z3
  · rw [e]; exact z4
  · rw [e]; exact z5
  · rw [e]; exact z6
  · rw [e]; exact z7
  · rw [e]; exact z8
  · exact absurd e (Nat.lt_irrefl 0)
/-- The blocks of a runtime. -/
structure RtB where
  r : Nat
  p : Nat
  rf : Nat
  q : Nat
  hd : Nat
  rt : Nat
  fi : Nat
  hp : HpB
/-- What a runtime of such objects is: n pages, m objects, words, handles, who waits, whose finalizer is to run, numbers. -/
structure RtS where
  n : Nat
  m : Nat
  f : Nat → Int
  T : Nat → Int
  A : Nat → Int
  W : List Int
  P : List Int
  rate : Int
  stk : Int
  runs : Int
/-- Where the runtime's blocks begin. -/
class Base where
  B : Nat
/-- The parts of a runtime, but for its own block. -/
structure Pts [Base] (w : World) (b : RtB) (s : RtS) (vw vp : Value) : Prop where
  pbox : w.heap[b.p]? = some (.cells #[.pointer (some ⟨b.rf, 0, none⟩), .pointer (some ⟨b.hd, 0, none⟩), .pointer (some ⟨b.rt, 0, none⟩), .pointer (some ⟨b.fi, 0, none⟩), .pointer (some ⟨b.hp.h, 0, none⟩), .int .i64 s.n, .int .i64 s.rate, .int .i64 s.stk, .int .i64 0, .int .i64 s.runs] 72 (0, 0))
  rfbox : w.heap[b.rf]? = some (.cells #[.pointer (some ⟨b.q, 0, none⟩), .int .i64 0] 75 (0, 0))
  qbox : w.heap[b.q]? = some (.cells #[.pointer (some ⟨b.hp.h, 0, none⟩), .slice none 0 0] 78 (0, 0))
  hs : Hs w b.hd s.T s.A
  rts : w.heap[b.rt]? = some (.cells z16 103 (0, 0))
  fin : Fi w b.fi b.hp.h vw vp s.W s.P
  heap : Hp w b.hp s.n s.m s.f
  sep : ∀ k, HFoot b.hp s.m k → ¬ FiFoot b.fi vw vp k
  far : Base.B ≤ b.p ∧ Base.B ≤ b.hd ∧ (∀ k, HFoot b.hp s.m k → Base.B ≤ k) ∧ ∀ k, FiFoot b.fi vw vp k → Base.B ≤ k
def fiTy : Obj → Bool
  | .cells _ t _ => [80, 3].contains t
  | _ => false
theorem Fi.apart {w : World} {fi h k : Nat} {vw vp : Value} {W P : List Int} {o : Obj} (F : Fi w fi h vw vp W P) (hk : w.heap[k]? = some o) (ho : fiTy o = false) : ¬ FiFoot fi vw vp k := by
  rintro (e | e | e)
  · exact heap_ne hk F.box (fun e2 => by rw [e2] at ho; cases ho) e
  · rcases F.ow.2 with ⟨e2, _⟩ | ⟨g, cap, cur, e2, _, hg, _⟩
    · rw [e2] at e; cases e
    · rw [e2] at e
      injection e with e
      exact heap_ne hk hg (fun e3 => by rw [e3] at ho; cases ho) e.symm
  · rcases F.op.2 with ⟨e2, _⟩ | ⟨g, cap, cur, e2, _, hg, _⟩
    · rw [e2] at e; cases e
    · rw [e2] at e
      injection e with e
      exact heap_ne hk hg (fun e3 => by rw [e3] at ho; cases ho) e.symm
section
variable [Base] {w w' : World} {b : RtB} {s : RtS} {vw vp vw' vp' : Value}
theorem Pts.frame {G : Nat → Prop} (h : Pts w b s vw vp) (hf : Frame w w' G) (h1 : ¬ G b.p ∧ ¬ G b.rf ∧ ¬ G b.q ∧ ¬ G b.hd ∧ ¬ G b.rt) (h2 : ∀ k, FiFoot b.fi vw vp k → ¬ G k) (h3 : ∀ k, HFoot b.hp s.m k → ¬ G k) : Pts w' b s vw vp :=
  ⟨hf.heap h.pbox h1.1, hf.heap h.rfbox h1.2.1, hf.heap h.qbox h1.2.2.1, h.hs.frame hf h1.2.2.2.1, hf.heap h.rts h1.2.2.2.2, h.fin.frame hf h2, h.heap.frame hf h3, h.sep, h.far⟩
theorem Pts.below (h : Pts w b s vw vp) (hb : Below w.heap.size w w') : Pts w' b s vw vp :=
  h.frame (G := fun _ => False) (Frame.of_below hb) ⟨fun e => e, fun e => e, fun e => e, fun e => e, fun e => e⟩ (fun _ _ e => e) (fun _ _ e => e)
omit [Base] in
theorem Sm.foot_lt {b : SpB} {g : PgB} {n m k : Nat} {f : Nat → Int} (h : Sm w b g n m f) (hk : SFoot b g m k) : k < w.heap.size := by
  rcases Nat.lt_or_ge k w.heap.size with h0 | h0
  · exact h0
  · exfalso
    obtain ⟨PF, es, ck, hs⟩ := h.sp
    obtain ⟨cw, hw, _⟩ := hs.ar.row
    obtain ⟨cr, hr, _⟩ := hs.pg.bits.row
    have key : ∀ {j : Nat} {o' : Obj}, w.heap[j]? = some o' → k ≠ j := fun hj e => by have := lt_of_block hj; omega
    rcases hk with e | e | e | e | e | e | e | e | ⟨hm, e⟩
    · exact key hs.box e
    · exact key hs.ar.box e
    · exact key hw e
    · exact key hs.pg.box e
    · exact key hs.pg.bits.box e
    · exact key hr e
    · exact key hs.small e
    · exact key hs.large e
    · obtain ⟨h0, _⟩ | ⟨_, _, _, _, _, hp, _⟩ := h
      · omega
      · obtain ⟨cq, hq, _⟩ := hp.bits.row
        rcases e with e | e | e
        · exact key hp.box e
        · exact key hp.bits.box e
        · exact key hq e
omit [Base] in
theorem Hp.foot_lt {B : HpB} {n m k : Nat} {f : Nat → Int} (h : Hp w B n m f) (hk : HFoot B m k) : k < w.heap.size := by
  rcases hk with rfl | rfl | hk
  · exact lt_of_block h.box
  · exact lt_of_block h.tab
  · exact h.sm.foot_lt hk
/-- The heap has turned. -/
theorem Pts.heapTurn {g' : PgB} {m' : Nat} {f' : Nat → Int} (h : Pts w b s vw vp) (hh : Hp w' { b.hp with g := g' } s.n m' f') (hf : Frame w w' (SFoot b.hp.sp b.hp.g s.m)) (hg : ∀ k, SFoot b.hp.sp g' m' k → k < w.heap.size → SFoot b.hp.sp b.hp.g s.m k) :
    Pts w' { b with hp := { b.hp with g := g' } } { s with m := m', f := f' } vw vp := by
  have ap : ∀ {k : Nat} {o : Obj}, w.heap[k]? = some o → spTy o = false → ¬ SFoot b.hp.sp b.hp.g s.m k := fun hk ho => h.heap.sm.apart hk ho
  obtain ⟨cs, hc, _⟩ := h.hs.block
  refine ⟨hf.heap h.pbox (ap h.pbox (by rfl)), hf.heap h.rfbox (ap h.rfbox (by rfl)), hf.heap h.qbox (ap h.qbox (by rfl)), h.hs.frame hf (ap hc (by rfl)), hf.heap h.rts (ap h.rts (by rfl)), h.fin.frame hf (fun k hk e => h.sep k (.inr (.inr e)) hk), hh, ?_, h.far.1, h.far.2.1, ?_, h.far.2.2.2⟩
  rotate_left
  · intro k hk
    rcases hk with hk | hk | hk
    · exact h.far.2.2.1 k (.inl hk)
    · exact h.far.2.2.1 k (.inr (.inl hk))
    · rcases Nat.lt_or_ge k w.heap.size with h0 | h0
      · exact h.far.2.2.1 k (.inr (.inr (hg k hk h0)))
      · exact Nat.le_trans h.far.1 (Nat.le_trans (Nat.le_of_lt (lt_of_block h.pbox)) h0)
  intro k hk hk2
  have hlt := h.fin.foot_lt hk2
  rcases hk with hk | hk | hk
  · exact h.sep k (.inl hk) hk2
  · exact h.sep k (.inr (.inl hk)) hk2
  · exact h.sep k (.inr (.inr (hg k hk hlt))) hk2
theorem Pts.hdTurn {T' A' : Nat → Int} (h : Pts w b s vw vp) (hh : Hs w' b.hd T' A') (hf : Frame w w' (fun k => k = b.hd)) : Pts w' b { s with T := T', A := A' } vw vp := by
  obtain ⟨cs, hc, _⟩ := h.hs.block
  refine ⟨hf.heap h.pbox (heap_ne h.pbox hc (cells_ne (by decide))), hf.heap h.rfbox (heap_ne h.rfbox hc (cells_ne (by decide))), hf.heap h.qbox (heap_ne h.qbox hc (cells_ne (by decide))), hh, hf.heap h.rts (heap_ne h.rts hc (cells_ne (by decide))), h.fin.frame hf (fun k hk e => ?_), h.heap.frame hf (fun k hk e => ?_), h.sep, h.far⟩
  · subst e; exact h.fin.apart hc (by rfl) hk
  · subst e
    rcases hk with hk | hk | hk
    · exact heap_ne hc h.heap.box (cells_ne (by decide)) hk
    · exact heap_ne hc h.heap.tab (cells_ne (by decide)) hk
    · exact h.heap.sm.apart hc (by rfl) hk
theorem Pts.finTurn {W' P' : List Int} (h : Pts w b s vw vp) (ho : FiTo b.fi b.hp.h vw vp vw' vp' W' P' w w') : Pts w' b { s with W := W', P := P' } vw' vp' := by
  obtain ⟨F, hf, hg⟩ := ho
  obtain ⟨cs, hc, _⟩ := h.hs.block
  refine ⟨hf.heap h.pbox (h.fin.apart h.pbox (by rfl)), hf.heap h.rfbox (h.fin.apart h.rfbox (by rfl)), hf.heap h.qbox (h.fin.apart h.qbox (by rfl)), h.hs.frame hf (h.fin.apart hc (by rfl)), hf.heap h.rts (h.fin.apart h.rts (by rfl)), F, h.heap.frame hf h.sep, ?_, h.far.1, h.far.2.1, h.far.2.2.1, ?_⟩
  rotate_left
  · intro k hk
    rcases Nat.lt_or_ge k w.heap.size with h0 | h0
    · exact h.far.2.2.2 k (hg k hk h0)
    · exact Nat.le_trans h.far.1 (Nat.le_trans (Nat.le_of_lt (lt_of_block h.pbox)) h0)
  intro k hk hk2
  exact h.sep k hk (hg k hk2 (h.heap.foot_lt hk))
theorem Pts.runsTurn (h : Pts w b s vw vp) (x : Int) : Pts (w.setCell ⟨b.p, 9, none⟩ (.int .i64 x)) b { s with runs := x } vw vp := by
  have hf := frame_set (w := w) (b := b.p) 9 (.int .i64 x)
  obtain ⟨cs, hc, _⟩ := h.hs.block
  refine ⟨?_, hf.heap h.rfbox (heap_ne h.rfbox h.pbox (cells_ne (by decide))), hf.heap h.qbox (heap_ne h.qbox h.pbox (cells_ne (by decide))), h.hs.frame hf (heap_ne hc h.pbox (cells_ne (by decide))), hf.heap h.rts (heap_ne h.rts h.pbox (cells_ne (by decide))), h.fin.frame hf (fun k hk e => ?_), h.heap.frame hf (fun k hk e => ?_), h.sep, h.far⟩
  · rw [heap_setCell_same w b.p 9 _ _ _ h.pbox]; rfl
  · subst e; exact h.fin.apart h.pbox (by rfl) hk
  · subst e
    rcases hk with hk | hk | hk
    · exact heap_ne h.pbox h.heap.box (cells_ne (by decide)) hk
    · exact heap_ne h.pbox h.heap.tab (cells_ne (by decide)) hk
    · exact h.heap.sm.apart h.pbox (by rfl) hk
end
end Go.Proofs.YtibgbahaldojiaaGreat.Fns
