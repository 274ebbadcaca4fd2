/- The space: its parts, and its making. -/
import Derived.Test.YtibgbahaldojiaaGreatMap
namespace Go.Proofs.YtibgbahaldojiaaGreat.Fns
open Go Go.RowKit
/-- The blocks of a space. -/
structure SpB where
  sp : Nat
  ar : Nat
  wb : Nat
  pg : Nat
  pb : Nat
  pr : Nat
  sm : Nat
  lg : Nat
/-- Block b.sp holds a space of n pages: PF: which are taken; f: the words; es: its pages of small blocks; no large block. -/
structure Sp (w : World) (b : SpB) (n : Nat) (PF : Nat → Bool) (f : Nat → Int) (es : Array MapEntry) (ck : Nat) : Prop where
  box : w.heap[b.sp]? = some (.cells #[.pointer (some ⟨b.ar, 0, none⟩), .pointer (some ⟨b.pg, 0, none⟩), .map (some b.sm), .map (some b.lg)] 150 (0, 0))
  ar : Ar w b.ar b.wb (n * 64) f
  pg : Pg w b.pg b.pb b.pr n PF
  small : w.heap[b.sm]? = some (.map es ck)
  large : w.heap[b.lg]? = some (.map #[] 0)
  ne : b.sm ≠ b.lg
theorem three_new (w : World) (o1 o2 o3 : Obj) : (((w.alloc o1).alloc o2).alloc o3).heap[w.heap.size]? = some o1 ∧ (((w.alloc o1).alloc o2).alloc o3).heap[w.heap.size + 1]? = some o2 ∧ (((w.alloc o1).alloc o2).alloc o3).heap[w.heap.size + 1 + 1]? = some o3 ∧ Below w.heap.size w (((w.alloc o1).alloc o2).alloc o3) := by
  have z1 : (w.alloc o1).heap.size = w.heap.size + 1 := by simp
  have z2 : ((w.alloc o1).alloc o2).heap.size = w.heap.size + 1 + 1 := by simp
  refine ⟨?_, ?_, ?_, (((Below.refl _ _).alloc (Nat.le_refl _) _).alloc (by omega) _).alloc (by omega) _⟩
  · rw [Below.heap_alloc _ _ _ (by omega), Below.heap_alloc _ _ _ (by omega), heap_alloc_new]
  · rw [Below.heap_alloc _ _ _ (by omega), ← z1, heap_alloc_new]
  · rw [← z2, heap_alloc_new]
theorem spNew_c (w : World) (n : Nat) (h1 : 1 ≤ n) (h2 : n ≤ 256) : Calls Tryz.prog 40 #[.int .i64 (n : Int)] w fun e w' => ∃ b : SpB, e = .returned (.tuple #[.pointer (some ⟨b.sp, 0, none⟩), .int .i64 0]) ∧ Sp w' b n (put (fun _ => false) 0 true) (fun _ => 0) #[] 0 ∧ Below w.heap.size w w' ∧ (w.heap.size ≤ b.sp ∧ w.heap.size ≤ b.ar ∧ w.heap.size ≤ b.wb ∧ w.heap.size ≤ b.pg ∧ w.heap.size ≤ b.pb ∧ w.heap.size ≤ b.pr ∧ w.heap.size ≤ b.sm ∧ w.heap.size ≤ b.lg) := by
  have hmm := @run_makeMap Tryz.prog
  go_enter Tryz.func40, Tryz.ntmps40
  go_wp2_with (first
    | (go_at_call 83; refine (arNew_c _ n h1 h2).mono ?_; rintro e w1 ⟨rfl, ha, hb⟩; have HA := Lib.hid ha; have HB := Lib.hid hb; clear ha hb)
    | (go_at_call 84; refine (pgNew_c w1 n h1 h2).mono ?_; rintro e w2 ⟨p, b, r, rfl, hp, hb, hp1, hp2, hp3⟩; have HP := Lib.hid hp; have HB2 := Lib.hid hb; have HA2 := Lib.hid (HA.out.below hb); clear hp hb))
  obtain ⟨n1, n2, n3, nb⟩ := three_new w2 (.map #[] 0) (.map #[] 0) (.cells #[.pointer (some ⟨w.heap.size + 1, 0, none⟩), .pointer (some ⟨p, 0, none⟩), .map (some w2.heap.size), .map (some (w2.heap.size + 1))] 150)
  have hfar : w.heap.size ≤ w2.heap.size + 1 + 1 ∧ w.heap.size ≤ w.heap.size + 1 ∧ w.heap.size ≤ w.heap.size ∧ w.heap.size ≤ p ∧ w.heap.size ≤ b ∧ w.heap.size ≤ r ∧ w.heap.size ≤ w2.heap.size ∧ w.heap.size ≤ w2.heap.size + 1 := by
    have q1 := HB.out.size
    have q2 := HB2.out.size
    omega
  refine bodyPost_ret (v := .tuple #[.pointer (some ⟨w2.heap.size + 1 + 1, 0, none⟩), .int .i64 0]) (by simp [results, Tryz.results40, go_sem]) rfl
    ⟨⟨w2.heap.size + 1 + 1, w.heap.size + 1, w.heap.size, p, b, r, w2.heap.size, w2.heap.size + 1⟩, rfl, ⟨n3, HA2.out.below nb, HP.out.below nb, n1, n2, by simp⟩, HB.out.trans ((HB2.out.mono HB.out.size).trans (nb.mono (Nat.le_trans HB.out.size HB2.out.size))), hfar⟩
section
variable {w w' : World} {b : SpB} {n : Nat} {PF PF' : Nat → Bool} {f f' : Nat → Int} {es es' : Array MapEntry} {ck ck' : Nat} {G : Nat → Prop}
theorem Sp.c0 (h : Sp w b n PF f es ck) : w.cell? ⟨b.sp, 0, none⟩ = some (.pointer (some ⟨b.ar, 0, none⟩)) := cell_of_row _ _ 0 _ _ _ h.box
theorem Sp.c1 (h : Sp w b n PF f es ck) : w.cell? ⟨b.sp, 1, none⟩ = some (.pointer (some ⟨b.pg, 0, none⟩)) := cell_of_row _ _ 1 _ _ _ h.box
theorem Sp.c2 (h : Sp w b n PF f es ck) : w.cell? ⟨b.sp, 2, none⟩ = some (.map (some b.sm)) := cell_of_row _ _ 2 _ _ _ h.box
theorem Sp.c3 (h : Sp w b n PF f es ck) : w.cell? ⟨b.sp, 3, none⟩ = some (.map (some b.lg)) := cell_of_row _ _ 3 _ _ _ h.box
/-- None of the blocks of a space is among these. -/
def SpB.none (b : SpB) (G : Nat → Prop) : Prop := ¬ G b.sp ∧ ¬ G b.ar ∧ ¬ G b.wb ∧ ¬ G b.pg ∧ ¬ G b.pb ∧ ¬ G b.pr ∧ ¬ G b.sm ∧ ¬ G b.lg
theorem Sp.frame (h : Sp w b n PF f es ck) (hf : Frame w w' G) (hG : b.none G) : Sp w' b n PF f es ck := by
  obtain ⟨g1, g2, g3, g4, g5, g6, g7, g8⟩ := hG
  exact ⟨hf.heap h.box g1, h.ar.frame hf g2 g3, h.pg.frame hf g4 g5 g6, hf.heap h.small g7, hf.heap h.large g8, h.ne⟩
theorem Sp.below (h : Sp w b n PF f es ck) (hb : Below w.heap.size w w') : Sp w' b n PF f es ck := h.frame (G := fun _ => False) (Frame.of_below hb) ⟨fun e => e, fun e => e, fun e => e, fun e => e, fun e => e, fun e => e, fun e => e, fun e => e⟩
/-- A block that holds cells of a type is none that holds another object. -/
theorem heap_ne {i j : Nat} {o o' : Obj} (h : w.heap[i]? = some o) (h' : w.heap[j]? = some o') (ho : o ≠ o') : i ≠ j := by
  intro e
  subst e
  rw [h] at h'
  exact ho (Option.some.inj h')
theorem cells_ne {c c' : Array Value} {t t' : TypeId} {q q' : Nat × Nat} (ht : t ≠ t') : Obj.cells c t q ≠ .cells c' t' q' := fun e => by injection e with _ e; exact ht e
/-- The words have turned. -/
theorem Sp.words (h : Sp w b n PF f es ck) (h2 : Ar w' b.ar b.wb (n * 64) f') (hf : Frame w w' (fun k => k = b.wb)) : Sp w' b n PF f' es ck := by
  obtain ⟨cw, hw, _⟩ := h.ar.row
  obtain ⟨cr, hr, _⟩ := h.pg.bits.row
  exact ⟨hf.heap h.box (heap_ne h.box hw (cells_ne (by decide))), h2, h.pg.frame hf (heap_ne h.pg.box hw (cells_ne (by decide))) (heap_ne h.pg.bits.box hw (cells_ne (by decide))) (heap_ne hr hw (cells_ne (by decide))),
    hf.heap h.small (heap_ne h.small hw (fun e => by cases e)), hf.heap h.large (heap_ne h.large hw (fun e => by cases e)), h.ne⟩
/-- The pages have turned. -/
theorem Sp.pages (h : Sp w b n PF f es ck) (h2 : Pg w' b.pg b.pb b.pr n PF') (hf : Frame w w' (fun k => k = b.pr)) : Sp w' b n PF' f es ck := by
  obtain ⟨cw, hw, _⟩ := h.ar.row
  obtain ⟨cr, hr, _⟩ := h.pg.bits.row
  exact ⟨hf.heap h.box (heap_ne h.box hr (cells_ne (by decide))), h.ar.frame hf (heap_ne h.ar.box hr (cells_ne (by decide))) (heap_ne hw hr (cells_ne (by decide))), h2,
    hf.heap h.small (heap_ne h.small hr (fun e => by cases e)), hf.heap h.large (heap_ne h.large hr (fun e => by cases e)), h.ne⟩
/-- The map of small pages has turned. -/
theorem Sp.smalls (h : Sp w b n PF f es ck) (es' : Array MapEntry) (ck' : Nat) : Sp (setB w b.sm (.map es' ck')) b n PF f es' ck' := by
  have hf := frame_block (w := w) b.sm (.map es' ck')
  obtain ⟨cw, hw, _⟩ := h.ar.row
  obtain ⟨cr, hr, _⟩ := h.pg.bits.row
  exact ⟨hf.heap h.box (heap_ne h.box h.small (fun e => by cases e)), h.ar.frame hf (heap_ne h.ar.box h.small (fun e => by cases e)) (heap_ne hw h.small (fun e => by cases e)),
    h.pg.frame hf (heap_ne h.pg.box h.small (fun e => by cases e)) (heap_ne h.pg.bits.box h.small (fun e => by cases e)) (heap_ne hr h.small (fun e => by cases e)),
    block_at _ h.small, hf.heap h.large (fun e => h.ne e.symm), h.ne⟩
end
end Go.Proofs.YtibgbahaldojiaaGreat.Fns
