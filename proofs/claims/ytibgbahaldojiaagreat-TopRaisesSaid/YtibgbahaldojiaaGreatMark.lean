/- A tracer: what is marked, what was pushed. -/
/- Marking: one object; the objects of a chain. -/
import Derived.Test.YtibgbahaldojiaaGreatParts
namespace Go.Proofs.YtibgbahaldojiaaGreat.Fns
open Go Go.RowKit
/-- The blocks of a tracer; and what others there are that stay. -/
structure TrB where
  t : Nat
  bb : Nat
  br : Nat
  sk : Nat
  P : Nat → Obj → Prop
/-- A tracer, new since the world w0: F: what is marked; l: what was pushed. -/
structure Tr (w0 w : World) (b : TrB) (h N : Nat) (F : Nat → Bool) (v : Value) (l : List Int) (room : Nat) (over : Bool) (deep : Int) : Prop where
  box : w.heap[b.t]? = some (.cells #[.pointer (some ⟨b.bb, 0, none⟩), .pointer (some ⟨h, 0, none⟩), .pointer (some ⟨b.sk, 0, none⟩), .int .i64 deep] 240 (0, 0))
  bits : Bt w b.bb b.br N F
  st : Sk w w0.heap.size b.sk v l room over
  old : Below w0.heap.size w0 w
  bt : w0.heap.size ≤ b.t
  bbb : w0.heap.size ≤ b.bb
  bbr : w0.heap.size ≤ b.br
  dp : 0 ≤ deep ∧ deep ≤ 4096
  keep : ∀ k o, b.P k o → w.heap[k]? = some o ∧ (k ≠ b.t ∧ k ≠ b.br ∧ k ≠ b.sk) ∧ v.ownBlock ≠ some k
section
variable {w0 w w' : World} {b : TrB} {h N : Nat} {F F' : Nat → Bool} {v v' : Value} {l l' : List Int} {room : Nat} {over over' : Bool} {deep : Int}
theorem Tr.c0 (t : Tr w0 w b h N F v l room over deep) : w.cell? ⟨b.t, 0, none⟩ = some (.pointer (some ⟨b.bb, 0, none⟩)) := cell_of_row _ _ 0 _ _ _ t.box
theorem Tr.c1 (t : Tr w0 w b h N F v l room over deep) : w.cell? ⟨b.t, 1, none⟩ = some (.pointer (some ⟨h, 0, none⟩)) := cell_of_row _ _ 1 _ _ _ t.box
theorem Tr.c2 (t : Tr w0 w b h N F v l room over deep) : w.cell? ⟨b.t, 2, none⟩ = some (.pointer (some ⟨b.sk, 0, none⟩)) := cell_of_row _ _ 2 _ _ _ t.box
theorem Tr.c3 (t : Tr w0 w b h N F v l room over deep) : w.cell? ⟨b.t, 3, none⟩ = some (.int .i64 deep) := cell_of_row _ _ 3 _ _ _ t.box
theorem Tr.fr (t : Tr w0 w b h N F v l room over deep) (i : Nat) : w.frozen? ⟨b.t, i, none⟩ = false := frozen_of_row _ _ _ _ _ t.box
theorem Tr.far (t : Tr w0 w b h N F v l room over deep) (hb : Below w.heap.size w w') : Tr w0 w' b h N F v l room over deep :=
  ⟨(hb.block _ (lt_of_block t.box)).trans t.box, t.bits.below hb, t.st.frame (F := fun _ => False) (Frame.of_below hb) (fun e => e) (fun _ _ e => e), t.old.trans (hb.mono t.old.size), t.bt, t.bbb, t.bbr, t.dp, fun k o hk => ⟨(hb.block _ (lt_of_block (t.keep k o hk).1)).trans (t.keep k o hk).1, (t.keep k o hk).2⟩⟩
theorem Tr.marks (t : Tr w0 w b h N F v l room over deep) (h2 : Bt w' b.bb b.br N F') (hf : Frame w w' (fun k => k = b.br)) : Tr w0 w' b h N F' v l room over deep := by
  obtain ⟨cr, hr, _⟩ := t.bits.row
  exact ⟨hf.heap t.box (heap_ne t.box hr (cells_ne (by decide))), h2, t.st.frame hf (heap_ne t.st.cells hr (cells_ne (by decide))) (fun k hk e => own_ne t.st.owns hr (by decide) (e ▸ hk)), t.old.trans (hf.below t.old.size (fun k _ e => by rw [e]; exact t.bbr)), t.bt, t.bbb, t.bbr, t.dp,
    fun k o hk => ⟨hf.heap (t.keep k o hk).1 (t.keep k o hk).2.1.2.1, (t.keep k o hk).2⟩⟩
theorem Tr.stack (t : Tr w0 w b h N F v l room over deep) (h2 : Sk w' w0.heap.size b.sk v' l' room over') (hf : Frame w w' (fun k => k = b.sk ∨ v.ownBlock = some k)) (hv : v'.ownBlock = v.ownBlock ∨ ∃ b, v'.ownBlock = some b ∧ w.heap.size ≤ b) : Tr w0 w' b h N F v' l' room over' deep := by
  obtain ⟨cr, hr, _⟩ := t.bits.row
  refine ⟨hf.heap t.box (fun e => e.elim (heap_ne t.box t.st.cells (cells_ne (by decide))) (own_ne t.st.owns t.box (by decide))), t.bits.frame hf (fun e => e.elim (heap_ne t.bits.box t.st.cells (cells_ne (by decide))) (own_ne t.st.owns t.bits.box (by decide))) (fun e => e.elim (heap_ne hr t.st.cells (cells_ne (by decide))) (own_ne t.st.owns hr (by decide))), h2, t.old.trans (hf.below t.old.size (fun k _ e => ?_)), t.bt, t.bbb, t.bbr, t.dp, fun k o hk => ⟨hf.heap (t.keep k o hk).1 (fun e => e.elim (t.keep k o hk).2.1.2.2 (t.keep k o hk).2.2), (t.keep k o hk).2.1, fun e => ?_⟩⟩
  · rcases e with rfl | e
    · exact t.st.base
    · exact (t.st.owns.lt k e).1
  · rcases hv with h1 | ⟨b', h1, h2⟩
    · exact (t.keep k o hk).2.2 (h1 ▸ e)
    · rw [e] at h1
      injection h1 with h1
      have := lt_of_block (t.keep k o hk).1
      omega
theorem Tr.deepen (t : Tr w0 w b h N F v l room over deep) (d : Int) (hd : 0 ≤ d ∧ d ≤ 4096) : Tr w0 (w.setCell ⟨b.t, 3, none⟩ (.int .i64 d)) b h N F v l room over d := by
  have hf := frame_set (w := w) (b := b.t) 3 (.int .i64 d)
  obtain ⟨cr, hr, _⟩ := t.bits.row
  refine ⟨?_, t.bits.frame hf (heap_ne t.bits.box t.box (cells_ne (by decide))) (heap_ne hr t.box (cells_ne (by decide))), t.st.frame hf (heap_ne t.st.cells t.box (cells_ne (by decide))) (fun k hk e => own_ne t.st.owns t.box (by decide) (e ▸ hk)), t.old.setCell (p := ⟨b.t, 3, none⟩) t.bt _, t.bt, t.bbb, t.bbr, hd,
    fun k o hk => ⟨hf.heap (t.keep k o hk).1 (t.keep k o hk).2.1.1, (t.keep k o hk).2⟩⟩
  rw [heap_setCell_same w b.t 3 _ _ _ t.box]; rfl
end
/-- A tracer, whatever its stack's slice and its depth. -/
def Tx (w0 w : World) (b : TrB) (h N : Nat) (F : Nat → Bool) (l : List Int) (room : Nat) (over : Bool) : Prop := ∃ v deep, Tr w0 w b h N F v l room over deep
/-- Others, new since then, are to stay. -/
theorem Tx.hold {w0 w w2 : World} {b : TrB} {h N room : Nat} {F : Nat → Bool} {l : List Int} {over : Bool} (t : Tx w0 w b h N F l room over) (hb : Below w.heap.size w w2) (P : Nat → Obj → Prop) (hP : ∀ k o, P k o → w2.heap[k]? = some o ∧ w.heap.size ≤ k) :
    Tx w0 w2 { b with P := fun k o => b.P k o ∨ P k o } h N F l room over := by
  obtain ⟨v, d, t⟩ := t
  have t2 := t.far hb
  refine ⟨v, d, t2.box, t2.bits, t2.st, t2.old, t2.bt, t2.bbb, t2.bbr, t2.dp, fun k o hk => hk.elim (t2.keep k o) (fun hk => ?_)⟩
  obtain ⟨h1, h2⟩ := hP k o hk
  obtain ⟨cr, hr, _⟩ := t.bits.row
  have l1 := lt_of_block t.box
  have l2 := lt_of_block hr
  have l3 := lt_of_block t.st.cells
  refine ⟨h1, ⟨by simp only; omega, by simp only; omega, by simp only; omega⟩, fun e => ?_⟩
  have := (t.st.owns.lt k e).2
  omega
theorem Tx.kept {w0 w : World} {b : TrB} {h N room : Nat} {F : Nat → Bool} {l : List Int} {over : Bool} (t : Tx w0 w b h N F l room over) {k : Nat} {o : Obj} (hP : b.P k o) : w.heap[k]? = some o := by
  obtain ⟨v, d, t⟩ := t
  exact (t.keep k o hP).1
section
variable (w0 w : World) {B : HpB} {n m : Nat} {f : Nat → Int}
set_option maxHeartbeats 1000000 in
theorem traceNew_c (h : Hp w B n m f) (k : Nat) (h1 : 1 ≤ k) (h2 : k ≤ 4096) : Calls Tryz.prog 133 #[.pointer (some ⟨B.h, 0, none⟩), .int .i64 (k : Int)] w fun e w' => ∃ b : TrB, e = .returned (.tuple #[.pointer (some ⟨b.t, 0, none⟩), .int .i64 0]) ∧ Tx w w' b B.h (n * 64) (fun _ => false) [] k false := by
  have H := Lib.hid h
  have hmo := h.ar.most
  clear h
  generalize hN : n * 64 = N at hmo ⊢
  have HN := Lib.hid hN
  clear hN
  go_enter Tryz.func133, Tryz.ntmps133
  go_wp2_with (first
    | (go_at_call 14; refine (sk_new_ok k _ w.heap.size (Nat.le_refl _) h1 h2).mono ?_; rintro e w1 ⟨rfl, hs, hf⟩; have hb := hf.below (Nat.le_refl _) (fun _ _ e => e.elim); have HS := Lib.hid hs; have HB1 := Lib.hid hb; have H1 := Lib.hid (H.out.below hb); have k0 := H1.out.c0; have s0 := H1.out.s0; clear hs hf hb)
    | (go_at_call 118; refine (arLen_c _ H1.out.ar).mono ?_; rintro e w' ⟨rfl, rfl⟩; rw [HN.out])
    | (go_at_call 120; refine (btNew_c _ N hmo).mono ?_; rintro e w2 ⟨rfl, hbt, hb⟩; have HT := Lib.hid hbt; have HB2 := Lib.hid hb; clear hbt hb))
  have hb3 : Below w2.heap.size w2 (w2.alloc (.cells #[.pointer (some ⟨w1.heap.size + 1, 0, none⟩), .pointer (some ⟨B.h, 0, none⟩), .pointer (some ⟨w.heap.size, 0, none⟩), .int .i64 0] 240)) := (Below.refl _ _).alloc (Nat.le_refl _) _
  have z1 := HB1.out.size
  have z2 := HB2.out.size
  refine bodyPost_ret (v := .tuple #[.pointer (some ⟨w2.heap.size, 0, none⟩), .int .i64 0]) (by simp [results, Tryz.results133, go_sem]) rfl ⟨⟨w2.heap.size, w1.heap.size + 1, w1.heap.size, w.heap.size, fun _ _ => False⟩, rfl, .slice none 0 0, 0, heap_alloc_new _ _, HT.out.below hb3, ?_, HB1.out.trans ((HB2.out.trans (hb3.mono z2)).mono z1), Nat.le_trans z1 z2, by simp only; omega, z1, by omega, fun _ _ e => e.elim⟩
  exact (HS.out.frame (F := fun _ => False) (Frame.of_below HB2.out) (fun e => e) (fun _ _ e => e)).frame (F := fun _ => False) (Frame.of_below hb3) (fun e => e) (fun _ _ e => e)
end
end Go.Proofs.YtibgbahaldojiaaGreat.Fns
namespace Go.Proofs.YtibgbahaldojiaaGreat.Fns
open Go Go.RowKit
section
variable (w0 w : World) {B : HpB} {b : TrB} {n m N room : Nat} {f : Nat → Int} {F : Nat → Bool} {v : Value} {l : List Int} {over : Bool} {deep : Int}
set_option maxHeartbeats 1000000 in
theorem one_old (t : Tr w0 w b B.h N F v l room over deep) (a : Nat) (ha : a < N) (hF : F a = true) : Calls Tryz.prog 167 #[.pointer (some ⟨b.t, 0, none⟩), .int .i64 (a : Int)] w fun e w' => e = .returned (.tuple #[]) ∧ w = w' := by
  have H := Lib.hid (show (decide (0 ≤ (a : Int) ∧ (a : Int) < N) && F (a : Int).toNat) = true by rw [Int.toNat_natCast, hF, Bool.and_true]; exact decide_eq_true (by omega))
  have k0 := t.c0
  have HT := Lib.hid t
  clear t hF
  go_enter Tryz.func167, Tryz.ntmps167
  go_wp2_with (go_at_call 129; refine (btHas_c _ HT.out.bits _ true H.out).mono ?_; rintro e w' ⟨rfl, rfl⟩)
  exact bodyPost_ret (v := .tuple #[]) (by simp [results, Tryz.results167, go_sem]) rfl ⟨rfl, rfl⟩
set_option maxRecDepth 100000 in
set_option maxHeartbeats 2000000 in
theorem one_new (t : Tr w0 w b B.h N F v l room over deep) (h : Hp w0 B n m f) (hN : N = n * 64) (hm : m ≤ 32) (hn : 2 ≤ n) (i a : Nat) (hi : i < m) (ha : a = 64 + i * 2) (k : Int) (fin : Bool) (hk : k = 2 ∨ k = 3) (hf : f a = hw k 1 fin) (hF : F a = false) (hl : l.length < room) (hr : room ≤ 4096) :
    Calls Tryz.prog 167 #[.pointer (some ⟨b.t, 0, none⟩), .int .i64 (a : Int)] w fun e w' => e = .returned (.tuple #[]) ∧ Tx w0 w' b B.h N (put F a true) (l ++ [(a : Int)]) room over := by
  have haN : a < N := by omega
  have HH := Lib.hid (show (decide (0 ≤ (a : Int) ∧ (a : Int) < N) && F (a : Int).toNat) = false by rw [Int.toNat_natCast, hF, Bool.and_false])
  have HC := Lib.hid (head_c w (h.below t.old) hm hn i a hi ha k fin hk hf)
  unfold hd at HC
  have k0 := t.c0
  have k1 := t.c1
  have HT := Lib.hid t
  clear t hF h hk hf ha hN
  go_enter Tryz.func167, Tryz.ntmps167
  go_wp2_with (first
    | (go_at_call 129; refine (btHas_c _ HT.out.bits _ false HH.out).mono ?_; rintro e w' ⟨rfl, rfl⟩)
    | (go_at_call 59; refine HC.out.mono ?_; rintro e w1 ⟨rfl, hb⟩; have HB1 := Lib.hid hb; have T1 := Lib.hid (HT.out.far (hb.trans ((Below.refl w1.heap.size w1).alloc (Nat.le_refl _) (.cells #[.int .i64 k, .int .i64 0, .int .i64 1, .bool fin] 111) |>.mono hb.size))); have k0 := T1.out.c0; have T2 := Lib.hid (T1.out.far ((Below.refl _ _).alloc (Nat.le_refl _) (.cells #[.int .i64 (a : Int)] 3))); clear hb)
    | (go_at_call 121; refine (btSet1_c _ T2.out.bits true a haN (w1.heap.size + 1) 1 (by have := heap_alloc_new (w1.alloc (.cells #[.int .i64 k, .int .i64 0, .int .i64 1, .bool fin] 111)) (.cells #[.int .i64 (a : Int)] 3); simpa using this)).mono ?_; rintro e w2 ⟨rfl, hb2, hf2⟩; have T3 := Lib.hid (T2.out.marks hb2 hf2); have k2 := T3.out.c2; have T4 := Lib.hid (T3.out.far ((Below.refl _ _).alloc (Nat.le_refl _) (.cells #[.int .i64 (a : Int)] 3))); clear hb2 hf2)
    | (go_at_call 199; refine (sk_push_c _ T4.out.st T4.out.old.size (w2.heap.size + 1) (some ⟨w2.heap.size, 0, none⟩) 1 1 [(a : Int)] (ints_one w2 (a : Int)) (Nat.le_refl _) (by unfold maxLen; omega)).mono ?_; rintro e w3 ⟨rfl, v3, hs, ho3, hf3⟩; have T5 := Lib.hid (T4.out.stack hs hf3 ho3); have k2 := T5.out.c2; have k3 := T5.out.c3; have f3 := T5.out.fr 3; have dp := T5.out.dp; clear hs hf3 ho3))
  obtain ⟨d1, d2⟩ := dp
  have HL := Lib.hid (show (l ++ List.take (room - l.length) [(a : Int)]) = l ++ [(a : Int)] by rw [List.take_of_length_le (by simp; omega)])
  have HO := Lib.hid (show (over || decide (room - l.length < 1)) = over by rw [show decide (room - l.length < 1) = false by simp; omega, Bool.or_false])
  obtain ⟨dd, hdd⟩ : ∃ dd : Nat, dd = (l ++ [(a : Int)]).length := ⟨_, rfl⟩
  have HD := Lib.hid hdd
  have hd4 : dd ≤ 4096 := by rw [hdd]; simp; omega
  have T6 := Lib.hid (show Tr w0 w3 b B.h N (put F a true) v3 (l ++ [(a : Int)]) room over deep by have := T5.out; rw [HL.out, HO.out] at this; exact this)
  have T7 := Lib.hid (T6.out.far (w' := w3.drew) ⟨rfl, rfl, rfl, Nat.le_refl _, fun _ _ => rfl⟩)
  have HDC := Lib.hid (show Calls Tryz.prog 200 #[.pointer (some ⟨b.sk, 0, none⟩)] w3.drew fun e w' => e = .returned (.int .i64 (dd : Int)) ∧ w3.drew = w' by rw [hdd]; exact sk_depth_c _ T7.out.st)
  clear hdd
  go_region_with (go_at_call 200; refine HDC.out.mono ?_; rintro e w' ⟨rfl, rfl⟩)
  all_goals
    go_end0
    have ht := T6.out.deepen (max deep (dd : Int)) (by omega)
    exact ⟨rfl, _, _, ht.far ⟨rfl, rfl, rfl, Nat.le_refl _, fun _ _ => rfl⟩⟩
end
end Go.Proofs.YtibgbahaldojiaaGreat.Fns
