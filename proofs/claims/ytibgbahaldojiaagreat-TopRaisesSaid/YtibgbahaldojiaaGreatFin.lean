/- Finalizers: who waits, whose is to run. -/
import Derived.Test.YtibgbahaldojiaaGreatList
namespace Go.Proofs.YtibgbahaldojiaaGreat.Fns
open Go Go.RowKit Go.Sort
theorem delete_own (w : World) (B n i : Nat) (v : Value) (xs X : List Int) (hX : xs.take i ++ xs.drop (i + 1) = X) (hown : w.ownsRow B 3 1 v n (xs.map (Value.int .i64))) (hn : n ≤ 1000000) (hi : i < n) :
    Calls Tryz.prog 109 #[v, .int .i64 (i : Int), .int .i64 ((i : Int) + 1)] w fun e w' => ∃ g c, v = .slice (some ⟨g, 0, none⟩) n c ∧ e = .returned (.slice (some ⟨g, 0, none⟩) X.length c) ∧ w'.ownsRow B 3 1 (.slice (some ⟨g, 0, none⟩) X.length c) X.length (X.map (Value.int .i64)) ∧ Frame w w' (fun k => k = g) := by
  have hl : xs.length = n := by have := hown.1; simpa using this
  subst hl
  rcases hown.2 with ⟨rfl, h0⟩ | ⟨g, cap, cur, rfl, hB, hgb, r1, r2, r3, r4⟩
  · omega
  · have hH : Holds encZ w g 0 xs.toArray := holds_of_block_i hgb (by simpa using r4)
    have hmax : cap ≤ 9223372036854775807 := by unfold maxLen at r2; omega
    have hl1 : X.length = xs.length - 1 := by rw [← hX]; simp; omega
    refine (Tryz.slices_Delete_int g 0 cap i (i + 1) xs w hH r1 hmax (by omega) (by omega)).mono ?_
    rintro e w' ⟨rfl, q, rfl⟩
    have hts : (xs.take i ++ xs.drop (i + 1) ++ List.replicate (i + 1 - i) 0).length = xs.length := by simp; omega
    have ho := ownsRow_sorted_i (n := q) (os := #[]) (ts := xs.take i ++ xs.drop (i + 1) ++ List.replicate (i + 1 - i) 0) hts hB hgb r1 r2 r3
    rw [grow_empty] at ho
    have hg := grownBy_sorted_i (w := w) (g := g) (n := q) (os := #[]) (xs.take i ++ xs.drop (i + 1) ++ List.replicate (i + 1 - i) 0).toArray
    rw [grow_empty] at hg
    refine ⟨g, cap, rfl, by rw [hl1, show i + 1 - i = 1 by omega], ?_, Frame.of_grown hg (fun k _ e => by injection e with e; exact e.symm)⟩
    have hc := owns_cut ho (m := xs.length - 1) (by omega)
    have he : (xs.take i ++ xs.drop (i + 1) ++ List.replicate (i + 1 - i) 0).take (xs.length - 1) = X := by
      rw [hX, ← hl1, List.take_append_of_le_length (by omega), List.take_of_length_le (by omega)]
    rw [← List.map_take, he] at hc
    rw [hl1]
    exact hc
/-- Block fi holds the finalizers of heap h: who waits, whose is to run. -/
structure Fi (w : World) (fi h : Nat) (vw vp : Value) (W P : List Int) : Prop where
  box : w.heap[fi]? = some (.cells #[.pointer (some ⟨h, 0, none⟩), vw, vp] 80 (0, 0))
  ow : w.ownsRow 0 3 1 vw W.length (W.map (Value.int .i64))
  op : w.ownsRow 0 3 1 vp P.length (P.map (Value.int .i64))
  ne : ∀ k, vw.ownBlock = some k → vp.ownBlock ≠ some k
def FiFoot (fi : Nat) (vw vp : Value) (k : Nat) : Prop := k = fi ∨ vw.ownBlock = some k ∨ vp.ownBlock = some k
section
variable {w w' : World} {fi h : Nat} {vw vp : Value} {W P : List Int} {G : Nat → Prop}
theorem Fi.c0 (F : Fi w fi h vw vp W P) : w.cell? ⟨fi, 0, none⟩ = some (.pointer (some ⟨h, 0, none⟩)) := cell_of_row _ _ 0 _ _ _ F.box
theorem Fi.c1 (F : Fi w fi h vw vp W P) : w.cell? ⟨fi, 1, none⟩ = some vw := cell_of_row _ _ 1 _ _ _ F.box
theorem Fi.c2 (F : Fi w fi h vw vp W P) : w.cell? ⟨fi, 2, none⟩ = some vp := cell_of_row _ _ 2 _ _ _ F.box
theorem Fi.fr (F : Fi w fi h vw vp W P) (i : Nat) : w.frozen? ⟨fi, i, none⟩ = false := frozen_of_row _ _ _ _ _ F.box
theorem Fi.frame (F : Fi w fi h vw vp W P) (hf : Frame w w' G) (hG : ∀ k, FiFoot fi vw vp k → ¬ G k) : Fi w' fi h vw vp W P :=
  ⟨hf.heap F.box (hG _ (.inl rfl)), hf.owns F.ow (fun k hk => hG k (.inr (.inl hk))), hf.owns F.op (fun k hk => hG k (.inr (.inr hk))), F.ne⟩
theorem Fi.below (F : Fi w fi h vw vp W P) (hb : Below w.heap.size w w') : Fi w' fi h vw vp W P := F.frame (G := fun _ => False) (Frame.of_below hb) (fun _ _ e => e)
theorem Fi.wne (F : Fi w fi h vw vp W P) : vw.ownBlock ≠ some fi := own_ne F.ow F.box (by decide)
theorem Fi.pne (F : Fi w fi h vw vp W P) : vp.ownBlock ≠ some fi := own_ne F.op F.box (by decide)
theorem Fi.foot_lt (F : Fi w fi h vw vp W P) {k : Nat} (hk : FiFoot fi vw vp k) : k < w.heap.size := by
  rcases hk with rfl | hk | hk
  · exact lt_of_block F.box
  · exact (F.ow.lt k hk).2
  · exact (F.op.lt k hk).2
theorem Fi.setW (F : Fi w fi h vw vp W P) {v : Value} {X : List Int} (hv : w.ownsRow 0 3 1 v X.length (X.map (Value.int .i64))) (hne : ∀ k, v.ownBlock = some k → vp.ownBlock ≠ some k) : Fi (w.setCell ⟨fi, 1, none⟩ v) fi h v vp X P := by
  have hf := frame_set (w := w) (b := fi) 1 v
  have hx : v.ownBlock ≠ some fi := own_ne hv F.box (by decide)
  refine ⟨?_, hf.owns hv (fun k hk e => hx (e ▸ hk)), hf.owns F.op (fun k hk e => F.pne (e ▸ hk)), hne⟩
  rw [heap_setCell_same w fi 1 _ _ _ F.box]; rfl
theorem Fi.setP (F : Fi w fi h vw vp W P) {v : Value} {X : List Int} (hv : w.ownsRow 0 3 1 v X.length (X.map (Value.int .i64))) (hne : ∀ k, vw.ownBlock = some k → v.ownBlock ≠ some k) : Fi (w.setCell ⟨fi, 2, none⟩ v) fi h vw v W X := by
  have hf := frame_set (w := w) (b := fi) 2 v
  have hx : v.ownBlock ≠ some fi := own_ne hv F.box (by decide)
  refine ⟨?_, hf.owns F.ow (fun k hk e => F.wne (e ▸ hk)), hf.owns hv (fun k hk e => hx (e ▸ hk)), hne⟩
  rw [heap_setCell_same w fi 2 _ _ _ F.box]; rfl
end
/-- What a function of the finalizers leaves. -/
def FiTo (fi h : Nat) (vw vp vw' vp' : Value) (W P : List Int) (w w' : World) : Prop :=
  Fi w' fi h vw' vp' W P ∧ Frame w w' (FiFoot fi vw vp) ∧ ∀ k, FiFoot fi vw' vp' k → k < w.heap.size → FiFoot fi vw vp k
def FiOut (fi h : Nat) (vw vp : Value) (W P : List Int) (w w' : World) : Prop := ∃ vw' vp', FiTo fi h vw vp vw' vp' W P w w'
theorem FiTo.trans {w w1 w2 : World} {fi h : Nat} {vw vp v1 p1 : Value} {W P W2 P2 : List Int} (h1 : FiTo fi h vw vp v1 p1 W P w w1) (h2 : FiOut fi h v1 p1 W2 P2 w1 w2) : FiOut fi h vw vp W2 P2 w w2 := by
  obtain ⟨F1, f1, g1⟩ := h1
  obtain ⟨v2, p2, F2, f2, g2⟩ := h2
  exact ⟨v2, p2, F2, f1.trans f2 (fun k hk e => g1 k e hk), fun k hk hlt => g1 k (g2 k hk (Nat.lt_of_lt_of_le hlt f1.size)) hlt⟩
theorem finNew_c (w : World) (h : Nat) : Calls Tryz.prog 18 #[.pointer (some ⟨h, 0, none⟩)] w fun e w' => e = .returned (.pointer (some ⟨w.heap.size, 0, none⟩)) ∧ Fi w' w.heap.size h (.slice none 0 0) (.slice none 0 0) [] [] ∧ Below w.heap.size w w' := by
  go_enter Tryz.func18, Tryz.ntmps18
  go_wp2
  go_ret
  exact ⟨rfl, ⟨heap_alloc_new _ _, World.ownsRow_nil _ _ _ _, World.ownsRow_nil _ _ _ _, fun k hk => by cases hk⟩, (Below.refl _ _).alloc (Nat.le_refl _) _⟩
/-- A copy of a slice of the call's own. -/
theorem clone_own (w : World) (B n : Nat) (v : Value) (xs : List Int) (hown : w.ownsRow B 3 1 v n (xs.map (Value.int .i64))) (hn : n ≤ 1000000) :
    Calls Tryz.prog 108 #[v] w fun e w' => ∃ v', e = .returned v' ∧ w'.ownsRow w.heap.size 3 1 v' n (xs.map (Value.int .i64)) ∧ Below w.heap.size w w' := by
  have hl : xs.length = n := by have := hown.1; simpa using this
  subst hl
  rcases hown.2 with ⟨rfl, h0⟩ | ⟨g, cap, cur, rfl, hB, hgb, r1, r2, r3, r4⟩
  · refine (Tryz.slices_Clone_int_nil 0 0 w).mono ?_
    rintro e w' ⟨rfl, rfl⟩
    obtain rfl : xs = [] := List.eq_nil_of_length_eq_zero h0
    exact ⟨_, rfl, World.ownsRow_nil _ _ _ _, Below.refl _ _⟩
  · rcases Nat.eq_zero_or_pos xs.length with h0 | h0
    · obtain rfl : xs = [] := List.eq_nil_of_length_eq_zero h0
      refine (Tryz.slices_Clone_int_zero ⟨g, 0, none⟩ cap w).mono ?_
      rintro e w' ⟨v', rfl, h1, _, h2⟩
      exact ⟨_, rfl, h1, h2⟩
    · refine (Tryz.slices_Clone_int g 0 xs.length cap xs w (Nat.le_refl _) (by omega) (fun j hj => ?_)).mono ?_
      · rw [Nat.zero_add, hown.cellAt j (by omega), List.getElem?_map, List.getElem?_eq_getElem hj]
        simp [List.getD_eq_getElem?_getD, List.getElem?_eq_getElem hj]
      · rintro e w' ⟨v', rfl, h1, _, h2⟩
        rw [List.take_of_length_le (Nat.le_refl _)] at h1
        exact ⟨_, rfl, h1, h2⟩
section
variable (w : World) {fi h : Nat} {vw vp : Value} {W P : List Int} (F : Fi w fi h vw vp W P)
include F
theorem finals_c (hn : W.length ≤ 1000000) : Calls Tryz.prog 81 #[.pointer (some ⟨fi, 0, none⟩)] w fun e w' => ∃ v', e = .returned v' ∧ w'.ownsRow w.heap.size 3 1 v' W.length (W.map (Value.int .i64)) ∧ Below w.heap.size w w' := by
  have HC := Lib.hid (clone_own w 0 _ _ _ F.ow hn)
  have c1 := F.c1
  obtain ⟨A, c, rfl⟩ := own_form F.ow
  clear F
  go_enter Tryz.func81, Tryz.ntmps81
  go_wp2_with (go_at_call 108; refine HC.out.mono ?_; rintro e w1 ⟨v', rfl, ho, hb⟩; obtain ⟨A', c', rfl⟩ := own_form ho; have HO := Lib.hid ho; have HB := Lib.hid hb; clear ho hb)
  go_ret
  exact ⟨_, rfl, HO.out, HB.out⟩
theorem pending_c (hn : P.length ≤ 1000000) : Calls Tryz.prog 69 #[.pointer (some ⟨fi, 0, none⟩)] w fun e w' => ∃ v', e = .returned v' ∧ w'.ownsRow w.heap.size 3 1 v' P.length (P.map (Value.int .i64)) ∧ Below w.heap.size w w' := by
  have HC := Lib.hid (clone_own w 0 _ _ _ F.op hn)
  have c2 := F.c2
  obtain ⟨A, c, rfl⟩ := own_form F.op
  clear F
  go_enter Tryz.func69, Tryz.ntmps69
  go_wp2_with (go_at_call 108; refine HC.out.mono ?_; rintro e w1 ⟨v', rfl, ho, hb⟩; obtain ⟨A', c', rfl⟩ := own_form ho; have HO := Lib.hid ho; have HB := Lib.hid hb; clear ho hb)
  go_ret
  exact ⟨_, rfl, HO.out, HB.out⟩
end
/-- The finalizers behind an append to those that wait. -/
theorem Fi.pushW {w1 w3 : World} {fi h : Nat} {vw vp v : Value} {W P : List Int} {o : Obj} {x : Int} (F : Fi w1 fi h vw vp W P) (ho : w3.ownsRow 0 3 1 v (W.length + 1) (W.map (Value.int .i64) ++ [x].map (Value.int .i64))) (hg : (w1.alloc o).grownBy w3 vw.ownBlock)
    (ha : v.ownBlock = vw.ownBlock ∨ v.ownBlock = some (w1.alloc o).heap.size) : FiOut fi h vw vp (W ++ [x]) P w1 (w3.setCell ⟨fi, 1, none⟩ v) := by
  have hsz : w1.heap.size ≤ (w1.alloc o).heap.size := by simp
  have hf : Frame w1 w3 (fun k => vw.ownBlock = some k) := ((Frame.refl w1 _).alloc o).trans (Frame.of_grown hg (F := fun k => vw.ownBlock = some k) (fun k _ e => e)) (fun _ _ e => e)
  have F1 : w3.heap[fi]? = some (.cells #[.pointer (some ⟨h, 0, none⟩), vw, vp] 80 (0, 0)) := hf.heap F.box F.wne
  have hp : w3.ownsRow 0 3 1 vp P.length (P.map (Value.int .i64)) := hf.owns F.op (fun k hk e => F.ne k e hk)
  have ho2 : w3.ownsRow 0 3 1 v (W ++ [x]).length ((W ++ [x]).map (Value.int .i64)) := by simpa using ho
  have hne : ∀ k, v.ownBlock = some k → vp.ownBlock ≠ some k := by
    intro k hk hk2
    rcases ha with e | e
    · exact F.ne k (e ▸ hk) hk2
    · rw [hk] at e
      injection e with e
      have := (F.op.lt k hk2).2
      omega
  have hx : v.ownBlock ≠ some fi := own_ne ho2 F1 (by decide)
  have hf2 := frame_set (w := w3) (b := fi) 1 v
  refine ⟨v, vp, ⟨?_, hf2.owns ho2 (fun k hk e => hx (e ▸ hk)), hf2.owns hp (fun k hk e => F.pne (e ▸ hk)), hne⟩, (hf.mono (G := FiFoot fi vw vp) (fun k _ e => .inr (.inl e))).trans hf2 (fun k _ e => .inl e), fun k hk hlt => ?_⟩
  · rw [heap_setCell_same w3 fi 1 _ _ _ F1]; rfl
  · rcases hk with hk | hk | hk
    · exact .inl hk
    · rcases ha with e | e
      · exact .inr (.inl (e ▸ hk))
      · rw [hk] at e
        injection e with e
        omega
    · exact .inr (.inr hk)
theorem Fi.pushP {w1 w3 : World} {fi h : Nat} {vw vp v : Value} {W P : List Int} {o : Obj} {x : Int} (F : Fi w1 fi h vw vp W P) (ho : w3.ownsRow 0 3 1 v (P.length + 1) (P.map (Value.int .i64) ++ [x].map (Value.int .i64))) (hg : (w1.alloc o).grownBy w3 vp.ownBlock)
    (ha : v.ownBlock = vp.ownBlock ∨ v.ownBlock = some (w1.alloc o).heap.size) : FiOut fi h vw vp W (P ++ [x]) w1 (w3.setCell ⟨fi, 2, none⟩ v) := by
  have hsz : w1.heap.size ≤ (w1.alloc o).heap.size := by simp
  have hf : Frame w1 w3 (fun k => vp.ownBlock = some k) := ((Frame.refl w1 _).alloc o).trans (Frame.of_grown hg (F := fun k => vp.ownBlock = some k) (fun k _ e => e)) (fun _ _ e => e)
  have F1 : w3.heap[fi]? = some (.cells #[.pointer (some ⟨h, 0, none⟩), vw, vp] 80 (0, 0)) := hf.heap F.box F.pne
  have hp : w3.ownsRow 0 3 1 vw W.length (W.map (Value.int .i64)) := hf.owns F.ow (fun k hk e => F.ne k hk e)
  have ho2 : w3.ownsRow 0 3 1 v (P ++ [x]).length ((P ++ [x]).map (Value.int .i64)) := by simpa using ho
  have hne : ∀ k, vw.ownBlock = some k → v.ownBlock ≠ some k := by
    intro k hk2 hk
    rcases ha with e | e
    · exact F.ne k hk2 (e ▸ hk)
    · rw [hk] at e
      injection e with e
      have := (F.ow.lt k hk2).2
      omega
  have hx : v.ownBlock ≠ some fi := own_ne ho2 F1 (by decide)
  have hf2 := frame_set (w := w3) (b := fi) 2 v
  refine ⟨vw, v, ⟨?_, hf2.owns hp (fun k hk e => F.wne (e ▸ hk)), hf2.owns ho2 (fun k hk e => hx (e ▸ hk)), hne⟩, (hf.mono (G := FiFoot fi vw vp) (fun k _ e => .inr (.inr e))).trans hf2 (fun k _ e => .inl e), fun k hk hlt => ?_⟩
  · rw [heap_setCell_same w3 fi 2 _ _ _ F1]; rfl
  · rcases hk with hk | hk | hk
    · exact .inl hk
    · exact .inr (.inl hk)
    · rcases ha with e | e
      · exact .inr (.inr (e ▸ hk))
      · rw [hk] at e
        injection e with e
        omega
theorem FiOut.trans {w w1 w2 : World} {fi h : Nat} {vw vp : Value} {W P W2 P2 : List Int} (h1 : FiOut fi h vw vp W P w w1) (h2 : ∀ vw' vp', Fi w1 fi h vw' vp' W P → FiOut fi h vw' vp' W2 P2 w1 w2) : FiOut fi h vw vp W2 P2 w w2 := by
  obtain ⟨v1, p1, F1, f1, g1⟩ := h1
  obtain ⟨v2, p2, F2, f2, g2⟩ := h2 v1 p1 F1
  exact ⟨v2, p2, F2, f1.trans f2 (fun k hk e => g1 k e hk), fun k hk hlt => g1 k (g2 k hk (Nat.lt_of_lt_of_le hlt f1.size)) hlt⟩
theorem FiOut.ahead {w w1 w2 : World} {fi h : Nat} {vw vp : Value} {W2 P2 : List Int} (hb : Below w.heap.size w w1) (h2 : FiOut fi h vw vp W2 P2 w1 w2) : FiOut fi h vw vp W2 P2 w w2 := by
  obtain ⟨v2, p2, F2, f2, g2⟩ := h2
  exact ⟨v2, p2, F2, (Frame.of_below hb).trans f2 (fun k hk e => e), fun k hk hlt => g2 k hk (Nat.lt_of_lt_of_le hlt hb.size)⟩
/-- The finalizers behind a removal. -/
theorem Fi.cutW {w1 w3 : World} {fi h g c : Nat} {vw vp : Value} {W P X : List Int} (F : Fi w1 fi h vw vp W P) (hv : vw = .slice (some ⟨g, 0, none⟩) W.length c) (ho : w3.ownsRow 0 3 1 (.slice (some ⟨g, 0, none⟩) X.length c) X.length (X.map (Value.int .i64))) (hf : Frame w1 w3 (fun k => k = g)) : FiTo fi h vw vp (.slice (some ⟨g, 0, none⟩) X.length c) vp X P w1 (w3.setCell ⟨fi, 1, none⟩ (.slice (some ⟨g, 0, none⟩) X.length c)) := by
  have hg : vw.ownBlock = some g := by rw [hv]; rfl
  have F1 := hf.heap F.box (fun e => F.wne (e ▸ hg))
  have hp : w3.ownsRow 0 3 1 vp P.length (P.map (Value.int .i64)) := hf.owns F.op (fun k hk e => F.ne g hg (e ▸ hk))
  have hx : (Value.slice (some ⟨g, 0, none⟩) X.length c).ownBlock ≠ some fi := own_ne ho F1 (by decide)
  have hf2 := frame_set (w := w3) (b := fi) 1 (.slice (some ⟨g, 0, none⟩) X.length c)
  refine ⟨⟨?_, hf2.owns ho (fun k hk e => hx (e ▸ hk)), hf2.owns hp (fun k hk e => F.pne (e ▸ hk)), fun k hk => F.ne k (by rw [hg]; exact hk)⟩, (hf.mono (G := FiFoot fi vw vp) (fun k _ e => .inr (.inl (by rw [e, hg])))).trans hf2 (fun k _ e => .inl e), fun k hk hlt => ?_⟩
  · rw [heap_setCell_same w3 fi 1 _ _ _ F1]; rfl
  · rcases hk with hk | hk | hk
    · exact .inl hk
    · exact .inr (.inl (by rw [hg]; exact hk))
    · exact .inr (.inr hk)
theorem Fi.cutP {w1 w3 : World} {fi h g c : Nat} {vw vp : Value} {W P X : List Int} (F : Fi w1 fi h vw vp W P) (hv : vp = .slice (some ⟨g, 0, none⟩) P.length c) (ho : w3.ownsRow 0 3 1 (.slice (some ⟨g, 0, none⟩) X.length c) X.length (X.map (Value.int .i64))) (hf : Frame w1 w3 (fun k => k = g)) : FiTo fi h vw vp vw (.slice (some ⟨g, 0, none⟩) X.length c) W X w1 (w3.setCell ⟨fi, 2, none⟩ (.slice (some ⟨g, 0, none⟩) X.length c)) := by
  have hg : vp.ownBlock = some g := by rw [hv]; rfl
  have F1 := hf.heap F.box (fun e => F.pne (e ▸ hg))
  have hp : w3.ownsRow 0 3 1 vw W.length (W.map (Value.int .i64)) := hf.owns F.ow (fun k hk e => F.ne k hk (by rw [e]; exact hg))
  have hx : (Value.slice (some ⟨g, 0, none⟩) X.length c).ownBlock ≠ some fi := own_ne ho F1 (by decide)
  have hf2 := frame_set (w := w3) (b := fi) 2 (.slice (some ⟨g, 0, none⟩) X.length c)
  refine ⟨⟨?_, hf2.owns hp (fun k hk e => F.wne (e ▸ hk)), hf2.owns ho (fun k hk e => hx (e ▸ hk)), fun k hk e => F.ne k hk (by rw [hg]; exact e)⟩, (hf.mono (G := FiFoot fi vw vp) (fun k _ e => .inr (.inr (by rw [e, hg])))).trans hf2 (fun k _ e => .inl e), fun k hk hlt => ?_⟩
  · rw [heap_setCell_same w3 fi 2 _ _ _ F1]; rfl
  · rcases hk with hk | hk | hk
    · exact .inl hk
    · exact .inr (.inl hk)
    · exact .inr (.inr (by rw [hg]; exact hk))
end Go.Proofs.YtibgbahaldojiaaGreat.Fns
