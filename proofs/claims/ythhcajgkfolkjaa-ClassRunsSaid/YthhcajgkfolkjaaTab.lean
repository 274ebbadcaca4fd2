/- What each method of a table of classes does to the world. -/
import Derived.Test.YthhcajgkfolkjaaMay
namespace Go.Proofs.Ythhcajgkfolkjaa.Fns
open Go Go.RowKit

/-- A class in memory: its fields, its slice of addresses, what they are. -/
structure Cl where
  f : Int
  v : Value
  xs : List Int
def clCells (l : List Cl) : List Value := l.flatMap fun c => [.int .i64 c.f, c.v]
/-- Block g holds a table of these classes; v: its slice. -/
structure Tb (w : World) (B g : Nat) (v : Value) (l : List Cl) : Prop where
  base : B ≤ g
  cells : w.heap[g]? = some (.cells #[v] 44 (0, 0))
  owns : w.ownsRow B 26 2 v l.length (clCells l)
  refs : ∀ c ∈ l, w.ownsRow B 3 1 c.v c.xs.length (c.xs.map (Value.int .i64))
section
variable {w w' : World} {B g : Nat} {v : Value} {l : List Cl}
theorem Tb.c0 (h : Tb w B g v l) : w.cell? ⟨g, 0, none⟩ = some v := cell_of_row w g 0 _ _ _ h.cells
theorem Tb.fr (h : Tb w B g v l) : w.frozen? ⟨g, 0, none⟩ = false := frozen_of_row w g 0 _ _ h.cells
theorem Tb.ne (h : Tb w B g v l) : v.ownBlock ≠ some g := own_ne h.owns h.cells (by decide)
theorem Tb.frame {F : Nat → Prop} (h : Tb w B g v l) (hf : Frame w w' F) (h1 : ¬ F g) (h2 : ∀ k, v.ownBlock = some k → ¬ F k) (h3 : ∀ c ∈ l, ∀ k, c.v.ownBlock = some k → ¬ F k) : Tb w' B g v l :=
  ⟨h.base, hf.heap h.cells h1, hf.owns h.owns h2, fun c hc => hf.owns (h.refs c hc) (h3 c hc)⟩
theorem Tb.below (h : Tb w B g v l) (hb : Below w.heap.size w w') : Tb w' B g v l :=
  h.frame (F := fun _ => False) (Frame.of_below hb) (fun e => e) (fun _ _ e => e) (fun _ _ _ _ e => e)
theorem Tb.form (h : Tb w B g v l) : ∃ A c, v = .slice A l.length c := by
  rcases h.owns.2 with ⟨rfl, h0⟩ | ⟨b, cap, _, rfl, _⟩
  · exact ⟨none, 0, by rw [h0]⟩
  · exact ⟨_, _, rfl⟩
end

theorem new_c (w : World) : Calls Try.prog 7 #[] w fun e w' => e = .returned (.pointer (some ⟨w.heap.size, 0, none⟩)) ∧ Tb w' w.heap.size w.heap.size (.slice none 0 0) [] ∧ Below w.heap.size w w' := by
  go_enter Try.func7, Try.ntmps7
  go_wp2
  go_ret
  exact ⟨rfl, ⟨Nat.le_refl _, heap_alloc_new w _, World.ownsRow_nil _ _ _ _, by simp⟩, (Below.refl _ _).alloc (Nat.le_refl _) _⟩
theorem classes_c (w : World) {B g : Nat} {v : Value} {l : List Cl} (h : Tb w B g v l) (z : Int) (hz : (l.length : Int) = z) : Calls Try.prog 10 #[.pointer (some ⟨g, 0, none⟩)] w fun e w' => e = .returned (.int .i64 z) ∧ w = w' := by
  have h0 := h.c0
  obtain ⟨A, c, rfl⟩ := h.form
  subst hz
  clear h
  go_enter Try.func10, Try.ntmps10
  go_wp2
  go_ret
  exact ⟨rfl, rfl⟩
theorem classes_nil (w : World) : Calls Try.prog 10 #[.pointer none] w fun e w' => e = .returned (.int .i64 0) ∧ w = w' := by
  go_enter Try.func10, Try.ntmps10
  go_wp2
  go_ret
  exact ⟨rfl, rfl⟩
theorem add_bad (w : World) (g : Nat) (f : Int) (C : Nat) (A : Option Addr) (n c : Nat) (xs : List Int) (hx : Ints w C A n xs) (hC : C ≤ w.heap.size) (hn : n ≤ 100000) (hb : mayB f xs = false) :
    Calls Try.prog 8 #[.pointer (some ⟨g, 0, none⟩), .agg #[.int .i64 f, .slice A n c]] w fun e w' => e = .returned (.tuple #[.int .i64 0, .int .i64 1]) ∧ Below w.heap.size w w' := by
  obtain ⟨k0, k1, hx, hbel⟩ := box_keeps w (.int .i64 f) (.slice A n c) hx hC
  have HX := Lib.hid hx
  have HW := Lib.hid hbel
  have HC := Lib.hid (Nat.le_trans hC hbel.size)
  clear hx hbel
  go_enter Try.func8, Try.ntmps8
  go_wp2_with (go_at_call 16; refine (may_c _ f C A n c xs false HX.out HC.out hn hb).mono ?_; rintro e w1 ⟨rfl, hb1⟩; have HB1 := Lib.hid hb1; clear hb1)
  refine bodyPost_ret (v := .tuple #[.int .i64 0, .int .i64 1]) (by simp [results, Try.results8, go_sem]) rfl ⟨rfl, HW.out.trans (HB1.out.mono HW.out.size)⟩
theorem add_nil (w : World) (u : Value) (f : Int) : Calls Try.prog 8 #[.pointer none, .agg #[.int .i64 f, u]] w fun e w' => e = .returned (.tuple #[.int .i64 0, .int .i64 2]) ∧ Below w.heap.size w w' := by
  go_enter Try.func8, Try.ntmps8
  go_wp2
  refine bodyPost_ret (v := .tuple #[.int .i64 0, .int .i64 2]) (by simp [results, Try.results8, go_sem]) rfl ⟨rfl, (Below.refl _ _).alloc (Nat.le_refl _) _⟩
theorem own_apart {w : World} {B1 B2 e1 e2 s1 s2 n1 n2 k : Nat} {v1 v2 : Value} {x1 x2 : List Value} (h1 : w.ownsRow B1 e1 s1 v1 n1 x1) (h2 : w.ownsRow B2 e2 s2 v2 n2 x2) (he : e1 ≠ e2) (hk : v1.ownBlock = some k) : v2.ownBlock ≠ some k := by
  rcases h1.2 with ⟨rfl, _⟩ | ⟨b, cap, cur, rfl, _, hh, _⟩
  · simp [Value.ownBlock] at hk
  · obtain rfl : b = k := by simpa [Value.ownBlock] using hk
    exact own_ne h2 hh (Ne.symm he)
theorem Tb.drew {w : World} {B g : Nat} {v : Value} {l : List Cl} (h : Tb w B g v l) : Tb w.drew B g v l := ⟨h.base, h.cells, h.owns, h.refs⟩
theorem Tb.add_end {w2 w3 : World} {B g : Nat} {v v3 v2 : Value} {l : List Cl} {o : Obj} {f : Int} {xs : List Int} (h : Tb w2 B g v l) (ho : w3.ownsRow B 26 2 v3 (l.length + 1) (clCells l ++ [.int .i64 f, v2]))
    (hg : (w2.alloc o).grownBy w3 v.ownBlock) (hr : w2.ownsRow B 3 1 v2 xs.length (xs.map (Value.int .i64))) :
    Tb (w3.setCell ⟨g, 0, none⟩ v3) B g v3 (l ++ [⟨f, v2, xs⟩]) ∧ Frame w2 (w3.setCell ⟨g, 0, none⟩ v3) (fun k => k = g ∨ v.ownBlock = some k) ∧ w3.cell? ⟨g, 0, none⟩ = some v ∧ w3.frozen? ⟨g, 0, none⟩ = false ∧ (w3.setCell ⟨g, 0, none⟩ v3).cell? ⟨g, 0, none⟩ = some v3 := by
  have f1 : Frame w2 w3 (fun k => v.ownBlock = some k) := ((Frame.refl w2 _).alloc o).trans (Frame.of_grown hg (fun k _ e => e)) (fun k _ e => e)
  have hc : w3.heap[g]? = some (.cells #[v] 44 (0, 0)) := f1.heap h.cells h.ne
  have f2 : Frame w3 (w3.setCell ⟨g, 0, none⟩ v3) (fun k => k = g) := Frame.setCell (F := fun k => k = g) (Frame.refl w3 _) (p := ⟨g, 0, none⟩) (fun _ => rfl) _
  have hc4 : (w3.setCell ⟨g, 0, none⟩ v3).heap[g]? = some (.cells #[v3] 44 (0, 0)) := by rw [heap_setCell_same w3 g 0 _ _ _ hc]; rfl
  have f3 : Frame w2 (w3.setCell ⟨g, 0, none⟩ v3) (fun k => k = g ∨ v.ownBlock = some k) := (f1.mono (fun _ _ e => Or.inr e)).trans f2 (fun k _ e => Or.inl e)
  have keep : ∀ (u : Value) (n : Nat) (ys : List Value), w2.ownsRow B 3 1 u n ys → (w3.setCell ⟨g, 0, none⟩ v3).ownsRow B 3 1 u n ys := fun u n ys hu =>
    f3.owns hu (fun k hk e => by
      rcases e with rfl | e
      · exact own_ne hu h.cells (by decide) hk
      · exact own_apart hu h.owns (by decide) hk e)
  refine ⟨⟨h.base, hc4, ?_, fun c hc => ?_⟩, f3, cell_of_row _ g 0 _ _ _ hc, frozen_of_row _ g 0 _ _ hc, cell_of_row _ g 0 _ _ _ hc4⟩
  · have e : clCells (l ++ [⟨f, v2, xs⟩]) = clCells l ++ [.int .i64 f, v2] := by simp [clCells]
    rw [e, List.length_append]
    exact f2.owns ho (fun k hk e => own_ne ho hc (by decide) (e ▸ hk))
  · rcases List.mem_append.1 hc with hc | hc
    · exact keep _ _ _ (h.refs c hc)
    · rw [List.mem_singleton] at hc
      subst hc
      exact keep _ _ _ hr

/-- append of values onto a slice of the call's own, as one step of a region. -/
theorem step_app {P : Program} {w : World} {ops : Array Oper} {o : Oper} {a : Act} {K : Act → World → Prop} {Q : Exit → Act → World → Prop} {E : Prop} (hgd : o.guard = none) (s x : Operand) (t : TypeId)
    (ho : o.op = .call { callee := .builtin .append, args := #[s, x], argTypes := #[t, t] })
    (base e : Nat) (i : TypeInfo) (z : Value) (size bytes : Nat) (ht : P.underlying t = some (.slice e)) (hi : P.info? e = some i) (hz : i.zero = some z) (hsize : i.size = size) (hby : i.bytes = bytes) (hzs : z.cells.size = size) (hsz : 0 < size)
    (v : Value) (n : Nat) (xs : List Value) (hs : a.eval s = v) (hown : w.ownsRow base e size v n xs)
    (ad : Addr) (m c : Nat) (news : List Value) (hx : a.eval x = .slice (some ad) m c) (hl : news.length = m * size) (hnews : ∀ j u, news[j]? = some u → w.cell? (ad.add j) = some u) (h1 : ∀ u ∈ news, u.oneCell' = true)
    (h63 : n + m ≤ maxLen) (hb : (n + m) * bytes ≤ 140737488355328) (hbase : base ≤ w.heap.size)
    (h : ∀ v' w', w'.ownsRow base e size v' (n + m) (xs ++ news) → w.grownBy w' v.ownBlock → (v'.ownBlock = v.ownBlock ∨ v'.ownBlock = some w.heap.size) → K (a.put o.dst v') w') :
    if Region.wanted o (yielded ops a.tmps) = true then Oper.wp P o a w K Q else E := by
  have hw : Region.wanted o (yielded ops a.tmps) = true := by simp [Region.wanted, hgd]
  rw [if_pos hw]
  obtain ⟨v', w', hrun, a1, a2, _, a4⟩ := run_append_own_at (P := P) w base t o.type e i z size bytes ht hi hz hsize hby hzs hsz v n xs hown ad m c news hl hnews h1 h63 hb hbase
  unfold Oper.wp execOp
  simp only [ho, resolve, invoke, builtin, Sem.run_bind, Sem.run_pure, Result.andThen_ok, List.map_toArray, List.map_cons, List.map_nil, hs, hx, hrun]
  exact h v' w' a1 a2 a4
theorem two_cells (w : World) (a b : Value) (t : TypeId) : ∀ j u, [a, b][j]? = some u → (w.alloc (.cells #[a, b] t)).cell? ((⟨w.heap.size, 0, none⟩ : Addr).add j) = some u := by
  intro j u hj
  have hlt : j < 2 := by have := (List.getElem?_eq_some_iff.1 hj).1; simpa using this
  have e : ((⟨w.heap.size, 0, none⟩ : Addr).add j) = ⟨w.heap.size, j, none⟩ := by
    unfold Addr.add
    split
    · rename_i h; subst h; rfl
    · simp
  rw [e, cell_of_row (w.alloc (.cells #[a, b] t)) w.heap.size j _ _ _ (heap_alloc_new w _), ← hj]
  simp
theorem form2 {w : World} {base n : Nat} {v : Value} {xs : List Value} (h : w.ownsRow base 26 2 v n xs) : ∃ A c, v = .slice A n c := by
  rcases h.2 with ⟨rfl, h0⟩ | ⟨b, cap, _, rfl, _⟩
  · exact ⟨none, 0, by rw [h0]⟩
  · exact ⟨_, _, rfl⟩
end Go.Proofs.Ythhcajgkfolkjaa.Fns
