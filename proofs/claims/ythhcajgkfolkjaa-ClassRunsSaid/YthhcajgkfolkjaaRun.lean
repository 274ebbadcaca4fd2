/- An argument that is a slice of classes; a table, and beside it the slice that ought to hold the same. -/
import Derived.Test.YthhcajgkfolkjaaAddr
namespace Go.Proofs.Ythhcajgkfolkjaa
open Go.ChangeShapes Go.WideShapes Go.Deep Go.RowKit
/-- A class that came in: its fields, its slice of addresses, what they are. -/
structure Arg where
  f : Int
  a : Option Addr
  n : Nat
  c : Nat
  xs : List Int
instance : Inhabited Arg := ⟨⟨0, none, 0, 0, []⟩⟩
/-- Element i of a slice at ad reads as r. -/
structure ArgAt (w : World) (B : Nat) (ad : Addr) (i : Nat) (r : Arg) : Prop where
  lt : ad.block < B
  c0 : w.cell? (ad.add (i * 2)) = some (.int .i64 r.f)
  c1 : w.cell? (ad.add (i * 2 + 1)) = some (.slice r.a r.n r.c)
  ints : Ints w B r.a r.n r.xs
  cap : r.n ≤ r.c
  most : r.c ≤ maxLen
  wf : -9223372036854775808 ≤ r.f ∧ r.f ≤ 9223372036854775807
theorem ArgAt.below {w w' : World} {B : Nat} {ad : Addr} {i : Nat} {r : Arg} (h : ArgAt w B ad i r) (hb : Below B w w') : ArgAt w' B ad i r :=
  ⟨h.lt, (hb.cell (by rw [block_of_add]; exact h.lt)).trans h.c0, (hb.cell (by rw [block_of_add]; exact h.lt)).trans h.c1, h.ints.below hb (Nat.le_refl _), h.cap, h.most, h.wf⟩
theorem two_of {α : Type} (l : List α) (h : l.length = 2) : ∃ a b, l = [a, b] := by
  match l, h with
  | [a, b], _ => exact ⟨a, b, rfl⟩
theorem class_of {H : Type} {enc : TypeId × Value → H} {W : World} {base : Nat} {held : Bool} {fuel : Nat} {cs : List Value} {x : DataW H × List MemPlace}
    (h : DataW.trod enc Try.prog W base (fun _ => true) held fuel 26 cs = some x) : ∃ r : Arg, cs = [.int .i64 r.f, .slice r.a r.n r.c] ∧ Ints W W.heap.size r.a r.n r.xs ∧ r.n ≤ r.c ∧ r.c ≤ maxLen ∧ -9223372036854775808 ≤ r.f ∧ r.f ≤ 9223372036854775807 := by
  obtain ⟨xs, n, _, _, hcl, hlen, hg⟩ := DataW.trod_struct Try.underlying26 h
  have hC : Try.prog.cellsOf 26 = 2 := by kernel_rfl
  have c3 : Try.prog.cellsOf 3 = 1 := by kernel_rfl
  have c24 : Try.prog.cellsOf 24 = 1 := by kernel_rfl
  obtain ⟨a, b, rfl⟩ := two_of cs (hcl.trans hC)
  obtain ⟨x0, x1, rfl⟩ := two_of xs hlen
  have g0 : DataW.trod enc Try.prog W base (fun _ => true) held n 3 [a] = some x0 := by have := hg 0 _ rfl; simpa [c3] using this
  have g1 : DataW.trod enc Try.prog W base (fun _ => true) held n 24 [b] = some x1 := by have := hg 1 _ rfl; simpa [c3, c24] using this
  obtain ⟨n0, e0, _, w0⟩ := DataW.trod_int Try.underlying3 g0
  simp at e0
  subst e0
  rcases open_ints Try.underlying24 Try.underlying3 c3 g1 with ⟨hcs, _⟩ | ⟨y, l, c, zs, hcs, _, hl, hm, hz, hx, hcell, hwz⟩
  · simp at hcs
    exact ⟨⟨n0, none, 0, 0, []⟩, by rw [hcs], Ints.nil _ _ _, Nat.le_refl _, by simp [maxLen], bounds_i64 w0⟩
  · simp at hcs
    have hl2 : l ≤ zs.length := by rw [hz]; simpa using hl
    refine ⟨⟨n0, some y, l, c, zs.take l⟩, by rw [hcs], ⟨by simp; omega, fun hn => ⟨y, rfl, ?_, fun k hk => ?_⟩⟩, hl, hm, bounds_i64 w0⟩
    · have := World.block_lt_of_cell? W _ (hcell 0 (by simp only at hn; omega))
      rwa [block_of_add] at this
    · simp only at hk
      rw [hcell k (by omega)]
      congr 2
      simp [List.getD_eq_getElem?_getD, hk]
/-- An argument that is a slice of classes, opened. -/
theorem classes_arg {H : Type} {enc : TypeId × Value → H} {W : World} {base : Nat} {held : Bool} {a : Option Addr} {len cap : Nat} {d : DataW H} {ps : List MemPlace} {ts : List TypeId} {ds : List (DataW H)} {j : Nat} {t : TypeId}
    (_ : (DataW.weightsEach Try.prog ts ds).all (· ≤ reachBytes) = true) (_ : ts[j]? = some t) (_ : ds[j]? = some d) (h : DataW.Trod enc Try.prog W base (fun _ => true) held 27 (.slice a len cap) d ps) :
    ∃ R : Nat → Arg, (∀ i, i < len → ∃ ad, a = some ad ∧ ArgAt W W.heap.size ad i (R i)) ∧ len ≤ cap ∧ cap ≤ maxLen := by
  obtain ⟨fuel, hf⟩ := h
  rcases open_slice Try.underlying27 hf with ⟨hcs, _⟩ | ⟨x, l, c, m, n, D, Pl, hcs, _, hl, hm, hmm, _, hi⟩
  · simp [Value.cells] at hcs
    obtain ⟨rfl, rfl, rfl⟩ := hcs
    exact ⟨fun _ => ⟨0, none, 0, 0, []⟩, fun i hi => absurd hi (by omega), Nat.le_refl _, by simp [maxLen]⟩
  · simp [Value.cells] at hcs
    obtain ⟨rfl, rfl, rfl⟩ := hcs
    have hC : Try.prog.cellsOf 26 = 2 := by kernel_rfl
    rw [hC] at hi
    have hlm : len ≤ m := by rw [hmm]; simpa using hl
    have each : ∀ i, i < len → ∃ r : Arg, ArgAt W W.heap.size x i r := by
      intro i hlt
      obtain ⟨cs', hc, ht⟩ := hi i (by omega)
      obtain ⟨r, rfl, h1, h2, h3, h4⟩ := class_of ht
      obtain ⟨_, _, hat⟩ := World.cells?_some hc
      have e0 := hat 0 (by decide)
      have e1 := hat 1 (by decide)
      rw [Go.Deep.add_add] at e0 e1
      have hb := World.block_lt_of_cell? W _ e0
      rw [block_of_add] at hb
      exact ⟨r, hb, by simpa using e0, by simpa using e1, h1, h2, h3, h4⟩
    obtain ⟨f, hf2⟩ := choose_lt (α := Arg) each
    exact ⟨f, fun i hi => ⟨x, rfl, hf2 i hi⟩, hl, hm⟩
end Go.Proofs.Ythhcajgkfolkjaa
namespace Go.Proofs.Ythhcajgkfolkjaa.Fns
open Go Go.RowKit
def argCells (l : List Arg) : List Value := l.flatMap fun r => [.int .i64 r.f, .slice r.a r.n r.c]
theorem argCells_at (l : List Arg) : ∀ (i : Nat) (r : Arg), l[i]? = some r → (argCells l)[i * 2]? = some (.int .i64 r.f) ∧ (argCells l)[i * 2 + 1]? = some (.slice r.a r.n r.c) := by
  induction l with
  | nil => intro i r h; simp at h
  | cons o l ih =>
    intro i r h
    have e : argCells (o :: l) = [Value.int .i64 o.f, .slice o.a o.n o.c] ++ argCells l := by simp [argCells]
    rw [e]
    cases i with
    | zero => simp at h; subst h; exact ⟨rfl, rfl⟩
    | succ i =>
      have := ih i r (by simpa using h)
      constructor
      · rw [List.getElem?_append_right (by simp; omega), ← this.1]; congr 1; simp; omega
      · rw [List.getElem?_append_right (by simp; omega), ← this.2]; congr 1; simp; omega
/-- A table, and the slice that ought to hold the same; no block is both's. -/
structure Run (w wr : World) (g : Nat) (va : Value) (la : List Cl) (vw : Value) (lw : List Arg) : Prop where
  old : Below w.heap.size w wr
  ta : Tb wr w.heap.size g va la
  ow : wr.ownsRow w.heap.size 26 2 vw lw.length (argCells lw)
  apart : ∀ b, vw.ownBlock = some b → va.ownBlock ≠ some b
  same : la.map (fun c => (c.f, c.xs)) = lw.map (fun r => (r.f, r.xs))
  args : ∀ r ∈ lw, Ints w w.heap.size r.a r.n r.xs ∧ r.n ≤ 40
section
variable {w wr w' : World} {g : Nat} {va vw : Value} {la : List Cl} {lw : List Arg}
theorem Run.len (h : Run w wr g va la vw lw) : la.length = lw.length := by have := congrArg List.length h.same; simpa using this
theorem Run.start {w1 : World} (ht : Tb w1 w.heap.size w.heap.size (.slice none 0 0) []) (hb : Below w.heap.size w w1) : Run w w1 w.heap.size (.slice none 0 0) [] (.slice none 0 0) [] :=
  ⟨hb, ht, World.ownsRow_nil _ _ _ _, fun b hb => by simp [Value.ownBlock] at hb, rfl, by simp⟩
theorem Run.below (h : Run w wr g va la vw lw) (hb : Below wr.heap.size wr w') : Run w w' g va la vw lw :=
  ⟨h.old.trans (hb.mono h.old.size), h.ta.below hb, (Frame.of_below (F := fun _ => False) hb).owns h.ow (fun _ _ e => e), h.apart, h.same, h.args⟩
/-- A class more in the table, ahead of the class more in the slice. -/
structure Half (w wr : World) (g : Nat) (va : Value) (la : List Cl) (vw : Value) (lw : List Arg) (r : Arg) : Prop where
  old : Below w.heap.size w wr
  ta : Tb wr w.heap.size g va la
  ow : wr.ownsRow w.heap.size 26 2 vw lw.length (argCells lw)
  apart : ∀ b, vw.ownBlock = some b → va.ownBlock ≠ some b
  same : la.map (fun c => (c.f, c.xs)) = lw.map (fun r => (r.f, r.xs)) ++ [(r.f, r.xs)]
  args : ∀ r ∈ lw, Ints w w.heap.size r.a r.n r.xs ∧ r.n ≤ 40
theorem Half.below {r : Arg} (h : Half w wr g va la vw lw r) (hb : Below wr.heap.size wr w') : Half w w' g va la vw lw r :=
  ⟨h.old.trans (hb.mono h.old.size), h.ta.below hb, (Frame.of_below (F := fun _ => False) hb).owns h.ow (fun _ _ e => e), h.apart, h.same, h.args⟩
theorem Run.add {va' : Value} {f : Int} {u : Value} {r : Arg} {xs : List Int} (h : Run w wr g va la vw lw) (hf : f = r.f) (hx : xs = r.xs) (ht : Tb w' w.heap.size g va' (la ++ [⟨f, u, xs⟩])) (hfr : Frame wr w' (fun k => k = g ∨ va.ownBlock = some k))
    (ho : va'.ownBlock = va.ownBlock ∨ ∃ b, va'.ownBlock = some b ∧ wr.heap.size ≤ b) : Half w w' g va' (la ++ [⟨f, u, xs⟩]) vw lw r := by
  subst hf; subst hx
  refine ⟨h.old.trans (hfr.below h.old.size fun k _ e => e.elim (fun h1 => h1 ▸ h.ta.base) (fun h1 => own_base h.ta.owns h1)), ht, hfr.owns h.ow (fun k hk e => e.elim (fun h1 => own_ne h.ow h.ta.cells (by decide) (h1 ▸ hk)) (fun h1 => h.apart k hk h1)), fun b hb e => ?_, by simp [h.same], h.args⟩
  rcases ho with ho | ⟨c, ho, hc⟩
  · exact h.apart b hb (ho ▸ e)
  · rw [ho] at e
    injection e with e
    subst e
    rcases h.ow.2 with ⟨h1, _⟩ | ⟨b', _, _, h1, _, hh, _⟩
    · rw [h1] at hb; cases hb
    · rw [h1] at hb
      obtain rfl : b' = c := by simpa [Value.ownBlock] using hb
      have := lt_of_block hh
      omega
theorem Half.push {vw' : Value} {o : Obj} {r : Arg} {n : Nat} (h : Half w wr g va la vw lw r) (ho : w'.ownsRow w.heap.size 26 2 vw' n (argCells lw ++ [.int .i64 r.f, .slice r.a r.n r.c])) (hn : n = lw.length + 1) (hg : (wr.alloc o).grownBy w' vw.ownBlock)
    (hw : vw'.ownBlock = vw.ownBlock ∨ vw'.ownBlock = some (wr.alloc o).heap.size) (hr : Ints w w.heap.size r.a r.n r.xs ∧ r.n ≤ 40) : Run w w' g va la vw' (lw ++ [r]) := by
  subst hn
  have f1 : Frame wr w' (fun k => vw.ownBlock = some k) := ((Frame.refl wr _).alloc o).trans (Frame.of_grown hg (fun k _ e => e)) (fun k _ e => e)
  refine ⟨h.old.trans (f1.below h.old.size fun k _ hk => own_base h.ow hk), h.ta.frame f1 (own_ne h.ow h.ta.cells (by decide)) (fun k hk e => h.apart k e hk) (fun c hc k hk e => own_apart (h.ta.refs c hc) h.ow (by decide) hk e), ?_, fun b hb e => ?_, by simp [h.same], fun r' hr' => ?_⟩
  · have e : argCells (lw ++ [r]) = argCells lw ++ [.int .i64 r.f, .slice r.a r.n r.c] := by simp [argCells]
    rw [e, List.length_append]
    exact ho
  · rcases hw with hw | hw
    · exact h.apart b (hw ▸ hb) e
    · rw [hw] at hb
      injection hb with hb
      rcases h.ta.owns.2 with ⟨h1, _⟩ | ⟨b', _, _, h1, _, hh, _⟩
      · rw [h1] at e; cases e
      · rw [h1] at e
        obtain rfl : b' = b := by simpa [Value.ownBlock] using e
        have := lt_of_block hh
        simp at hb
        omega
  · rcases List.mem_append.1 hr' with h1 | h1
    · exact h.args r' h1
    · rw [List.mem_singleton] at h1
      exact h1 ▸ hr
theorem Run.form (h : Run w wr g va la vw lw) : ∃ A c, vw = .slice A lw.length c := form2 h.ow
theorem Run.elem {b n cp : Nat} (h : Run w wr g va la (.slice (some ⟨b, 0, none⟩) n cp) lw) (i : Nat) (r : Arg) (hr : lw[i]? = some r) : wr.cell? ⟨b, i * 2, none⟩ = some (.int .i64 r.f) ∧ wr.cell? ⟨b, i * 2 + 1, none⟩ = some (.slice r.a r.n r.c) := by
  have hlt : i < lw.length := (List.getElem?_eq_some_iff.1 hr).1
  have ho := h.ow
  obtain rfl : lw.length = n := by
    rcases ho.2 with ⟨h1, _⟩ | ⟨_, _, _, h1, _⟩
    · cases h1
    · injection h1 with _ h1 _; exact h1.symm
  obtain ⟨h0, h1⟩ := argCells_at lw i r hr
  exact ⟨(ho.cellAt (i * 2) (by omega)).trans h0, (ho.cellAt (i * 2 + 1) (by omega)).trans h1⟩
theorem Run.block {A : Option Addr} {n cp : Nat} (h : Run w wr g va la (.slice A n cp) lw) (hn : 0 < n) : ∃ b, A = some ⟨b, 0, none⟩ := by
  rcases h.ow.2 with ⟨h1, h2⟩ | ⟨b, _, _, h1, _⟩
  · injection h1 with _ h3 _; omega
  · injection h1 with h1 _ _; exact ⟨b, h1⟩
theorem Run.at (h : Run w wr g va la vw lw) (i : Nat) (r : Arg) (hr : lw[i]? = some r) : ∃ c, la[i]? = some c ∧ c.f = r.f ∧ c.xs = r.xs := by
  have h1 : (la.map (fun c => (c.f, c.xs)))[i]? = some (r.f, r.xs) := by rw [h.same]; simp [hr]
  rw [List.getElem?_map] at h1
  obtain ⟨c, hc, he⟩ := Option.map_eq_some_iff.1 h1
  exact ⟨c, hc, (Prod.mk.inj he).1, (Prod.mk.inj he).2⟩
end
/-- append of values onto a slice of the call's own, at a plain list of operations. -/
theorem wpList_app {P : Program} (w : World) {ops : Array Oper} {rest : List Oper} {o : Oper} {a : Act} {Q : Exit → Act → World → Prop} (hgd : o.guard = none) (s x : Operand) (t : TypeId)
    (ho : o.op = .call { callee := .builtin .append, args := #[s, x], argTypes := #[t, t] })
    (base e : Nat) (i : TypeInfo) (z : Value) (size bytes : Nat) (ht : P.underlying t = some (.slice e)) (hi : P.info? e = some i) (hz : i.zero = some z) (hsize : i.size = size) (hby : i.bytes = bytes) (hzs : z.cells.size = size) (hsz : 0 < size)
    (v : Value) (n : Nat) (xs : List Value) (hs : a.eval s = v) (hown : w.ownsRow base e size v n xs)
    (ad : Addr) (m c : Nat) (news : List Value) (hx : a.eval x = .slice (some ad) m c) (hl : news.length = m * size) (hnews : ∀ j u, news[j]? = some u → w.cell? (ad.add j) = some u) (h1 : ∀ u ∈ news, u.oneCell' = true)
    (h63 : n + m ≤ maxLen) (hb : (n + m) * bytes ≤ 140737488355328) (hbase : base ≤ w.heap.size)
    (h : ∀ v' w', w'.ownsRow base e size v' (n + m) (xs ++ news) → w.grownBy w' v.ownBlock → (v'.ownBlock = v.ownBlock ∨ v'.ownBlock = some w.heap.size) → wpList P ops Q rest (a.put o.dst v') w') : wpList P ops Q (o :: rest) a w := by
  refine wpList_plain hgd fun K hK => ?_
  obtain ⟨v', w', hrun, a1, a2, _, a4⟩ := run_append_own_at (P := P) w base t o.type e i z size bytes ht hi hz hsize hby hzs hsz v n xs hown ad m c news hl hnews h1 h63 hb hbase
  unfold Oper.wp execOp
  simp only [ho, resolve, invoke, builtin, Sem.run_bind, Sem.run_pure, Result.andThen_ok, List.map_toArray, List.map_cons, List.map_nil, hs, hx, hrun]
  exact hK _ _ (h v' w' a1 a2 a4)
end Go.Proofs.Ythhcajgkfolkjaa.Fns
