/- A stack beside a slice of the call's own that holds what ought to be on it; a slice of slices of ints that reads as a list; without conditions. -/
import Derived.Test.YtlnpngjdpalkdaaWalks
import Derived.Deep.Matrix
namespace Go.Proofs.Ytlnpngjdpalkdaa.Fns
open Go Go.RowKit Go.ChangeShapes Go.WideShapes Go.Deep

/-- One row of a slice of slices. -/
structure Row where
  a : Option Addr
  l : Nat
  c : Nat
  xs : List Int

def RowAt (w : World) (B : Nat) (A : Option Addr) (i : Nat) (r : Row) : Prop :=
  ∃ ad, A = some ad ∧ ad.block < B ∧ w.cell? (ad.add i) = some (.slice r.a r.l r.c) ∧ Ints w B r.a r.l r.xs ∧ r.l ≤ r.c ∧ r.c ≤ maxLen

theorem RowAt.below {w w' : World} {B : Nat} {A : Option Addr} {i : Nat} {r : Row} (h : RowAt w B A i r) (hb : Below B w w') : RowAt w' B A i r := by
  obtain ⟨ad, e, hlt, hc, hi, h1, h2⟩ := h
  exact ⟨ad, e, hlt, (hb.cell (by rw [block_of_add]; exact hlt)).trans hc, hi.below hb (Nat.le_refl _), h1, h2⟩

theorem rows_of {H : Type} {enc : TypeId × Value → H} {P : Program} {W : World} {base : Nat} {held : Bool} {t e q : TypeId} {a : Option Addr} {len cap : Nat} {d : DataW H} {ps : List MemPlace}
    (ht : P.underlying t = some (.slice e)) (he : P.underlying e = some (.slice q)) (hq : P.underlying q = some (.int .i64)) (ce : P.cellsOf e = 1) (cq : P.cellsOf q = 1)
    (h : DataW.Trod enc P W base (fun _ => true) held t (.slice a len cap) d ps) : ∃ R : Nat → Row, (∀ i, i < len → RowAt W W.heap.size a i (R i)) ∧ len ≤ cap ∧ cap ≤ maxLen := by
  obtain ⟨fuel, hf⟩ := h
  rcases open_int_rows ht he hq ce cq hf with ⟨hcs, _⟩ | ⟨x, l, c, A, L, C, Z, hcs, _, hl, hm, _, hr⟩
  · simp [Value.cells] at hcs
    obtain ⟨rfl, rfl, rfl⟩ := hcs
    exact ⟨fun _ => ⟨none, 0, 0, []⟩, fun i hi => absurd hi (by omega), Nat.le_refl _, by simp [maxLen]⟩
  · simp [Value.cells] at hcs
    obtain ⟨rfl, rfl, rfl⟩ := hcs
    refine ⟨fun i => ⟨A i, L i, C i, (Z i).take (L i)⟩, fun i hi => ?_, hl, hm⟩
    obtain ⟨h1, h2, h3, h4, _, h6, h7⟩ := hr i (by omega)
    have hb := World.block_lt_of_cell? W _ h1
    rw [block_of_add] at hb
    refine ⟨x, rfl, hb, h1, ⟨by simp; omega, fun hn => ?_⟩, h2, h3⟩
    have hA : A i ≠ none := fun e => by have := h6 e; simp only at hn; omega
    obtain ⟨ad, had⟩ : ∃ ad, A i = some ad := Option.ne_none_iff_exists'.1 hA
    obtain ⟨_, h9⟩ := h7 ad had
    have hb2 := World.block_lt_of_cell? W _ (h9 0 (by simp only at hn; omega))
    rw [block_of_add] at hb2
    refine ⟨ad, had, hb2, fun j hj => ?_⟩
    simp only at hj
    rw [h9 j (by omega)]
    congr 2
    simp [List.getD_eq_getElem?_getD, hj]

/-- The stack, and the slice vw that ought to hold the same; no block is both's. -/
structure Inv (w wr : World) (g : Nat) (v vw : Value) (l lw : List Int) (room : Nat) (over : Bool) : Prop where
  sy : Sy w wr g v l room over
  own : wr.ownsRow w.heap.size 3 1 vw lw.length (lw.map (Value.int .i64))
  apart : ∀ b, vw.ownBlock = some b → v.ownBlock ≠ some b

section
variable {w wr w' : World} {g : Nat} {v v' vw : Value} {l l' lw : List Int} {room : Nat} {over over' : Bool}
theorem Inv.ne (h : Inv w wr g v vw l lw room over) : vw.ownBlock ≠ some g := own_ne h.own h.sy.st.cells (by decide)
/-- A method of the stack has gone: its blocks, and new ones, have turned alone. -/
theorem Inv.step (h : Inv w wr g v vw l lw room over) (hs : Sy w w' g v' l' room over') (ho : v'.ownBlock = v.ownBlock ∨ ∃ b, v'.ownBlock = some b ∧ wr.heap.size ≤ b) (hf : Frame wr w' (fun k => k = g ∨ v.ownBlock = some k)) :
    Inv w w' g v' vw l' lw room over' := by
  refine ⟨hs, hf.owns h.own (fun k hk e => ?_), fun b hb e => ?_⟩
  · rcases e with rfl | e
    · exact h.ne hk
    · exact h.apart k hk e
  · rcases ho with ho | ⟨c, ho, hc⟩
    · exact h.apart b hb (ho ▸ e)
    · rw [ho] at e
      injection e with e
      have := (h.own.lt b hb).2
      omega
theorem Inv.step1 (h : Inv w wr g v vw l lw room over) (hs : Sy w w' g v' l' room over') (ho : v'.ownBlock = v.ownBlock) (hf : Frame wr w' (fun k => k = g)) : Inv w w' g v' vw l' lw room over' :=
  h.step hs (.inl ho) (hf.mono fun _ _ e => .inl e)
/-- The slice beside it was made shorter. -/
theorem Inv.cut {b n cap m : Nat} (h : Inv w wr g v (.slice (some ⟨b, 0, none⟩) n cap) l lw room over) (hm : m ≤ n) (hn : n = lw.length) : Inv w wr g v (.slice (some ⟨b, 0, none⟩) m cap) l (lw.take m) room over := by
  subst hn
  refine ⟨h.sy, ?_, fun c hc => h.apart c hc⟩
  rw [List.map_take, List.length_take, Nat.min_eq_left hm]
  exact owns_cut h.own hm
/-- The slice beside it was appended to. -/
theorem Inv.append {vw' : Value} {ys : List Int} {n m : Nat} (h : Inv w wr g v vw l lw room over) (hn : n = lw.length) (hm : ys.length = m) (ho : w'.ownsRow w.heap.size 3 1 vw' (n + m) (lw.map (Value.int .i64) ++ ys.map (Value.int .i64)))
    (hg : wr.grownBy w' vw.ownBlock) (hat : vw'.ownBlock = vw.ownBlock ∨ vw'.ownBlock = some wr.heap.size) : Inv w w' g v vw' l (lw ++ ys) room over := by
  have hf : Frame wr w' (fun k => vw.ownBlock = some k) := Frame.of_grown hg (fun k _ e => e)
  refine ⟨⟨h.sy.st.frame hf (fun e => h.ne e) (fun k hk e => h.apart k e hk), h.sy.old.trans (hf.below h.sy.size (fun k _ hk => (h.own.lt k hk).1))⟩, ?_, fun b hb e => ?_⟩
  · rw [List.map_append, List.length_append, ← hn, hm]; exact ho
  · rcases hat with hat | hat
    · exact h.apart b (hat ▸ hb) e
    · rw [hat] at hb
      injection hb with hb
      have := (h.sy.st.owns.lt b e).2
      omega
theorem Inv.form (h : Inv w wr g v vw l lw room over) : ∃ A c, vw = .slice A lw.length c ∧ (0 < lw.length → ∃ b, A = some ⟨b, 0, none⟩ ∧ lw.length ≤ c ∧ ∀ j, j < lw.length → wr.cell? ⟨b, j, none⟩ = some (.int .i64 (lw.getD j 0))) := by
  rcases h.own.2 with ⟨h1, h0⟩ | ⟨b, cap, cur, h1, _, _, h2, _⟩
  · exact ⟨none, 0, by rw [h1, h0], fun hp => absurd hp (by omega)⟩
  · refine ⟨_, _, h1, fun hp => ⟨b, rfl, h2, fun j hj => ?_⟩⟩
    have ho := h.own
    rw [h1] at ho
    rw [ho.cellAt j (by omega), List.getElem?_map, List.getElem?_eq_getElem hj]
    simp [List.getD_eq_getElem?_getD, List.getElem?_eq_getElem hj]
theorem Inv.cell {b n cap j : Nat} (h : Inv w wr g v (.slice (some ⟨b, 0, none⟩) n cap) l lw room over) (hn : lw.length = n) (hj : j < n) : wr.cell? ⟨b, j, none⟩ = some (.int .i64 (lw.getD j 0)) := by
  subst hn
  rw [h.own.cellAt j (by omega), List.getElem?_map, List.getElem?_eq_getElem hj]
  simp [List.getD_eq_getElem?_getD, List.getElem?_eq_getElem hj]
end

/-- append of ints onto a slice of the call's own, at a plain list of operations. -/
theorem wpList_push {P : Program} (w : World) {ops : Array Oper} {rest : List Oper} {o : Oper} {a : Act} {Q : Exit → Act → World → Prop} (hgd : o.guard = none) (s x : Operand) (t : TypeId)
    (ho : o.op = .call { callee := .builtin .append, args := #[s, x], argTypes := #[t, t] })
    (base e : Nat) (i : TypeInfo) (ht : P.underlying t = some (.slice e)) (hi : P.info? e = some i) (hz : i.zero = some (.int .i64 0)) (hsize : i.size = 1) (hby : i.bytes = 8)
    (v : Value) (n : Nat) (xs : List Value) (hs : a.eval s = v) (hown : w.ownsRow base e 1 v n xs)
    (B : Nat) (A : Option Addr) (m c : Nat) (ys : List Int) (hx : a.eval x = .slice A m c) (hr : Ints w B A m ys) (hb : (n + m) * 8 ≤ 140737488355328) (hbase : base ≤ w.heap.size)
    (h : ∀ v' w', w'.ownsRow base e 1 v' (n + m) (xs ++ ys.map (Value.int .i64)) → w.grownBy w' v.ownBlock → (v'.ownBlock = v.ownBlock ∨ v'.ownBlock = some w.heap.size) → wpList P ops Q rest (a.put o.dst v') w') : wpList P ops Q (o :: rest) a w := by
  refine wpList_plain hgd fun K hK => ?_
  obtain ⟨v', w', hrun, a1, a2, a4⟩ := run_push (P := P) w base t o.type e i ht hi hz hsize hby v n xs hown B A m c ys hr hb hbase
  unfold Oper.wp execOp
  simp only [ho, resolve, invoke, builtin, Sem.run_bind, Sem.run_pure, Result.andThen_ok, List.map_toArray, List.map_cons, List.map_nil, hs, hx, hrun]
  exact hK _ _ (h v' w' a1 a2 a4)

theorem awake_s (w wr : World) (h : Below w.heap.size w wr) : Calls Try.prog 8 #[] wr fun e w' => e = .returned (.bool true) ∧ Below w.heap.size w w' :=
  (awake_c wr).mono fun _ _ ⟨he, hb⟩ => ⟨he, h.trans (hb.mono h.size)⟩
section
variable {w wr : World} {g : Nat} {v vw : Value} {l lw : List Int} {room : Nat} {over : Bool}
theorem pop_i (h : Inv w wr g v vw l lw room over) (hl : 0 < l.length) (y : Int) (ys : List Int) (hy : l.getD (l.length - 1) 0 = y) (hys : l.take (l.length - 1) = ys) :
    Calls Try.prog 12 #[.pointer (some ⟨g, 0, none⟩)] wr fun e w' => e = .returned (.tuple #[.int .i64 y, .bool true]) ∧ ∃ v', Inv w w' g v' vw ys lw room over := by
  subst hy; subst hys
  exact (pop_s w wr h.sy hl).mono fun _ _ ⟨he, v', hs, ho, hf⟩ => ⟨he, v', h.step1 hs ho hf⟩
theorem pop_zero (h : Inv w wr g v vw l lw room over) (hl : l.length = 0) : Calls Try.prog 12 #[.pointer (some ⟨g, 0, none⟩)] wr fun e w' => e = .returned (.tuple #[.int .i64 0, .bool false]) ∧ wr = w' := by
  obtain rfl : l = [] := List.eq_nil_of_length_eq_zero hl
  exact pop_none wr h.sy.st
theorem reset_i (h : Inv w wr g v vw l lw room over) : Calls Try.prog 13 #[.pointer (some ⟨g, 0, none⟩)] wr fun e w' => e = .returned (.tuple #[]) ∧ Inv w w' g v vw l lw room false :=
  (reset_s w wr h.sy).mono fun _ _ ⟨he, hs, hf⟩ => ⟨he, h.step1 hs rfl hf⟩
theorem push_i (h : Inv w wr g v vw l lw room over) (C : Nat) (A : Option Addr) (m c : Nat) (xs : List Int) (hx : Ints wr C A m xs) (hm : m ≤ c) (hc : c ≤ maxLen) (z : Int) (ys : List Int) (o : Bool)
    (hz : ((min m (room - l.length) : Nat) : Int) = z) (hys : xs.take (room - l.length) = ys) (ho : (over || decide (room - l.length < m)) = o) :
    Calls Try.prog 9 #[.pointer (some ⟨g, 0, none⟩), .slice A m c] wr fun e w' => e = .returned (.int .i64 z) ∧ ∃ v', Inv w w' g v' vw (l ++ ys) lw room o := by
  subst hz; subst hys; subst ho
  exact (push_s w wr h.sy C A m c xs hx hm hc).mono fun _ _ ⟨he, v', hs, ho, hf⟩ => ⟨he, v', h.step hs ho hf⟩
theorem depth_v (h : Inv w wr g v vw l lw room over) (z : Int) (hz : (l.length : Int) = z) : Calls Try.prog 11 #[.pointer (some ⟨g, 0, none⟩)] wr fun e w' => e = .returned (.int .i64 z) ∧ wr = w' := by
  subst hz; exact depth_c wr h.sy.st
end
end Go.Proofs.Ytlnpngjdpalkdaa.Fns

namespace Go.Proofs.Ytlnpngjdpalkdaa
open Go.ChangeShapes Go.WideShapes
/-- The argument of StackRuns, opened. -/
theorem runs_arg {H : Type} {enc : TypeId × Value → H} {W : World} {base : Nat} {held : Bool} {a : Option Addr} {len cap : Nat} {d : DataW H} {ps : List MemPlace} {ts : List TypeId} {ds : List (DataW H)} {j : Nat} {t : TypeId}
    (_ : (DataW.weightsEach Try.prog ts ds).all (· ≤ reachBytes) = true) (_ : ts[j]? = some t) (_ : ds[j]? = some d) (h : DataW.Trod enc Try.prog W base (fun _ => true) held 34 (.slice a len cap) d ps) :
    ∃ R : Nat → Fns.Row, (∀ i, i < len → Fns.RowAt W W.heap.size a i (R i)) ∧ len ≤ cap ∧ cap ≤ maxLen :=
  Fns.rows_of Try.underlying34 Try.underlying22 Try.underlying3 (by kernel_rfl) (by kernel_rfl) h
end Go.Proofs.Ytlnpngjdpalkdaa
