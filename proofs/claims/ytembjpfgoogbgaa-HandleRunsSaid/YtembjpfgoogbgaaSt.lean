/- One table of handles, and a slice of ints of the call's own beside it. -/
import Derived.Test.YtembjpfgoogbgaaSole
namespace Go.Proofs.Ytembjpfgoogbgaa.Fns
open Go Go.RowKit
theorem info3 : (Try.prog.info? 3).map (fun i => (i.zero, i.size, i.bytes)) = some (some (.int .i64 0), 1, 8) := by kernel_rfl
theorem own_form {w : World} {v : Value} {base n : Nat} {xs : List Value} (h : w.ownsRow base 3 1 v n xs) : ∃ A c, v = .slice A n c := by
  rcases h.2 with ⟨rfl, h0⟩ | ⟨b, cap, _, rfl, _⟩
  · exact ⟨none, 0, by rw [h0]⟩
  · exact ⟨_, _, rfl⟩

/-- append of ints onto a slice of the call's own, at a plain list of operations. -/
theorem wpList_push {P : Program} (w : World) {ops : Array Oper} {rest : List Oper} {o : Oper} {a : Act} {Q : Exit → Act → World → Prop} (hgd : o.guard = none) (s x : Operand) (t : TypeId)
    (ho : o.op = .call { callee := .builtin .append, args := #[s, x], argTypes := #[t, t] })
    (base e : Nat) (i : TypeInfo) (ht : P.underlying t = some (.slice e)) (hi : P.info? e = some i) (hz : i.zero = some (.int .i64 0)) (hsize : i.size = 1) (hby : i.bytes = 8)
    (v : Value) (n : Nat) (xs : List Value) (hs : a.eval s = v) (hown : w.ownsRow base e 1 v n xs)
    (B : Nat) (A : Option Addr) (m c : Nat) (ys : List Int) (hx : a.eval x = .slice A m c) (hr : Ints w B A m ys) (hb : (n + m) * 8 ≤ 140737488355328) (hbase : base ≤ w.heap.size)
    (h : ∀ v' w', w'.ownsRow base e 1 v' (n + m) (xs ++ ys.map (Value.int .i64)) → w.grownBy w' v.ownBlock → (v'.ownBlock = v.ownBlock ∨ v'.ownBlock = some w.heap.size) → wpList P ops Q rest (a.put o.dst v') w') : wpList P ops Q (o :: rest) a w := by
  refine wpList_plain hgd fun K hK => ?_
  obtain ⟨v', w', hrun, a1, a2, a4⟩ := run_push (P := P) w base t o.type e i ht hi hz hsize hby v n xs hown B A m c ys hr hb hbase
  unfold Oper.wp execOp
  simp only [ho, resolve, invoke, builtin, Sem.run_bind, Sem.run_pure, Result.andThen_ok, List.map_toArray, List.map_cons, List.map_nil, hs, hx, hrun]
  exact hK _ _ (h v' w' a1 a2 a4)

theorem ints_one (w : World) (x : Int) : Ints (w.alloc (.cells #[.int .i64 x] 3)) (w.heap.size + 1) (some ⟨w.heap.size, 0, none⟩) 1 [x] :=
  ⟨rfl, fun _ => ⟨_, rfl, Nat.lt_succ_self _, fun j hj => by
    obtain rfl : j = 0 := by omega
    exact cell_of_row _ _ 0 _ _ _ (heap_alloc_new w _)⟩⟩
structure St (w wr : World) (g : Nat) (T A : Nat → Int) (v : Value) (xs : List Int) : Prop where
  so : Sole w wr g T A
  ow : wr.ownsRow w.heap.size 3 1 v xs.length (xs.map (Value.int .i64))
section
variable {w wr w' : World} {g : Nat} {T A T' A' : Nat → Int} {v : Value} {xs : List Int}
theorem Hs.ne (h : Hs wr g T A) {B n : Nat} {e : TypeId} {s : Nat} {u : Value} {ys : List Value} (ho : wr.ownsRow B e s u n ys) (he : e ≠ 60) : u.ownBlock ≠ some g := by
  obtain ⟨cs, h1, _⟩ := h.block
  exact own_ne ho h1 he
theorem St.start {w1 : World} (h : Hs w1 w.heap.size T A) (hb : Below w.heap.size w w1) : St w w1 w.heap.size T A (.slice none 0 0) [] := ⟨Sole.start h hb, World.ownsRow_nil _ _ _ _⟩
theorem St.below (h : St w wr g T A v xs) (hb : Below wr.heap.size wr w') : St w w' g T A v xs := ⟨h.so.below hb, (Frame.of_below (F := fun _ => False) hb).owns h.ow (fun _ _ e => e)⟩
theorem St.step (h : St w wr g T A v xs) (h2 : Hs w' g T' A') (hf : Frame wr w' (fun k => k = g)) : St w w' g T' A' v xs :=
  ⟨h.so.step h2 hf, hf.owns h.ow (fun k hk e => by subst e; exact h.so.h.ne h.ow (by decide) hk)⟩
theorem St.push {v' : Value} {x : Int} {o : Obj} {n : Nat} (h : St w wr g T A v xs) (ho : w'.ownsRow w.heap.size 3 1 v' n (xs.map (Value.int .i64) ++ [Value.int .i64 x])) (hn : n = xs.length + 1) (hg : (wr.alloc o).grownBy w' v.ownBlock) : St w w' g T A v' (xs ++ [x]) := by
  subst hn
  have f1 : Frame wr w' (fun k => v.ownBlock = some k) := ((Frame.refl wr _).alloc o).trans (Frame.of_grown hg (fun k _ e => e)) (fun k _ e => e)
  exact ⟨⟨h.so.old.trans (f1.below h.so.old.size fun k _ hk => own_base h.ow hk), h.so.base, h.so.h.frame f1 (h.so.h.ne h.ow (by decide))⟩, by simpa using ho⟩
theorem St.form (h : St w wr g T A v xs) : ∃ B c, v = .slice B xs.length c := own_form h.ow
theorem St.block {B : Option Addr} {n c : Nat} (h : St w wr g T A (.slice B n c) xs) (hn : 0 < n) : ∃ b, B = some ⟨b, 0, none⟩ := by
  rcases h.ow.2 with ⟨h1, _⟩ | ⟨b, _, _, h1, _⟩
  · injection h1 with _ h3 _; omega
  · injection h1 with h1 _ _; exact ⟨b, h1⟩
theorem St.len {B : Option Addr} {n c : Nat} (h : St w wr g T A (.slice B n c) xs) : n = xs.length := by
  obtain ⟨B', c', e⟩ := h.form
  injection e with _ e _
theorem St.get {b n c : Nat} (h : St w wr g T A (.slice (some ⟨b, 0, none⟩) n c) xs) (j : Nat) (x : Int) (hx : xs[j]? = some x) : wr.cell? ⟨b, j, none⟩ = some (.int .i64 x) := by
  obtain rfl := h.len
  have hlt : j < xs.length := (List.getElem?_eq_some_iff.1 hx).1
  rw [h.ow.cellAt j (by omega), List.getElem?_map, hx]
  rfl
theorem St.fr {b n c : Nat} (h : St w wr g T A (.slice (some ⟨b, 0, none⟩) n c) xs) (j : Nat) : wr.frozen? ⟨b, j, none⟩ = false := by
  obtain rfl := h.len
  exact h.ow.frozenAt j
theorem St.set {b n c : Nat} (h : St w wr g T A (.slice (some ⟨b, 0, none⟩) n c) xs) (j : Nat) (x : Int) : St w (wr.setCell ⟨b, j, none⟩ (.int .i64 x)) g T A (.slice (some ⟨b, 0, none⟩) n c) (xs.set j x) := by
  obtain rfl := h.len
  have hb : w.heap.size ≤ b := own_base h.ow rfl
  have hne : b ≠ g := fun e => h.so.h.ne h.ow (by decide) (by rw [e]; rfl)
  have f : Frame wr (wr.setCell ⟨b, j, none⟩ (.int .i64 x)) (fun k => k = b) := (Frame.refl wr (fun k => k = b)).setCell (p := ⟨b, j, none⟩) (fun _ => rfl) _
  have ho := (h.ow.stored j (.int .i64 x)).1
  refine ⟨⟨h.so.old.setCell hb _, h.so.base, h.so.h.frame f (fun e => hne e.symm)⟩, ?_⟩
  rw [List.length_set, List.map_set]
  exact ho
end
theorem allL_count (T A : Nat → Int) (k : Nat) (h1 : ∀ i, i < k → A i ≠ 0) (h2 : ∀ i, k ≤ i → A i = 0) (n : Nat) : (allL T A n).length = if n < k then n else k := by
  induction n with
  | zero => by_cases h : 0 < k <;> simp [allL] <;> omega
  | succ n ih =>
    rw [allL_succ, List.length_append, ih]
    by_cases h : n < k
    · rw [if_pos h, if_neg (h1 n h)]
      by_cases h3 : n + 1 < k
      · simp [h3]
      · simp [h3]; omega
    · rw [if_neg h, if_pos (h2 n (by omega)), if_neg (by omega)]; simp
end Go.Proofs.Ytembjpfgoogbgaa.Fns
