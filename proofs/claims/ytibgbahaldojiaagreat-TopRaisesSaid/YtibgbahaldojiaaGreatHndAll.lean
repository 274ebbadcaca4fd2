/- Words for memory: what a call may write (a frame with a foot), and a slice that reads as a list of ints; without conditions. -/
/- What the small functions of the package handle do to the world. -/
/- Hold, Held and Drop. -/
/- All and Room. -/
import Derived.SizedLaws
import Derived.ChangeSlices
import Derived.Below
import Derived.Deep.Draws
import Derived.Maps.AppendAt
import Derived.OwnWalk
import Derived.OneCell
import Derived.Laws.Rows
import Derived.RegionTactic
import Derived.Test.YtibgbahaldojiaaGreatProg
import Derived.WalkKit
import Derived.WalkSpells
import Derived.WalkLawsBesides
import Derived.Lib.Hide
import Derived.OpenShut
import Derived.Deep.RegionLaw
import Derived.Deep.RegionWith
import Derived.Deep.RegionHeld3
import Derived.Deep.QuietTactic
import Derived.BigQuiet
import Derived.IntWalk
namespace Go.Proofs.YtibgbahaldojiaaGreat
open Go.ChangeShapes Go.WideShapes Go.RowKit

/-- The world w' is w with new blocks, and with writes to the blocks of F alone. -/
structure Frame (w w' : World) (F : Nat → Prop) : Prop where
  os : w'.os = w.os
  tape : w'.tape = w.tape
  output : w'.output = w.output
  size : w.heap.size ≤ w'.heap.size
  block : ∀ k, k < w.heap.size → ¬ F k → w'.heap[k]? = w.heap[k]?

section
variable {w w' w'' : World} {F G : Nat → Prop}
theorem Frame.refl (w : World) (F : Nat → Prop) : Frame w w F := ⟨rfl, rfl, rfl, Nat.le_refl _, fun _ _ _ => rfl⟩
theorem Frame.mono (h : Frame w w' F) (hFG : ∀ k, k < w.heap.size → F k → G k) : Frame w w' G := ⟨h.os, h.tape, h.output, h.size, fun k hk hg => h.block k hk fun hf => hg (hFG k hk hf)⟩
theorem Frame.trans (h : Frame w w' F) (h' : Frame w' w'' G) (hG : ∀ k, k < w.heap.size → G k → F k) : Frame w w'' F :=
  ⟨h'.os.trans h.os, h'.tape.trans h.tape, h'.output.trans h.output, Nat.le_trans h.size h'.size,
    fun k hk hf => (h'.block k (Nat.lt_of_lt_of_le hk h.size) fun hg => hf (hG k hk hg)).trans (h.block k hk hf)⟩
theorem Frame.drewN (h : Frame w w' F) (n : Nat) : Frame w (w'.drewN n) F := ⟨h.os, h.tape, h.output, h.size, h.block⟩
theorem Frame.drew (h : Frame w w' F) : Frame w w'.drew F := ⟨h.os, h.tape, h.output, h.size, h.block⟩
theorem Frame.alloc (h : Frame w w' F) (o : Obj) : Frame w (w'.alloc o) F :=
  ⟨h.os, h.tape, h.output, Nat.le_trans h.size (by simp), fun k hk hf => (Below.heap_alloc _ _ _ (Nat.lt_of_lt_of_le hk h.size)).trans (h.block k hk hf)⟩
theorem Frame.setCell (h : Frame w w' F) {p : Addr} (hp : p.block < w.heap.size → F p.block) (u : Value) : Frame w (w'.setCell p u) F :=
  ⟨h.os, h.tape, h.output, by simpa [World.setCell] using h.size, fun k hk hf => (Below.heap_setCell _ _ _ _ (fun e => by subst e; exact hf (hp hk))).trans (h.block k hk hf)⟩
theorem Frame.of_grown {row : Option Nat} (h : w.grownBy w' row) (hr : ∀ k, k < w.heap.size → row = some k → F k) : Frame w w' F :=
  ⟨h.os, h.tape, h.output, h.size, fun k hk hf => h.block k hk fun e => hf (hr k hk e.symm)⟩
theorem Frame.of_below (h : Below w.heap.size w w') : Frame w w' F := ⟨h.os, h.tape, h.output, h.size, fun k hk _ => h.block k hk⟩
theorem Frame.below (h : Frame w w' F) {B : Nat} (hB : B ≤ w.heap.size) (hF : ∀ k, k < w.heap.size → F k → B ≤ k) : Below B w w' :=
  ⟨h.os, h.tape, h.output, h.size, fun k hk => h.block k (by omega) fun hf => by have := hF k (by omega) hf; omega⟩
theorem Frame.cell (h : Frame w w' F) {a : Addr} {v : Value} (hc : w.cell? a = some v) (hF : ¬ F a.block) : w'.cell? a = some v := by
  have hk : a.block < w.heap.size := World.block_lt_of_cell? w a hc
  exact (World.cell?_of_block (h.block a.block hk hF)).trans hc
theorem Frame.heap (h : Frame w w' F) {k : Nat} {o : Obj} (hc : w.heap[k]? = some o) (hF : ¬ F k) : w'.heap[k]? = some o :=
  (h.block k (lt_of_block hc) hF).trans hc
theorem Frame.owns (h : Frame w w' F) {base : Nat} {e : TypeId} {size : Nat} {v : Value} {n : Nat} {xs : List Value} (ho : w.ownsRow base e size v n xs) (hF : ∀ k, v.ownBlock = some k → ¬ F k) : w'.ownsRow base e size v n xs := by
  refine ⟨ho.1, ?_⟩
  rcases ho.2 with h2 | ⟨g, cap, cur, hv, hg, hh, r⟩
  · exact .inl h2
  · exact .inr ⟨g, cap, cur, hv, hg, h.heap hh (hF g (by rw [hv]; rfl)), r⟩
end

/-- Two rows whose elements are of different types never lie in one block. -/
theorem own_ne {w : World} {base g : Nat} {e t : TypeId} {size n : Nat} {v : Value} {xs : List Value} {cs : Array Value} {m : Nat × Nat} (ho : w.ownsRow base e size v n xs) (hg : w.heap[g]? = some (.cells cs t m)) (hne : e ≠ t) : v.ownBlock ≠ some g := by
  rcases ho.2 with ⟨rfl, _⟩ | ⟨b, cap, cur, rfl, _, hh, _⟩
  · simp [Value.ownBlock]
  · intro h
    obtain rfl : b = g := by simpa [Value.ownBlock] using h
    rw [hg] at hh
    injection hh with hh
    injection hh with _ ht
    exact hne ht.symm

/-- A slice value that reads as a list of ints, below a block. -/
def Ints (w : World) (B : Nat) (A : Option Addr) (n : Nat) (xs : List Int) : Prop :=
  xs.length = n ∧ (0 < n → ∃ ad, A = some ad ∧ ad.block < B ∧ ∀ j, j < n → w.cell? (ad.add j) = some (.int .i64 (xs.getD j 0)))

theorem block_of_add (a : Addr) (n : Nat) : (a.add n).block = a.block := by unfold Addr.add; split <;> rfl

theorem Ints.below {w w' : World} {B C : Nat} {A : Option Addr} {n : Nat} {xs : List Int} (h : Ints w B A n xs) (hb : Below C w w') (hBC : B ≤ C) : Ints w' B A n xs := by
  refine ⟨h.1, fun hn => ?_⟩
  obtain ⟨ad, rfl, hlt, hc⟩ := h.2 hn
  exact ⟨ad, rfl, hlt, fun j hj => (hb.cell (by rw [block_of_add]; omega)).trans (hc j hj)⟩
theorem Ints.nil (w : World) (B : Nat) (A : Option Addr) : Ints w B A 0 [] := ⟨rfl, fun h => absurd h (by omega)⟩
theorem Ints.drewN {w : World} {B : Nat} {A : Option Addr} {n : Nat} {xs : List Int} (h : Ints w B A n xs) (k : Nat) : Ints (w.drewN k) B A n xs := h
theorem Ints.take {w : World} {B : Nat} {A : Option Addr} {n k : Nat} {xs : List Int} (h : Ints w B A n xs) (hk : k ≤ n) : Ints w B A k (xs.take k) := by
  refine ⟨by have := h.1; simp; omega, fun hn => ?_⟩
  obtain ⟨ad, rfl, hlt, hc⟩ := h.2 (by omega)
  refine ⟨ad, rfl, hlt, fun j hj => (hc j (by omega)).trans ?_⟩
  simp [List.getD_eq_getElem?_getD, hj]
theorem Ints.news {w : World} {B : Nat} {ad : Addr} {n : Nat} {xs : List Int} (h : Ints w B (some ad) n xs) : (xs.map (Value.int .i64)).length = n * 1 ∧ ∀ j u, (xs.map (Value.int .i64))[j]? = some u → w.cell? (ad.add j) = some u := by
  refine ⟨by have := h.1; simp; omega, fun j u hu => ?_⟩
  have hj : j < xs.length := by have := (List.getElem?_eq_some_iff.1 hu).1; simpa using this
  obtain ⟨ad', e, _, hc⟩ := h.2 (by have := h.1; omega)
  injection e with e
  subst e
  rw [hc j (by have := h.1; omega), ← hu]
  simp [List.getD_eq_getElem?_getD, List.getElem?_eq_getElem hj]

theorem ints_of {H : Type} {enc : TypeId × Value → H} {P : Program} {W : World} {base : Nat} {spare : Nat → Bool} {held : Bool} {t e : TypeId} {a : Option Addr} {len cap : Nat} {d : DataW H} {ps : List MemPlace} {ts : List TypeId} {ds : List (DataW H)} {j : Nat}
    (hsz : (DataW.weightsEach P ts ds).all (· ≤ reachBytes) = true) (ht : ts[j]? = some t) (hd : ds[j]? = some d) (hu : P.underlying t = some (.slice e)) (he : P.underlying e = some (.int .i64)) (hc : P.cellsOf e = 1) {B : Nat} (hB : P.bytesOf e = B)
    (h : DataW.Trod enc P W base spare held t (.slice a len cap) d ps) :
    ∃ xs, Ints W W.heap.size a len xs ∧ (len * B ≤ 140737488351232 ∧ len ≤ cap ∧ cap ≤ maxLen) ∧ ∀ x ∈ xs, (Lit.int .i64 x).wf = true := by
  obtain ⟨fuel, hf⟩ := h
  rcases open_ints hu he hc hf with ⟨hcs, _⟩ | ⟨x, l, c, zs, hcs, _, hl, hm, hz, hx, hcell, hwz⟩
  · simp [Value.cells] at hcs
    obtain ⟨rfl, rfl, rfl⟩ := hcs
    exact ⟨[], ⟨rfl, fun h => absurd h (by omega)⟩, ⟨by omega, Nat.le_refl _, by simp [maxLen]⟩, by simp⟩
  · simp [Value.cells] at hcs
    obtain ⟨rfl, rfl, rfl⟩ := hcs
    have hl2 : len ≤ zs.length := by
      rw [hz]; split
      · exact hl
      · exact Nat.le_refl _
    refine ⟨zs.take len, ⟨by simp; omega, fun hn => ⟨x, rfl, ?_, fun k hk => ?_⟩⟩, ⟨?_, hl, hm⟩, fun n hn => hwz n (List.mem_of_mem_take hn)⟩
    · have := World.block_lt_of_cell? W _ (hcell 0 (by omega))
      rwa [block_of_add] at this
    · rw [hcell k (by omega)]
      congr 2
      simp [List.getD_eq_getElem?_getD, hk]
    · obtain ⟨hx, _⟩ := Prod.mk.inj hx
      subst hx
      have z := sized_slice hsz ht hd hu
      rw [hB] at z
      have h1 : (lits (H := H) .i64 (zs.take len)).length + (lits (H := H) .i64 (zs.drop len)).length = zs.length := by
        simp [lits]; omega
      rw [h1] at z
      exact Nat.le_trans (Nat.mul_le_mul_right _ hl2) z

/-- A slice that the call owns, made shorter. -/
theorem owns_cut {w : World} {base : Nat} {e : TypeId} {g cap n m : Nat} {xs : List Value} (h : w.ownsRow base e 1 (.slice (some ⟨g, 0, none⟩) n cap) n xs) (hm : m ≤ n) : w.ownsRow base e 1 (.slice (some ⟨g, 0, none⟩) m cap) m (xs.take m) := by
  have hl := h.1
  rcases h.2 with ⟨h2, _⟩ | ⟨g', cap', cur, hv, hg, hh, hnc, hcm, hs, ht⟩
  · cases h2
  · simp only [Value.slice.injEq, Option.some.injEq, Addr.mk.injEq, true_and, and_true] at hv
    obtain ⟨rfl, rfl⟩ := hv
    refine ⟨by simp; omega, .inr ⟨g, cap, cur, rfl, hg, hh, by omega, hcm, hs, ?_⟩⟩
    rw [← ht, List.take_take, Nat.mul_one, Nat.mul_one, Nat.min_eq_left (by omega)]

section
variable {P : Program} (w : World)
/-- append of ints onto a slice of the call's own, whatever the source is: what it leaves. -/
theorem run_push (base : Nat) (t ty e : TypeId) (i : TypeInfo) (ht : P.underlying t = some (.slice e)) (hi : P.info? e = some i) (hz : i.zero = some (.int .i64 0)) (hsize : i.size = 1) (hby : i.bytes = 8)
    (v : Value) (n : Nat) (xs : List Value) (hown : w.ownsRow base e 1 v n xs) (B : Nat) (A : Option Addr) (m c : Nat) (ys : List Int) (hr : Ints w B A m ys) (hb : (n + m) * 8 ≤ 140737488355328) (hbase : base ≤ w.heap.size) :
    ∃ v' w', (Builtin.append_ #[t, t] ty #[v, .slice A m c]).run P w = .ok v' w' ∧ w'.ownsRow base e 1 v' (n + m) (xs ++ ys.map (Value.int .i64)) ∧ w.grownBy w' v.ownBlock ∧
      (v'.ownBlock = v.ownBlock ∨ v'.ownBlock = some w.heap.size) := by
  rcases A with _ | ad
  · obtain rfl : m = 0 := by
      rcases Nat.eq_zero_or_pos m with h | h
      · exact h
      · obtain ⟨_, h, _⟩ := hr.2 h; cases h
    obtain rfl : ys = [] := List.eq_nil_of_length_eq_zero hr.1
    refine ⟨v, w, ?_, by simpa using hown, World.grownBy.refl w _, .inl rfl⟩
    rcases hown.2 with ⟨rfl, rfl⟩ | ⟨g, cap, cur, rfl, _, _, hnc, _⟩
    · simp [Builtin.append_, run_underlying ht, sizeOf, typeInfo, hi, Builtin.lenOf, Builtin.firstCells]
    · simp [Builtin.append_, run_underlying ht, sizeOf, typeInfo, hi, Builtin.lenOf, Builtin.firstCells, hnc, storeCells]
  · obtain ⟨h1, h2⟩ : (ys.map (Value.int .i64)).length = m * 1 ∧ ∀ j u, (ys.map (Value.int .i64))[j]? = some u → w.cell? (ad.add j) = some u := hr.news
    obtain ⟨v', w', hrun, a1, a2, _, a4⟩ := run_append_own_at (P := P) w base t ty e i _ 1 8 ht hi hz hsize hby rfl (by omega) v n xs hown ad m c _ h1 h2 (ints_oneCell _ _) (by unfold maxLen; omega) hb hbase
    exact ⟨v', w', hrun, a1, a2, a4⟩

/-- The same as one step of a region. -/
theorem step_push {ops : Array Oper} {o : Oper} {a : Act} {K : Act → World → Prop} {Q : Exit → Act → World → Prop} {E : Prop} (hgd : o.guard = none) (s x : Operand) (t : TypeId)
    (ho : o.op = .call { callee := .builtin .append, args := #[s, x], argTypes := #[t, t] })
    (base e : Nat) (i : TypeInfo) (ht : P.underlying t = some (.slice e)) (hi : P.info? e = some i) (hz : i.zero = some (.int .i64 0)) (hsize : i.size = 1) (hby : i.bytes = 8)
    (v : Value) (n : Nat) (xs : List Value) (hs : a.eval s = v) (hown : w.ownsRow base e 1 v n xs)
    (B : Nat) (A : Option Addr) (m c : Nat) (ys : List Int) (hx : a.eval x = .slice A m c) (hr : Ints w B A m ys) (hb : (n + m) * 8 ≤ 140737488355328) (hbase : base ≤ w.heap.size)
    (h : ∀ v' w', w'.ownsRow base e 1 v' (n + m) (xs ++ ys.map (Value.int .i64)) → w.grownBy w' v.ownBlock → (v'.ownBlock = v.ownBlock ∨ v'.ownBlock = some w.heap.size) → K (a.put o.dst v') w') :
    if Region.wanted o (yielded ops a.tmps) = true then Oper.wp P o a w K Q else E := by
  have hw : Region.wanted o (yielded ops a.tmps) = true := by simp [Region.wanted, hgd]
  rw [if_pos hw]
  obtain ⟨v', w', hrun, a1, a2, a4⟩ := run_push (P := P) w base t o.type e i ht hi hz hsize hby v n xs hown B A m c ys hr hb hbase
  unfold Oper.wp execOp
  simp only [ho, resolve, invoke, builtin, Sem.run_bind, Sem.run_pure, Result.andThen_ok, List.map_toArray, List.map_cons, List.map_nil, hs, hx, hrun]
  exact h v' w' a1 a2 a4
end
end Go.Proofs.YtibgbahaldojiaaGreat
namespace Go.Proofs.YtibgbahaldojiaaGreat.Fns
open Go Go.RowKit

/-- What a new table's block holds. -/
def Z : Array Value := Array.replicate 1024 (.int .i64 0)
theorem run_zero100 (w : World) : (zeroValue 100).run Tryz.prog w = .ok (.agg Z) w := by kernel_rfl
theorem zc : Tryz.zeroCells100 = Z := by kernel_rfl
theorem Z_size : Z.size = 1024 := by simp [Z]
theorem Z_at (k : Nat) (h : k < 1024) : Z[k]? = some (.int .i64 0) := by simp [Z, h]
attribute [irreducible] Z
attribute [local go_sem] run_zero100

theorem new_c (w : World) : Calls Tryz.prog 16 #[] w fun e w' => e = .returned (.pointer (some ⟨w.heap.size, 0, none⟩)) ∧ w' = w.alloc (.cells Z 100) := by
  go_enter Tryz.func16, Tryz.ntmps16
  go_wp2
  go_ret
  exact ⟨rfl, by rw [zc]⟩

theorem err_c (n : Int) (w : World) : Calls Tryz.prog 6 #[.int .i64 n] w fun e w' => e = .returned (.int .i64 n) ∧ w = w' := by
  go_enter Tryz.func6, Tryz.ntmps6
  go_wp2
  go_ret
  exact ⟨rfl, rfl⟩

/-- Block g holds slots: T: how often each was given up; A: what each holds, 0: nothing. -/
structure Hs (w : World) (g : Nat) (T A : Nat → Int) : Prop where
  block : ∃ cs, w.heap[g]? = some (.cells cs 100 (0, 0)) ∧ cs.size = 1024 ∧ ∀ i, i < 512 → cs[i * 2]? = some (.int .i64 (T i)) ∧ cs[i * 2 + 1]? = some (.int .i64 (A i))
  turns : ∀ i, i < 512 → 0 ≤ T i ∧ T i ≤ 1000000
def put {α : Type} (f : Nat → α) (i : Nat) (x : α) : Nat → α := fun j => if j = i then x else f j
theorem put_same {α : Type} (f : Nat → α) (i : Nat) (x : α) : put f i x i = x := by simp [put]
theorem put_other {α : Type} (f : Nat → α) (i j : Nat) (x : α) (h : j ≠ i) : put f i x j = f j := by simp [put, h]
section
variable {w w' : World} {g : Nat} {T A : Nat → Int}
theorem Hs.lt (h : Hs w g T A) : g < w.heap.size := by obtain ⟨cs, h1, _⟩ := h.block; exact lt_of_block h1
theorem Hs.t (h : Hs w g T A) (i : Nat) (hi : i < 512) : w.cell? ⟨g, i * 2, none⟩ = some (.int .i64 (T i)) := by
  obtain ⟨cs, h1, _, h3⟩ := h.block
  rw [cell_of_row w g _ _ _ _ h1]; exact (h3 i hi).1
theorem Hs.a (h : Hs w g T A) (i : Nat) (hi : i < 512) : w.cell? ⟨g, i * 2 + 1, none⟩ = some (.int .i64 (A i)) := by
  obtain ⟨cs, h1, _, h3⟩ := h.block
  rw [cell_of_row w g _ _ _ _ h1]; exact (h3 i hi).2
theorem Hs.fr (h : Hs w g T A) (k : Nat) : w.frozen? ⟨g, k, none⟩ = false := by
  obtain ⟨cs, h1, _⟩ := h.block
  exact frozen_of_row w g k cs 100 h1
theorem Hs.frame {F : Nat → Prop} (h : Hs w g T A) (hf : Frame w w' F) (hg : ¬ F g) : Hs w' g T A := by
  obtain ⟨cs, h1, h2⟩ := h.block
  exact ⟨⟨cs, hf.heap h1 hg, h2⟩, h.turns⟩
theorem Hs.below (h : Hs w g T A) (hb : Below w.heap.size w w') : Hs w' g T A := h.frame (F := fun _ => False) (Frame.of_below hb) (fun e => e)
theorem Hs.setA (h : Hs w g T A) (i : Nat) (x : Int) : Hs (w.setCell ⟨g, i * 2 + 1, none⟩ (.int .i64 x)) g T (put A i x) := by
  obtain ⟨cs, h1, h2, h3⟩ := h.block
  refine ⟨⟨cs.setIfInBounds (i * 2 + 1) (.int .i64 x), heap_setCell_same w g _ cs 100 _ h1, by simpa using h2, fun j hj => ?_⟩, h.turns⟩
  obtain ⟨h4, h5⟩ := h3 j hj
  constructor
  · rw [Array.getElem?_setIfInBounds_ne (by omega)]; exact h4
  · by_cases e : j = i
    · subst e
      rw [Array.getElem?_setIfInBounds_self_of_lt (by omega), put_same]
    · rw [Array.getElem?_setIfInBounds_ne (by omega), put_other _ _ _ _ e]; exact h5
theorem Hs.setT (h : Hs w g T A) (i : Nat) (x : Int) (hx : 0 ≤ x ∧ x ≤ 1000000) : Hs (w.setCell ⟨g, i * 2, none⟩ (.int .i64 x)) g (put T i x) A := by
  obtain ⟨cs, h1, h2, h3⟩ := h.block
  refine ⟨⟨cs.setIfInBounds (i * 2) (.int .i64 x), heap_setCell_same w g _ cs 100 _ h1, by simpa using h2, fun j hj => ?_⟩, fun j hj => ?_⟩
  · obtain ⟨h4, h5⟩ := h3 j hj
    constructor
    · by_cases e : j = i
      · subst e
        rw [Array.getElem?_setIfInBounds_self_of_lt (by omega), put_same]
      · rw [Array.getElem?_setIfInBounds_ne (by omega), put_other _ _ _ _ e]; exact h4
    · rw [Array.getElem?_setIfInBounds_ne (by omega)]; exact h5
  · by_cases e : j = i
    · subst e; rw [put_same]; exact hx
    · rw [put_other _ _ _ _ e]; exact h.turns j hj
end
theorem new_h (w : World) : Calls Tryz.prog 16 #[] w fun e w' => e = .returned (.pointer (some ⟨w.heap.size, 0, none⟩)) ∧ Hs w' w.heap.size (fun _ => 0) (fun _ => 0) ∧ Below w.heap.size w w' := by
  refine (new_c w).mono ?_
  rintro e w' ⟨rfl, rfl⟩
  exact ⟨rfl, ⟨⟨Z, heap_alloc_new w _, Z_size, fun i hi => ⟨Z_at _ (by omega), Z_at _ (by omega)⟩⟩, fun _ _ => ⟨by omega, by omega⟩⟩, (Below.refl _ _).alloc (Nat.le_refl _) _⟩

theorem turn_c (w : World) (a : Addr) (t : Int) (h : w.cell? a = some (.int .i64 t)) (ht : 0 ≤ t ∧ t ≤ 1000000) : Calls Tryz.prog 145 #[.pointer (some a)] w fun e w' => e = .returned (.int .i64 (t + 1)) ∧ w = w' := by
  obtain ⟨h0, h1⟩ := ht
  go_enter Tryz.func145, Tryz.ntmps145
  go_wp2
  go_ret
  exact ⟨rfl, rfl⟩
theorem next_c (w : World) (a : Addr) (t : Int) (h : w.cell? a = some (.int .i64 t)) (hf : w.frozen? a = false) (ht : 0 ≤ t ∧ t ≤ 1000000) : Calls Tryz.prog 97 #[.pointer (some a)] w fun e w' => e = .returned (.tuple #[]) ∧ w' = w.setCell a (.int .i64 (t + 1)) := by
  obtain ⟨h0, h1⟩ := ht
  go_enter Tryz.func97, Tryz.ntmps97
  go_wp2
  go_end0
  exact ⟨rfl, rfl⟩
/-- The handle of a slot. -/
def tell (T : Nat → Int) (i : Nat) : Int := i + 512 * (T i + 1)
theorem told_c (w : World) {g : Nat} {T A : Nat → Int} (h : Hs w g T A) (i : Nat) (hi : i < 512) : Calls Tryz.prog 119 #[.pointer (some ⟨g, 0, none⟩), .int .i64 (i : Int)] w fun e w' => e = .returned (.int .i64 (tell T i)) ∧ w = w' := by
  have H := Lib.hid h
  have hT := h.turns i hi
  have kt := h.t i hi
  clear h
  unfold tell
  generalize T i = t at hT kt ⊢
  obtain ⟨h0, h1⟩ := hT
  have g1 : (0 : Int) ≤ (i : Int) := by omega
  have g2 : (i : Int) < 512 := by omega
  go_enter Tryz.func119, Tryz.ntmps119
  go_wp2_with (go_at_call 145; refine (turn_c _ _ t kt ⟨h0, h1⟩).mono ?_; rintro e w' ⟨rfl, rfl⟩)
  go_ret
  exact ⟨rfl, rfl⟩

/-- Does the handle x stand? -/
def fnd (T A : Nat → Int) (x : Int) : Bool := decide (512 ≤ x) && (A (x % 512).toNat != 0 && tell T (x % 512).toNat == x)
theorem find_c (w : World) {g : Nat} {T A : Nat → Int} (h : Hs w g T A) (x : Int) (hx : x ≤ 9223372036854775807) (b : Bool) (hb : fnd T A x = b) :
    Calls Tryz.prog 96 #[.pointer (some ⟨g, 0, none⟩), .int .i64 x] w fun e w' => ∃ i : Int, e = .returned (.tuple #[.int .i64 i, .bool b]) ∧ (b = true → i = x % 512) ∧ w = w' := by
  by_cases h5 : x < 512
  · have d5 : decide (x < 512) = true := by simpa using h5
    obtain rfl : b = false := by rw [← hb]; simp [fnd]; omega
    go_enter Tryz.func96, Tryz.ntmps96
    go_wp2
    refine bodyPost_ret (v := .tuple #[.int .i64 0, .bool false]) (by simp [results, Tryz.results96, go_sem]) rfl ⟨_, rfl, by simp, rfl⟩
  · have d5 : decide (x < 512) = false := by simpa using h5
    obtain ⟨i, hi⟩ : ∃ i : Nat, x % 512 = (i : Int) := ⟨(x % 512).toNat, by omega⟩
    have hi5 : i < 512 := by omega
    have H := Lib.hid h
    have ka := h.a i hi5
    have hf : fnd T A x = (A i != 0 && tell T i == x) := by
      simp only [fnd, hi, Int.toNat_natCast, decide_eq_true (by omega : 512 ≤ x), Bool.true_and]
    rw [hf] at hb
    have HA := Lib.hid hb
    have HI := Lib.hid hi
    have hx0 : 0 ≤ x := by omega
    have g1 : (0 : Int) ≤ (i : Int) := by omega
    have g2 : (i : Int) < 512 := by omega
    clear h hb hf
    by_cases h0 : A i = 0
    · obtain rfl : b = false := by rw [← HA.out, h0]; simp
      rw [h0] at ka
      go_enter Tryz.func96, Tryz.ntmps96
      go_wp2
      refine bodyPost_ret (v := .tuple #[.int .i64 i, .bool false]) (by simp [results, Tryz.results96, go_sem]) rfl (by first | exact ⟨_, rfl, by simp, rfl⟩ | exact ⟨⟨_, rfl⟩, rfl⟩)
    · have d0 : (A i != 0) = true := by simpa using h0
      have d1 : (A i == 0) = false := by simpa using h0
      obtain ⟨q, hq⟩ : ∃ q, q = tell T i := ⟨_, rfl⟩
      have HQ := Lib.hid hq
      have e1 : (q == x) = b := by rw [← HA.out, hq]; simp [h0]
      clear hq
      go_enter Tryz.func96, Tryz.ntmps96
      go_wp2_with (go_at_call 119; refine (told_c _ H.out i hi5).mono ?_; rintro e w' ⟨rfl, rfl⟩; rw [← HQ.out])
      refine bodyPost_ret (v := .tuple #[.int .i64 i, .bool b]) (by simp [results, Tryz.results96, go_sem]) rfl ⟨_, rfl, fun _ => HI.out.symm, rfl⟩
end Go.Proofs.YtibgbahaldojiaaGreat.Fns
namespace Go.Proofs.YtibgbahaldojiaaGreat.Fns
open Go Go.RowKit

theorem find_nil (w : World) (x : Int) : Calls Tryz.prog 96 #[.pointer none, .int .i64 x] w fun e w' => e = .returned (.tuple #[.int .i64 0, .bool false]) ∧ w = w' := by
  go_enter Tryz.func96, Tryz.ntmps96
  go_wp2
  refine bodyPost_ret (v := .tuple #[.int .i64 0, .bool false]) (by simp [results, Tryz.results96, go_sem]) rfl ⟨rfl, rfl⟩
theorem held_nil (w : World) (x : Int) : Calls Tryz.prog 90 #[.pointer none, .int .i64 x] w fun e w' => e = .returned (.tuple #[.int .i64 0, .int .i64 6]) ∧ w = w' := by
  go_enter Tryz.func90, Tryz.ntmps90
  go_wp2_with (go_at_call 96; refine (find_nil _ _).mono ?_; rintro e w' ⟨rfl, rfl⟩)
  refine bodyPost_ret (v := .tuple #[.int .i64 0, .int .i64 6]) (by simp [results, Tryz.results90, go_sem]) rfl ⟨rfl, rfl⟩
theorem drop_nil (w : World) (x : Int) : Calls Tryz.prog 51 #[.pointer none, .int .i64 x] w fun e w' => e = .returned (.int .i64 6) ∧ w = w' := by
  go_enter Tryz.func51, Tryz.ntmps51
  go_wp2_with (go_at_call 96; refine (find_nil _ _).mono ?_; rintro e w' ⟨rfl, rfl⟩)
  go_ret
  exact ⟨rfl, rfl⟩
theorem hold_nil (w : World) (x : Int) : Calls Tryz.prog 93 #[.pointer none, .int .i64 x] w fun e w' => e = .returned (.tuple #[.int .i64 0, .int .i64 3]) ∧ w = w' := by
  go_enter Tryz.func93, Tryz.ntmps93
  go_wp2
  refine bodyPost_ret (v := .tuple #[.int .i64 0, .int .i64 3]) (by simp [results, Tryz.results93, go_sem]) rfl ⟨rfl, rfl⟩

theorem hold_bad (w : World) (g : Nat) (x : Int) (hx : x < 1) :
    Calls Tryz.prog 93 #[.pointer (some ⟨g, 0, none⟩), .int .i64 x] w fun e w' => e = .returned (.tuple #[.int .i64 0, .int .i64 1]) ∧ w = w' := by
  have d : decide (x < 1) = true := by simpa using hx
  go_enter Tryz.func93, Tryz.ntmps93
  go_wp2
  refine bodyPost_ret (v := .tuple #[.int .i64 0, .int .i64 1]) (by simp [results, Tryz.results93, go_sem]) rfl ⟨rfl, rfl⟩
section
variable (w : World) {g : Nat} {T A : Nat → Int} (h : Hs w g T A)
include h
theorem held_no (x : Int) (hx : x ≤ 9223372036854775807) (hf : fnd T A x = false) :
    Calls Tryz.prog 90 #[.pointer (some ⟨g, 0, none⟩), .int .i64 x] w fun e w' => e = .returned (.tuple #[.int .i64 0, .int .i64 6]) ∧ w = w' := by
  have H := Lib.hid h
  have HF := Lib.hid hf
  clear h hf
  go_enter Tryz.func90, Tryz.ntmps90
  go_wp2_with (go_at_call 96; refine (find_c _ H.out x hx false HF.out).mono ?_; rintro e w' ⟨i, rfl, _, rfl⟩)
  refine bodyPost_ret (v := .tuple #[.int .i64 0, .int .i64 6]) (by simp [results, Tryz.results90, go_sem]) rfl ⟨rfl, rfl⟩
theorem held_yes (x : Int) (hx : x ≤ 9223372036854775807) (hf : fnd T A x = true) (z : Int) (hz : A (x % 512).toNat = z) :
    Calls Tryz.prog 90 #[.pointer (some ⟨g, 0, none⟩), .int .i64 x] w fun e w' => e = .returned (.tuple #[.int .i64 z, .int .i64 0]) ∧ w = w' := by
  have H := Lib.hid h
  have HF := Lib.hid hf
  obtain ⟨i, hi⟩ : ∃ i : Nat, x % 512 = (i : Int) := ⟨(x % 512).toNat, by omega⟩
  have hi5 : i < 512 := by omega
  rw [hi, Int.toNat_natCast] at hz
  have ka := h.a i hi5
  rw [hz] at ka
  have HI := Lib.hid hi
  have g1 : (0 : Int) ≤ (i : Int) := by omega
  have g2 : (i : Int) < 512 := by omega
  clear h hf hi hz
  go_enter Tryz.func90, Tryz.ntmps90
  go_wp2_with (go_at_call 96; refine (find_c _ H.out x hx true HF.out).mono ?_; rintro e w' ⟨i', rfl, hi', rfl⟩; obtain rfl : i' = (i : Int) := (hi' rfl).trans HI.out; clear hi')
  refine bodyPost_ret (v := .tuple #[.int .i64 z, .int .i64 0]) (by simp [results, Tryz.results90, go_sem]) rfl ⟨rfl, rfl⟩
theorem drop_no (x : Int) (hx : x ≤ 9223372036854775807) (hf : fnd T A x = false) :
    Calls Tryz.prog 51 #[.pointer (some ⟨g, 0, none⟩), .int .i64 x] w fun e w' => e = .returned (.int .i64 6) ∧ w = w' := by
  have H := Lib.hid h
  have HF := Lib.hid hf
  clear h hf
  go_enter Tryz.func51, Tryz.ntmps51
  go_wp2_with (go_at_call 96; refine (find_c _ H.out x hx false HF.out).mono ?_; rintro e w' ⟨i, rfl, _, rfl⟩)
  go_ret
  exact ⟨rfl, rfl⟩
theorem drop_yes (x : Int) (hx : x ≤ 9223372036854775807) (hf : fnd T A x = true) (i : Nat) (hi : x % 512 = (i : Int)) (ht : T i < 1000000) :
    Calls Tryz.prog 51 #[.pointer (some ⟨g, 0, none⟩), .int .i64 x] w fun e w' => e = .returned (.int .i64 0) ∧ Hs w' g (put T i (T i + 1)) (put A i 0) ∧ Frame w w' (fun k => k = g) := by
  have H := Lib.hid h
  have HF := Lib.hid hf
  have hi5 : i < 512 := by omega
  have ka := h.a i hi5
  have fa := h.fr (i * 2 + 1)
  have HI := Lib.hid hi
  have hT := h.turns i hi5
  have g1 : (0 : Int) ≤ (i : Int) := by omega
  have g2 : (i : Int) < 512 := by omega
  have H1 := Lib.hid (h.setA i 0)
  have H2 := Lib.hid ((h.setA i 0).setT i (T i + 1) (by omega))
  have FR := Lib.hid ((Frame.refl w (fun k => k = g)).setCell (p := ⟨g, i * 2 + 1, none⟩) (fun _ => rfl) (.int .i64 0) |>.setCell (p := ⟨g, i * 2, none⟩) (fun _ => rfl) (.int .i64 (T i + 1)))
  clear h hf hi
  go_enter Tryz.func51, Tryz.ntmps51
  go_wp2_with (first
    | (go_at_call 96; refine (find_c _ H.out x hx true HF.out).mono ?_; rintro e w' ⟨i', rfl, hi', rfl⟩; obtain rfl : i' = (i : Int) := (hi' rfl).trans HI.out; clear hi')
    | (go_at_call 97; refine (next_c _ _ (T i) (H1.out.t i hi5) (H1.out.fr _) (by omega)).mono ?_; rintro e w' ⟨rfl, rfl⟩))
  go_ret
  exact ⟨rfl, H2.out, FR.out⟩
theorem hold_full (x : Int) (hx : 1 ≤ x) (hA : ∀ i, i < 512 → A i ≠ 0) :
    Calls Tryz.prog 93 #[.pointer (some ⟨g, 0, none⟩), .int .i64 x] w fun e w' => e = .returned (.tuple #[.int .i64 0, .int .i64 3]) ∧ w = w' := by
  have d : decide (x < 1) = false := by simp; omega
  have H := Lib.hid h
  have HA := Lib.hid hA
  clear h hA
  go_enter Tryz.func93, Tryz.ntmps93
  go_wp2
  go_loopw [6, 13] (fun iv i wr => ∃ (j : Nat), j ≤ 512 ∧ i = .int .i64 (j : Int) ∧ wr = w) (fun _ i _ => 512 - (intOf i).toNat)
  case atStart => exact ⟨0, by omega, rfl, rfl⟩
  case round =>
    obtain ⟨j, hj, rfl, rfl⟩ := hrel
    by_cases hlt : j < 512
    · have dj : decide ((j : Int) < 512) = true := by simp; omega
      have dj2 : decide (j < 512) = true := by simp; omega
      have ka := H.out.a j hlt
      have e0 : (A j == 0) = false := by simpa using HA.out j hlt
      have g1 : (0 : Int) ≤ (j : Int) := by omega
      have g2 : (j : Int) < 512 := by omega
      go_wp2
      go_roundw
      case rel => exact ⟨j + 1, by omega, by first | go_num | trivial, by first | rfl | trivial⟩
      case measure => simp [intOf]; omega
    · obtain rfl : j = 512 := by omega
      have dj : decide ((512 : Int) < 512) = false := rfl
      go_wp2
      refine bodyPost_ret (v := .tuple #[.int .i64 0, .int .i64 3]) (by simp [results, Tryz.results93, go_sem]) rfl ⟨rfl, rfl⟩
theorem hold_ok (x : Int) (hx : 1 ≤ x) (k : Nat) (hk : k < 512) (hA : ∀ i, i < k → A i ≠ 0) (h0 : A k = 0) (z : Int) (hz : tell T k = z) :
    Calls Tryz.prog 93 #[.pointer (some ⟨g, 0, none⟩), .int .i64 x] w fun e w' => e = .returned (.tuple #[.int .i64 z, .int .i64 0]) ∧ Hs w' g T (put A k x) ∧ Frame w w' (fun b => b = g) := by
  have d : decide (x < 1) = false := by simp; omega
  have H := Lib.hid h
  have HA := Lib.hid hA
  have HZ := Lib.hid hz
  have H0 := Lib.hid h0
  clear h hA hz h0
  go_enter Tryz.func93, Tryz.ntmps93
  go_wp2
  go_loopw [6, 13] (fun iv i wr => ∃ (j : Nat), j ≤ k ∧ i = .int .i64 (j : Int) ∧ wr = w) (fun _ i _ => 512 - (intOf i).toNat)
  case atStart => exact ⟨0, by omega, rfl, rfl⟩
  case round =>
    obtain ⟨j, hj, rfl, rfl⟩ := hrel
    have dj : decide ((j : Int) < 512) = true := by simp; omega
    have dj2 : decide (j < 512) = true := by simp; omega
    have ka := H.out.a j (by omega)
    have g1 : (0 : Int) ≤ (j : Int) := by omega
    have g2 : (j : Int) < 512 := by omega
    by_cases hlt : j < k
    · have e0 : (A j == 0) = false := by simpa using HA.out j hlt
      go_wp2
      go_roundw
      case rel => exact ⟨j + 1, by omega, by first | go_num | trivial, by first | rfl | trivial⟩
      case measure => simp [intOf]; omega
    · obtain rfl : j = k := by omega
      have e0 : (A j == 0) = true := by simpa using H0.out
      have fa := H.out.fr (j * 2 + 1)
      have H1 := Lib.hid (H.out.setA j x)
      have FR := Lib.hid ((Frame.refl wr (fun b => b = g)).setCell (p := ⟨g, j * 2 + 1, none⟩) (fun _ => rfl) (.int .i64 x))
      go_wp2_with (go_at_call 119; refine (told_c _ H1.out j hk).mono ?_; rintro e w' ⟨rfl, rfl⟩; rw [HZ.out])
      refine bodyPost_ret (v := .tuple #[.int .i64 z, .int .i64 0]) (by simp [results, Tryz.results93, go_sem]) rfl ⟨rfl, H1.out, FR.out⟩
end
end Go.Proofs.YtibgbahaldojiaaGreat.Fns
namespace Go.Proofs.YtibgbahaldojiaaGreat.Fns
open Go Go.RowKit

/-- append of values onto a slice of the call's own, as one step of a region. -/
theorem step_app {P : Program} {w : World} {ops : Array Oper} {o : Oper} {a : Act} {K : Act → World → Prop} {Q : Exit → Act → World → Prop} {E : Prop} (hgd : o.guard = none) (s x : Operand) (t : TypeId)
    (ho : o.op = .call { callee := .builtin .append, args := #[s, x], argTypes := #[t, t] })
    (base e : Nat) (i : TypeInfo) (z : Value) (size bytes : Nat) (ht : P.underlying t = some (.slice e)) (hi : P.info? e = some i) (hz : i.zero = some z) (hsize : i.size = size) (hby : i.bytes = bytes) (hzs : z.cells.size = size) (hsz : 0 < size)
    (v : Value) (n : Nat) (xs : List Value) (hs : a.eval s = v) (hown : w.ownsRow base e size v n xs)
    (ad : Addr) (m c : Nat) (news : List Value) (hx : a.eval x = .slice (some ad) m c) (hl : news.length = m * size) (hnews : ∀ j u, news[j]? = some u → w.cell? (ad.add j) = some u) (h1 : ∀ u ∈ news, u.oneCell' = true)
    (h63 : n + m ≤ maxLen) (hb : (n + m) * bytes ≤ 140737488355328) (hbase : base ≤ w.heap.size)
    (h : ∀ v' w', w'.ownsRow base e size v' (n + m) (xs ++ news) → w.grownBy w' v.ownBlock → (v'.ownBlock = v.ownBlock ∨ v'.ownBlock = some w.heap.size) → K (a.put o.dst v') w') :
    if Region.wanted o (yielded ops a.tmps) = true then Oper.wp P o a w K Q else E := by
  have hw : Region.wanted o (yielded ops a.tmps) = true := by simp [Region.wanted, hgd]
  rw [if_pos hw]
  obtain ⟨v', w', hrun, a1, a2, _, a4⟩ := run_append_own_at (P := P) w base t o.type e i z size bytes ht hi hz hsize hby hzs hsz v n xs hown ad m c news hl hnews h1 h63 hb hbase
  unfold Oper.wp execOp
  simp only [ho, resolve, invoke, builtin, Sem.run_bind, Sem.run_pure, Result.andThen_ok, List.map_toArray, List.map_cons, List.map_nil, hs, hx, hrun]
  exact h v' w' a1 a2 a4
theorem two_cells (w : World) (a b : Value) (t : TypeId) : ∀ j u, [a, b][j]? = some u → (w.alloc (.cells #[a, b] t)).cell? ((⟨w.heap.size, 0, none⟩ : Addr).add j) = some u := by
  intro j u hj
  have hlt : j < 2 := by have := (List.getElem?_eq_some_iff.1 hj).1; simpa using this
  have e : ((⟨w.heap.size, 0, none⟩ : Addr).add j) = ⟨w.heap.size, j, none⟩ := by
    unfold Addr.add
    split
    · rename_i h; subst h; rfl
    · simp
  rw [e, cell_of_row (w.alloc (.cells #[a, b] t)) w.heap.size j _ _ _ (heap_alloc_new w _), ← hj]
  simp
theorem form189 {w : World} {base n : Nat} {v : Value} {xs : List Value} (h : w.ownsRow base 189 2 v n xs) : ∃ A c, v = .slice A n c := by
  rcases h.2 with ⟨rfl, h0⟩ | ⟨b, cap, _, rfl, _⟩
  · exact ⟨none, 0, by rw [h0]⟩
  · exact ⟨_, _, rfl⟩
theorem info189 : (Tryz.prog.info? 189).map (fun i => (i.zero, i.size, i.bytes)) = some (some (.agg #[.int .i64 0, .int .i64 0]), 2, 16) := by kernel_rfl
/-- What holds, slot by slot, of the first n. -/
def allL (T A : Nat → Int) (n : Nat) : List (Int × Int) := ((List.range n).filter fun i => A i != 0).map fun i => (tell T i, A i)
theorem allL_succ (T A : Nat → Int) (n : Nat) : allL T A (n + 1) = allL T A n ++ (if A n = 0 then [] else [(tell T n, A n)]) := by
  unfold allL
  rw [List.range_succ, List.filter_append, List.map_append]
  by_cases h : A n = 0 <;> simp [h]
theorem allL_len (T A : Nat → Int) (n : Nat) : (allL T A n).length ≤ n := by
  unfold allL
  rw [List.length_map]
  exact Nat.le_trans (List.length_filter_le _ _) (by simp)
def heldCells (l : List (Int × Int)) : List Value := l.flatMap fun p => [.int .i64 p.1, .int .i64 p.2]
theorem heldCells_add (l : List (Int × Int)) (a b : Int) : heldCells (l ++ [(a, b)]) = heldCells l ++ [.int .i64 a, .int .i64 b] := by simp [heldCells]

theorem own_base {wr : World} {B e s n k : Nat} {u : Value} {ys : List Value} (h : wr.ownsRow B e s u n ys) (hk : u.ownBlock = some k) : B ≤ k := by
  rcases h.2 with ⟨h1, _⟩ | ⟨b, _, _, h1, hb, _⟩
  · rw [h1] at hk; cases hk
  · rw [h1] at hk
    obtain rfl : b = k := by simpa [Value.ownBlock] using hk
    exact hb
theorem all_step {w3 : World} {B : Nat} {T A : Nat → Int} {j L : Nat} {v : Value} {q aj : Int} (h0 : ¬ A j = 0) (ha : aj = A j) (hq : q = tell T j) (hL : L = (allL T A j).length)
    (h : w3.ownsRow B 189 2 v (L + 1) (heldCells (allL T A j) ++ [.int .i64 q, .int .i64 aj])) : w3.ownsRow B 189 2 v (allL T A (j + 1)).length (heldCells (allL T A (j + 1))) := by
  subst ha; subst hq; subst hL
  rw [allL_succ, if_neg h0, heldCells_add, List.length_append]
  exact h
set_option maxRecDepth 100000 in
set_option maxHeartbeats 4000000 in
theorem all_c (w : World) {g : Nat} {T A : Nat → Int} (h : Hs w g T A) :
    Calls Tryz.prog 78 #[.pointer (some ⟨g, 0, none⟩)] w fun e w' => ∃ v, e = .returned v ∧ w'.ownsRow w.heap.size 189 2 v (allL T A 512).length (heldCells (allL T A 512)) ∧ Below w.heap.size w w' := by
  have H := Lib.hid h
  obtain ⟨i0, hi0, hz0, hz1, hz2⟩ := info_parts info189
  have INFO := Lib.hid (And.intro hi0 (And.intro hz0 (And.intro hz1 hz2)))
  clear h hi0 hz0 hz1 hz2
  go_enter Tryz.func78, Tryz.ntmps78
  go_wp2
  go_loopw [3, 4, 7] (fun v iv i wr => ∃ (j : Nat), j ≤ 512 ∧ i = .int .i64 (j : Int) ∧ wr.ownsRow w.heap.size 189 2 v (allL T A j).length (heldCells (allL T A j)) ∧ Below w.heap.size w wr) (fun _ _ i _ => 512 - (intOf i).toNat)
  case atStart => exact ⟨0, by omega, rfl, World.ownsRow_nil _ _ _ _, Below.refl _ _⟩
  case round =>
    obtain ⟨j, hj, rfl, ho, hb⟩ := hrel
    have HO := Lib.hid ho
    have HB := Lib.hid hb
    obtain ⟨VA, vc, rfl⟩ := form189 ho
    clear ho hb
    by_cases hlt : j < 512
    · have dj : decide ((j : Int) < 512) = true := by simp; omega
      have dj2 : decide (j < 512) = true := by simp; omega
      have H1 := Lib.hid (H.out.below HB.out)
      have ka := H1.out.a j hlt
      have g1 : (0 : Int) ≤ (j : Int) := by omega
      have g2 : (j : Int) < 512 := by omega
      by_cases h0 : A j = 0
      · have e0 : (A j != 0) = false := by simpa using h0
        have HA := Lib.hid h0
        clear h0
        go_wp2
        go_roundw
        case rel => exact ⟨j + 1, by omega, by go_num, by rw [allL_succ, if_pos HA.out, List.append_nil]; exact HO.out, HB.out⟩
        case measure => simp [intOf]; omega
      · have e0 : (A j != 0) = true := by simpa using h0
        have HA := Lib.hid h0
        have HLE := Lib.hid (allL_len T A j)
        clear h0
        obtain ⟨L, hL⟩ : ∃ L, L = (allL T A j).length := ⟨_, rfl⟩
        have HL := Lib.hid hL
        have HO2 := Lib.hid (show wr.ownsRow w.heap.size 189 2 (.slice VA L vc) L (heldCells (allL T A j)) by rw [hL]; exact HO.out)
        rw [← hL] at HLE ⊢
        obtain ⟨q, hq⟩ : ∃ q, q = tell T j := ⟨_, rfl⟩
        have HQ := Lib.hid hq
        obtain ⟨aj, haj⟩ : ∃ aj, aj = A j := ⟨_, rfl⟩
        have HAJ := Lib.hid haj
        rw [← haj] at ka e0
        clear HO hL hq haj
        go_wp2
        go_region_law (first
          | (refine step_app rfl (.tmp 18) (.tmp 30) 50 rfl w.heap.size 189 i0 _ 2 16 Tryz.underlying50 INFO.out.1 INFO.out.2.1 INFO.out.2.2.1 INFO.out.2.2.2 rfl (by omega) (.slice VA L vc) L (heldCells (allL T A j)) (by simp [Act.eval]) (by exact HO2.out.alloc _) ⟨wr.heap.size, 0, none⟩ 1 1 [.int .i64 q, .int .i64 aj] (by simp [Act.eval]) rfl (by exact two_cells _ _ _ _) (by simp [Value.oneCell']) (by have := HLE.out; unfold maxLen; omega) (by have := HLE.out; omega) (by exact Nat.le_trans HB.out.size (by simp)) ?_
             intro v3 w3 ho3 hg3 _
             obtain ⟨A3, c3, rfl⟩ := form189 ho3
             have HO3 := Lib.hid ho3
             have HG3 := Lib.hid hg3
             clear ho3 hg3)
          | (go_simp
             go_wp2_with (go_at_call 119; refine (told_c _ (by exact H1.out.below ⟨rfl, rfl, rfl, Nat.le_refl _, fun _ _ => rfl⟩) j hlt).mono ?_; rintro e w' ⟨rfl, rfl⟩; rw [← HQ.out])))
        all_goals
          go_wp2
          refine ⟨⟨j + 1, by omega, by go_num, all_step HA.out HAJ.out HQ.out HL.out HO3.out, HB.out.trans ((((Below.refl _ _).alloc HB.out.size _).drew.grown HG3.out (Nat.le_trans HB.out.size (by simp)) (fun k hk => own_base HO2.out hk)))⟩, by simp [intOf]; omega⟩
    · obtain rfl : j = 512 := by omega
      have dj : decide ((512 : Int) < 512) = false := rfl
      go_wp2
      go_ret
      exact ⟨_, rfl, HO.out, HB.out⟩
theorem all_nil (w : World) : Calls Tryz.prog 78 #[.pointer none] w fun e w' => e = .returned (.slice none 0 0) ∧ w = w' := by
  go_enter Tryz.func78, Tryz.ntmps78
  go_wp2
  go_ret
  exact ⟨rfl, rfl⟩
theorem room_c (w : World) {g : Nat} {T A : Nat → Int} (h : Hs w g T A) (z : Int) (hz : 512 - ((allL T A 512).length : Int) = z) :
    Calls Tryz.prog 61 #[.pointer (some ⟨g, 0, none⟩)] w fun e w' => e = .returned (.int .i64 z) ∧ Below w.heap.size w w' := by
  have H := Lib.hid h
  have hle := allL_len T A 512
  obtain ⟨L, hL⟩ : ∃ L, L = (allL T A 512).length := ⟨_, rfl⟩
  have HL := Lib.hid hL
  rw [← hL] at hz hle
  have HZ := Lib.hid hz
  clear h hL hz
  go_enter Tryz.func61, Tryz.ntmps61
  go_wp2_with (go_at_call 78; refine (all_c _ H.out).mono ?_; rintro e w1 ⟨v, rfl, ho, hb⟩; obtain ⟨A1, c1, rfl⟩ := form189 ho; have HB := Lib.hid hb; rw [← HL.out]; clear ho hb)
  go_ret
  exact ⟨by rw [← HZ.out]; rfl, HB.out⟩
theorem room_nil (w : World) : Calls Tryz.prog 61 #[.pointer none] w fun e w' => e = .returned (.int .i64 0) ∧ w = w' := by
  go_enter Tryz.func61, Tryz.ntmps61
  go_wp2
  go_ret
  exact ⟨rfl, rfl⟩
/-- Who holds in slot k alone. -/
theorem allL_one (T : Nat → Int) (x : Int) (k n : Nat) (hx : x ≠ 0) : (allL T (put (fun _ => 0) k x) n).length = if k < n then 1 else 0 := by
  induction n with
  | zero => rfl
  | succ n ih =>
    rw [allL_succ, List.length_append, ih]
    by_cases h : n = k
    · subst h; rw [put_same, if_neg hx]; simp
    · rw [put_other _ _ _ _ h]
      by_cases h2 : k < n
      · simp [h2, Nat.lt_succ_of_lt h2]
      · have : ¬ k < n + 1 := by omega
        simp [h2, this]

end Go.Proofs.YtibgbahaldojiaaGreat.Fns
