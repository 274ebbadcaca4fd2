/- What each function of the package class does to the world. -/
import Derived.Test.YthhcajgkfolkjaaRows
import Derived.Test.YthhcajgkfolkjaaMem
import Derived.WalkKit
import Derived.WalkSpells
import Derived.WalkLawsBesides
import Derived.Lib.Hide
import Derived.OpenShut
import Derived.Deep.RegionLaw
import Derived.Deep.RegionWith
import Derived.Deep.RegionHeld3
import Derived.Deep.QuietTactic
import Derived.BigQuiet
namespace Go.Proofs.Ythhcajgkfolkjaa.Fns
open Go Go.RowKit

theorem info3 : (Try.prog.info? 3).map (fun i => (i.zero, i.size, i.bytes)) = some (some (.int .i64 0), 1, 8) := by kernel_rfl
theorem info26 : (Try.prog.info? 26).map (fun i => (i.zero, i.size, i.bytes)) = some (some (.agg #[.int .i64 0, .slice none 0 0]), 2, 32) := by kernel_rfl

/-- May a class of f fields with these addresses be? -/
def rise (f last : Int) : List Int → Bool
  | [] => true
  | x :: xs => !(decide (x ≤ last) || decide (f ≤ x)) && rise f x xs
def mayB (f : Int) (xs : List Int) : Bool := !(decide (f < 0) || decide (1023 < f)) && rise f (-1) xs
theorem rise_drop (f last : Int) (xs : List Int) (i : Nat) (h : i < xs.length) : rise f last (xs.drop i) = (!(decide (xs.getD i 0 ≤ last) || decide (f ≤ xs.getD i 0)) && rise f (xs.getD i 0) (xs.drop (i + 1))) := by
  rw [List.drop_eq_getElem_cons h]
  simp [rise, List.getD_eq_getElem?_getD, List.getElem?_eq_getElem h]

theorem err_c (n : Int) (w : World) : Calls Try.prog 9 #[.int .i64 n] w fun e w' => e = .returned (.int .i64 n) ∧ w = w' := by
  go_enter Try.func9, Try.ntmps9
  go_wp2
  go_ret
  exact ⟨rfl, rfl⟩

theorem own_form {w : World} {v : Value} {base n : Nat} {xs : List Value} (h : w.ownsRow base 3 1 v n xs) : ∃ A c, v = .slice A n c := by
  rcases h.2 with ⟨rfl, h0⟩ | ⟨b, cap, _, rfl, _⟩
  · exact ⟨none, 0, by rw [h0]⟩
  · exact ⟨_, _, rfl⟩

/-- append of ints onto a slice of the call's own, at a plain list of operations. -/
theorem wpList_push {P : Program} (w : World) {ops : Array Oper} {rest : List Oper} {o : Oper} {a : Act} {Q : Exit → Act → World → Prop} (hgd : o.guard = none) (s x : Operand) (t : TypeId)
    (ho : o.op = .call { callee := .builtin .append, args := #[s, x], argTypes := #[t, t] })
    (base e : Nat) (i : TypeInfo) (ht : P.underlying t = some (.slice e)) (hi : P.info? e = some i) (hz : i.zero = some (.int .i64 0)) (hsize : i.size = 1) (hby : i.bytes = 8)
    (v : Value) (n : Nat) (xs : List Value) (hs : a.eval s = v) (hown : w.ownsRow base e 1 v n xs)
    (B : Nat) (A : Option Addr) (m c : Nat) (ys : List Int) (hx : a.eval x = .slice A m c) (hr : Ints w B A m ys) (hb : (n + m) * 8 ≤ 140737488355328) (hbase : base ≤ w.heap.size)
    (h : ∀ v' w', w'.ownsRow base e 1 v' (n + m) (xs ++ ys.map (Value.int .i64)) → w.grownBy w' v.ownBlock → (v'.ownBlock = v.ownBlock ∨ v'.ownBlock = some w.heap.size) → wpList P ops Q rest (a.put o.dst v') w') : wpList P ops Q (o :: rest) a w := by
  refine wpList_plain hgd fun K hK => ?_
  obtain ⟨v', w', hrun, a1, a2, a4⟩ := run_push (P := P) w base t o.type e i ht hi hz hsize hby v n xs hown B A m c ys hr hb hbase
  unfold Oper.wp execOp
  simp only [ho, resolve, invoke, builtin, Sem.run_bind, Sem.run_pure, Result.andThen_ok, List.map_toArray, List.map_cons, List.map_nil, hs, hx, hrun]
  exact hK _ _ (h v' w' a1 a2 a4)

theorem eqlNil (n c : Nat) (w : World) : (binOp .eql 24 (.slice none n c) (.slice none 0 0)).run Try.prog w = .ok (.bool true) w := by kernel_rfl
theorem eqlSome (ad : Addr) (n c : Nat) (w : World) : (binOp .eql 24 (.slice (some ad) n c) (.slice none 0 0)).run Try.prog w = .ok (.bool false) w := by kernel_rfl
attribute [local go_sem] eqlNil eqlSome
theorem ints_none {w : World} {C n : Nat} {xs : List Int} (h : Ints w C none n xs) : n = 0 ∧ xs = [] := by
  have h0 : n = 0 := by
    rcases Nat.eq_zero_or_pos n with h1 | h1
    · exact h1
    · obtain ⟨_, h2, _⟩ := h.2 h1; cases h2
  exact ⟨h0, List.eq_nil_of_length_eq_zero (h.1.trans h0)⟩
theorem own_new0 (w : World) : (w.alloc (.cells #[] 3)).ownsRow w.heap.size 3 1 (.slice (some ⟨w.heap.size, 0, none⟩) 0 0) 0 [] :=
  ⟨rfl, .inr ⟨w.heap.size, 0, #[], rfl, Nat.le_refl _, heap_alloc_new w _, Nat.le_refl _, by simp [maxLen], rfl, rfl⟩⟩

set_option maxHeartbeats 1000000 in
theorem clone_c (w : World) (C : Nat) (A : Option Addr) (n c : Nat) (xs : List Int) (hx : Ints w C A n xs) (hC : C ≤ w.heap.size) (hn : n ≤ 100000) :
    Calls Try.prog 18 #[.slice A n c] w fun e w' => ∃ v, e = .returned v ∧ w'.ownsRow w.heap.size 3 1 v n (xs.map (Value.int .i64)) ∧ Below w.heap.size w w' := by
  have HX := Lib.hid hx
  clear hx
  go_enter Try.func18, Try.ntmps18
  rcases A with _ | ad
  · obtain ⟨rfl, rfl⟩ := ints_none HX.out
    go_wp2
    go_ret
    exact ⟨_, rfl, World.ownsRow_nil _ _ _ _, Below.refl _ _⟩
  · obtain ⟨i0, hi0, hz0, hz1, hz2⟩ := info_parts info3
    have HY := Lib.hid (HX.out.below (C := w.heap.size) (w' := w.alloc (.cells #[] 3)) ((Below.refl _ _).alloc (Nat.le_refl _) _) hC)
    go_wp2_with (at_builtin; refine wpList_push _ rfl (.tmp 5) (.tmp 6) 24 rfl w.heap.size 3 i0 Try.underlying24 hi0 hz0 hz1 hz2 _ 0 [] rfl (own_new0 w) C (some ad) n c xs rfl HY.out (by omega) (by simp) ?_; intro v1 w1 ho hg _; have HO := Lib.hid ho; have HG := Lib.hid hg; clear ho hg)
    obtain ⟨A1, c1, rfl⟩ := own_form HO.out
    go_ret
    have ho := HO.out
    rw [Nat.zero_add, List.nil_append] at ho
    exact ⟨.slice A1 n c1, by simp, ho, ((Below.refl _ _).alloc (Nat.le_refl _) _).grown HG.out (by simp) (fun k hk => Nat.le_of_eq (Option.some.inj hk))⟩

/-- What own reads and writes, behind any of its steps. -/
theorem held_on {w0 w1 w2 : World} {v u x y : Value} (h : w1.cell? ⟨w0.heap.size, 0, none⟩ = some v ∧ w1.cell? ⟨w0.heap.size, 1, none⟩ = some u ∧ w1.heap[w0.heap.size + 1]? = some (.cells #[x, y] 26 (0, 0)) ∧ Below w0.heap.size w0 w1) (hb : Below w1.heap.size w1 w2) :
    w2.cell? ⟨w0.heap.size, 0, none⟩ = some v ∧ w2.cell? ⟨w0.heap.size, 1, none⟩ = some u ∧ w2.heap[w0.heap.size + 1]? = some (.cells #[x, y] 26 (0, 0)) ∧ Below w0.heap.size w0 w2 := by
  obtain ⟨h0, h1, h2, h3⟩ := h
  have hs := hb.size
  have hl := lt_of_block h2
  exact ⟨(hb.cell (p := ⟨_, 0, none⟩) (by show w0.heap.size < _; omega)).trans h0, (hb.cell (p := ⟨_, 1, none⟩) (by show w0.heap.size < _; omega)).trans h1, (hb.block _ hl).trans h2, h3.trans (hb.mono (by omega))⟩

theorem held_start (w : World) (v u x y : Value) : ((w.alloc (.cells #[v, u] 26)).alloc (.cells #[x, y] 26)).drew.cell? ⟨w.heap.size, 0, none⟩ = some v ∧ ((w.alloc (.cells #[v, u] 26)).alloc (.cells #[x, y] 26)).drew.cell? ⟨w.heap.size, 1, none⟩ = some u ∧
    ((w.alloc (.cells #[v, u] 26)).alloc (.cells #[x, y] 26)).drew.heap[w.heap.size + 1]? = some (.cells #[x, y] 26 (0, 0)) ∧ Below w.heap.size w ((w.alloc (.cells #[v, u] 26)).alloc (.cells #[x, y] 26)).drew := by
  have h0 : ((w.alloc (.cells #[v, u] 26)).alloc (.cells #[x, y] 26)).heap[w.heap.size]? = some (.cells #[v, u] 26 (0, 0)) :=
    (Below.heap_alloc _ _ _ (by simp)).trans (heap_alloc_new w _)
  have h1 : ((w.alloc (.cells #[v, u] 26)).alloc (.cells #[x, y] 26)).heap[w.heap.size + 1]? = some (.cells #[x, y] 26 (0, 0)) := by
    have := heap_alloc_new (w.alloc (.cells #[v, u] 26)) (.cells #[x, y] 26)
    simpa using this
  exact ⟨cell_of_row _ _ 0 _ _ _ h0, cell_of_row _ _ 1 _ _ _ h0, h1, (((Below.refl _ _).alloc (Nat.le_refl _) _).alloc (by simp) _).drew⟩

theorem own_mono {w : World} {B B' e size n : Nat} {v : Value} {xs : List Value} (h : w.ownsRow B e size v n xs) (hB : B' ≤ B) : w.ownsRow B' e size v n xs := by
  refine ⟨h.1, ?_⟩
  rcases h.2 with h2 | ⟨g, cap, cur, hv, hg, r⟩
  · exact .inl h2
  · exact .inr ⟨g, cap, cur, hv, Nat.le_trans hB hg, r⟩
theorem own_fin (w w1 : World) (B n : Nat) (u v x y : Value) (xs : List Value) (hr : w1.heap[w.heap.size + 1]? = some (.cells #[x, y] 26 (0, 0))) (ho : w1.ownsRow B 3 1 v n xs) (hb : Below w.heap.size w w1) :
    ((w1.setCell ⟨w.heap.size + 1, 0, none⟩ u).setCell ⟨w.heap.size + 1, 1, none⟩ v).cell? ⟨w.heap.size + 1, 0, none⟩ = some u ∧ ((w1.setCell ⟨w.heap.size + 1, 0, none⟩ u).setCell ⟨w.heap.size + 1, 1, none⟩ v).cell? ⟨w.heap.size + 1, 1, none⟩ = some v ∧
    ((w1.setCell ⟨w.heap.size + 1, 0, none⟩ u).setCell ⟨w.heap.size + 1, 1, none⟩ v).ownsRow B 3 1 v n xs ∧ Below w.heap.size w ((w1.setCell ⟨w.heap.size + 1, 0, none⟩ u).setCell ⟨w.heap.size + 1, 1, none⟩ v) := by
  have h1 : (w1.setCell ⟨w.heap.size + 1, 0, none⟩ u).heap[w.heap.size + 1]? = some (.cells #[u, y] 26 (0, 0)) := by
    rw [heap_setCell_same w1 (w.heap.size + 1) 0 _ _ _ hr]; rfl
  have h2 : ((w1.setCell ⟨w.heap.size + 1, 0, none⟩ u).setCell ⟨w.heap.size + 1, 1, none⟩ v).heap[w.heap.size + 1]? = some (.cells #[u, v] 26 (0, 0)) := by
    rw [heap_setCell_same _ (w.heap.size + 1) 1 _ _ _ h1]; rfl
  have hne := own_ne ho hr (by decide)
  exact ⟨cell_of_row _ _ 0 _ _ _ h2, cell_of_row _ _ 1 _ _ _ h2, ownsRow_setCell_other (a := ⟨w.heap.size + 1, 1, none⟩) (ownsRow_setCell_other (a := ⟨w.heap.size + 1, 0, none⟩) ho hne u) hne v, (hb.setCell (Nat.le_succ _) _).setCell (Nat.le_succ _) _⟩

set_option maxHeartbeats 1000000 in
theorem own_c (w : World) (f : Int) (C : Nat) (A : Option Addr) (n c : Nat) (xs : List Int) (hx : Ints w C A n xs) (hC : C ≤ w.heap.size) (hn : n ≤ 100000) :
    Calls Try.prog 17 #[.agg #[.int .i64 f, .slice A n c]] w fun e w' => ∃ v, e = .returned (.agg #[.int .i64 f, v]) ∧ w'.ownsRow w.heap.size 3 1 v n (xs.map (Value.int .i64)) ∧ Below w.heap.size w w' := by
  have hS := held_start w (.int .i64 f) (.slice A n c) (.int .i64 0) (.slice none 0 0)
  have HX := Lib.hid (hx.below hS.2.2.2 hC)
  have HC := Lib.hid (Nat.le_trans hC hS.2.2.2.size)
  have HZ := Lib.hid hS.2.2.2.size
  have HS := Lib.hid hS
  have k0 := hS.1
  have k1 := hS.2.1
  clear hx hS
  go_enter Try.func17, Try.ntmps17
  go_wp2
  go_region_with (go_at_call 18; refine (clone_c _ C A n c xs HX.out HC.out hn).mono ?_; rintro e w1 ⟨v, rfl, ho, hb⟩; obtain ⟨A1, c1, rfl⟩ := own_form ho; have hS := held_on HS.out hb; have k0 := hS.1; have k1 := hS.2.1; have HR := Lib.hid hS.2.2.1; have HB := Lib.hid hS.2.2.2; have HO := Lib.hid ho; have k2 := cell_of_row w1 _ 0 _ _ _ hS.2.2.1; have k3 := cell_of_row w1 _ 1 _ _ _ hS.2.2.1; have f2 := frozen_of_row w1 _ 0 _ _ hS.2.2.1; have f3 := frozen_of_row w1 _ 1 _ _ hS.2.2.1; clear hS ho hb)
  all_goals
    have hF := own_fin w w1 _ n (.int .i64 f) (.slice A1 n c1) _ _ _ HR.out HO.out HB.out
    have q0 := hF.1
    have q1 := hF.2.1
    have HF := Lib.hid hF
    clear hF
    go_wp2
    refine bodyPost_ret (v := .agg #[.int .i64 f, .slice A1 n c1]) ?_ rfl ⟨_, rfl, own_mono HF.out.2.2.1 HZ.out, HF.out.2.2.2⟩
    simp [results, Try.results17, go_sem, q0, q1]
end Go.Proofs.Ythhcajgkfolkjaa.Fns
