/- The printed functions' contracts in plain words: Put, Get, PutOps, SameOps, the example, over lists of operations; lists of at most 1,000 operations, strings of at most 64,000 bytes. -/
import Derived.Test.YtkandpfaonlncaaGetOps
import Derived.SizedLaws
import Derived.Deep.Slices
import Derived.Deep.Fields
import Derived.ChangeSame
namespace Go.Proofs.Ytkandpfaonlncaa.Fns
open Go Go.RowKit Go.Proofs.Ytkandpfaonlncaa.Spec Go.Proofs.Ytkandpfaonlncaa.POpAll Go.Proofs.YtkandpfaonlncaaW.PrintWords Go.Proofs.YtkandpfaonlncaaW.PrintMore

/-- A slice that reads as a list of operations. -/
def OpsAt (w : World) (A : Option Addr) (n : Nat) (l : List S37) : Prop := Kd.C k37 w A n l
theorem OpsAt.below {w w' : World} {A : Option Addr} {n : Nat} {l : List S37} (h : OpsAt w A n l) (hb : Below w.heap.size w w') : OpsAt w' A n l := Kd.C_below h hb
theorem OpsAt.len {w : World} {A : Option Addr} {n : Nat} {l : List S37} (h : OpsAt w A n l) : l.length = n := h.1

theorem cells4_at (l : List S37) : ∀ (j : Nat) (p : S37), l[j]? = some p → ∀ i u, [Value.int .i64 p.f0, .int .i64 p.f1, .int .i64 p.f2, .int .i64 p.f3][i]? = some u → (cells4 l)[j * 4 + i]? = some u := by
  induction l with
  | nil => intro j p h; simp at h
  | cons o l ih =>
    intro j p h i u hu
    have hlt : i < 4 := by have := (List.getElem?_eq_some_iff.1 hu).1; simpa using this
    have e : cells4 (o :: l) = [Value.int .i64 o.f0, .int .i64 o.f1, .int .i64 o.f2, .int .i64 o.f3] ++ cells4 l := by unfold cells4; rw [List.flatMap_cons]
    rw [e]
    cases j with
    | zero =>
      simp at h; subst h
      rw [List.getElem?_append_left (by simp; omega), Nat.zero_mul, Nat.zero_add]; exact hu
    | succ j =>
      rw [List.getElem?_append_right (by simp; omega)]
      have := ih j p (by simpa using h) i u hu
      rw [← this]; congr 1; simp; omega
theorem ops_of_own {w : World} {base n c : Nat} {A : Option Addr} {l : List S37} (h : w.ownsRow base 37 4 (.slice A n c) n (cells4 l)) (hl : l.length = n) (hn : n ≤ 100000) : OpsAt w A n l := by
  refine ⟨hl, by omega, fun hp => ?_⟩
  rcases h.2 with ⟨_, h0⟩ | ⟨g, cap, cur, hv, _, _, _⟩
  · omega
  · injection hv with hv _ _
    subst hv
    refine ⟨⟨g, 0, none⟩, rfl, fun j p hj => ⟨_, rfl, k37_mk w p, fun i u hu => ?_⟩⟩
    exact h.cells (g := g) rfl (j * 4 + i) u (cells4_at l j p hj i u hu)
theorem ops_of_R {w : World} {base : Nat} {ok : Nat → Prop} {v : Value} {l : List S37} (h : Kd.R k37 37 w base ok v l) : ∃ A c, v = .slice A l.length c ∧ l.length ≤ c ∧ OpsAt w A l.length l := Kd.R_reads h

theorem getFrom_len (s : ByteArray) : ∀ (n p : Nat), (getFrom s p n).length = n
  | 0, _ => rfl
  | n + 1, p => by simp only [getFrom, List.length_cons, getFrom_len s n (p + 32)]
theorem getL_len (s : ByteArray) : (getL s).length = s.size / 32 := getFrom_len s _ 0

theorem put_w (w : World) (A : Option Addr) (c n : Nat) (l : List S37) (h : OpsAt w A n l) (hc : n ≤ c) (hl : n ≤ 1000) :
    Calls Try.prog 10 #[.slice A n c] w fun e w' => e = .returned (.string (strOfNums (put l))) ∧ Below w.heap.size w w' := by
  obtain rfl := h.len
  exact op_Put.calls (6 * l.length + 20) A c l _ w h hc (put_eq l (by omega) _ (Nat.le_refl _))
theorem pops_w (w : World) (A : Option Addr) (c n : Nat) (l : List S37) (h : OpsAt w A n l) (hc : n ≤ c) (hl : n ≤ 1000) :
    Calls Try.prog 11 #[.slice A n c] w fun e w' => e = .returned (.string (strOfNums (put l))) ∧ Below w.heap.size w w' := by
  obtain rfl := h.len
  exact gloamingref20_PutOps.calls (42 * l.length + 20) A c l _ w h hc (pops_eq l (by omega) _ (Nat.le_refl _))
theorem same_w (w : World) (A A' : Option Addr) (c c' n : Nat) (l : List S37) (h : OpsAt w A n l) (hc : n ≤ c) (h' : OpsAt w A' n l) (hc' : n ≤ c') (hl : n ≤ 1000) :
    Calls Try.prog 12 #[.slice A n c, .slice A' n c'] w fun e w' => e = .returned (.bool true) ∧ Below w.heap.size w w' := by
  obtain rfl := h.len
  obtain ⟨r, h1, h2⟩ := same_eq l l (by omega) (l.length + 1) (by omega)
  rw [h2.2 rfl] at h1
  refine (gloamingref20_SameOps.calls (l.length + 1) A c l A' c' l true w h hc h' hc' h1).mono ?_
  rintro e w' ⟨rfl, hd⟩
  exact ⟨rfl, hd.below⟩
theorem get_w (w : World) (s : ByteArray) (hs : s.size ≤ 64000) (h : (s.size : Int) % 32 = 0) :
    Calls Try.prog 8 #[.string s] w fun e w' => ∃ A n c, e = .returned (.tuple #[.slice A n c, .int .i64 0]) ∧ n = s.size / 32 ∧ n ≤ c ∧ OpsAt w' A n (getL s) ∧ Below w.heap.size w w' := by
  have hg := get_eq s (by omega) (s.size / 32 + 11) (by omega)
  rw [if_pos h] at hg
  refine (op_Get.calls _ s (getL s) 0 w hg).mono ?_
  rintro e w' ⟨v, rfl, hR, hb⟩
  obtain ⟨A, c, rfl, hc, hC⟩ := ops_of_R hR
  rw [getL_len] at hC hc ⊢
  exact ⟨A, _, c, rfl, rfl, hc, hC, hb⟩
theorem get_bad (w : World) (s : ByteArray) (hs : s.size ≤ 64000) (h : (s.size : Int) % 32 ≠ 0) :
    Calls Try.prog 8 #[.string s] w fun e w' => ∃ A c, e = .returned (.tuple #[.slice A 0 c, .int .i64 7]) ∧ Below w.heap.size w w' := by
  have hg := get_eq s (by omega) (s.size / 32 + 11) (by omega)
  rw [if_neg h] at hg
  refine (op_Get.calls _ s [] 7 w hg).mono ?_
  rintro e w' ⟨v, rfl, hR, hb⟩
  obtain ⟨A, c, rfl⟩ := Kd.R_slice hR
  exact ⟨A, c, rfl, hb⟩
theorem err_w (n : Int) (w : World) : Calls Try.prog 13 #[.int .i64 n] w fun e w' => e = .returned (.int .i64 n) ∧ w = w' := by
  go_enter Try.func13, Try.ntmps13
  go_wp2
  go_ret
  exact ⟨rfl, rfl⟩
end Go.Proofs.Ytkandpfaonlncaa.Fns
namespace Go.Proofs.Ytkandpfaonlncaa
open Go.ChangeShapes Go.WideShapes Go.Deep Go.RowKit Go.Proofs.Ytkandpfaonlncaa.Spec Go.Proofs.Ytkandpfaonlncaa.POpAll Fns
instance : Inhabited S37 := ⟨⟨0, 0, 0, 0⟩⟩
theorem four_of {α : Type} (l : List α) (h : l.length = 4) : ∃ a b c d, l = [a, b, c, d] := by
  match l, h with
  | [a, b, c, d], _ => exact ⟨a, b, c, d, rfl⟩
/-- A struct of four ints, opened. -/
theorem op_of {H : Type} {enc : TypeId × Value → H} {W : World} {base : Nat} {spare : Nat → Bool} {held : Bool} {fuel : Nat} {cs : List Value} {x : DataW H × List MemPlace}
    (h : DataW.trod enc Try.prog W base spare held fuel 37 cs = some x) : ∃ o : S37, cs = [.int .i64 o.f0, .int .i64 o.f1, .int .i64 o.f2, .int .i64 o.f3] ∧ Okay o := by
  obtain ⟨xs, n, _, _, hcl, hlen, hg⟩ := DataW.trod_struct Try.underlying37 h
  have hC : Try.prog.cellsOf 37 = 4 := by kernel_rfl
  have c3 : Try.prog.cellsOf 3 = 1 := by kernel_rfl
  obtain ⟨a, b, c, d, rfl⟩ := four_of cs (hcl.trans hC)
  obtain ⟨x0, x1, x2, x3, rfl⟩ := four_of xs hlen
  have g0 : DataW.trod enc Try.prog W base spare held n 3 [a] = some x0 := by have := hg 0 _ rfl; simpa [c3] using this
  have g1 : DataW.trod enc Try.prog W base spare held n 3 [b] = some x1 := by have := hg 1 _ rfl; simpa [c3] using this
  have g2 : DataW.trod enc Try.prog W base spare held n 3 [c] = some x2 := by have := hg 2 _ rfl; simpa [c3] using this
  have g3 : DataW.trod enc Try.prog W base spare held n 3 [d] = some x3 := by have := hg 3 _ rfl; simpa [c3] using this
  obtain ⟨n0, e0, _, w0⟩ := DataW.trod_int Try.underlying3 g0
  obtain ⟨n1, e1, _, w1⟩ := DataW.trod_int Try.underlying3 g1
  obtain ⟨n2, e2, _, w2⟩ := DataW.trod_int Try.underlying3 g2
  obtain ⟨n3, e3, _, w3⟩ := DataW.trod_int Try.underlying3 g3
  refine ⟨⟨n0, n1, n2, n3⟩, ?_, bounds_i64 w0, bounds_i64 w1, bounds_i64 w2, bounds_i64 w3⟩
  simp at e0 e1 e2 e3
  rw [e0, e1, e2, e3]
/-- An argument that is a slice of operations, opened. -/
theorem ops_arg {H : Type} {enc : TypeId × Value → H} {W : World} {base : Nat} {spare : Nat → Bool} {held : Bool} {a : Option Addr} {len cap : Nat} {d : DataW H} {ps : List MemPlace} {ts : List TypeId} {ds : List (DataW H)} {j : Nat} {t : TypeId}
    (_ : (DataW.weightsEach Try.prog ts ds).all (· ≤ reachBytes) = true) (_ : ts[j]? = some t) (_ : ds[j]? = some d) (h : DataW.Trod enc Try.prog W base spare held 22 (.slice a len cap) d ps) :
    ∃ l : List S37, OpsAt W a len l ∧ len ≤ cap ∧ cap ≤ maxLen ∧ ∀ o ∈ l, Okay o := by
  obtain ⟨fuel, hf⟩ := h
  rcases open_slice Try.underlying22 hf with ⟨hcs, _⟩ | ⟨x, l, c, m, n, D, Pl, hcs, _, hl, hm, hmm, _, hi⟩
  · simp [Value.cells] at hcs
    obtain ⟨rfl, rfl, rfl⟩ := hcs
    exact ⟨[], ⟨rfl, by omega, fun h => absurd h (by omega)⟩, Nat.le_refl _, by simp [maxLen], by simp⟩
  · simp [Value.cells] at hcs
    obtain ⟨rfl, rfl, rfl⟩ := hcs
    have hC : Try.prog.cellsOf 37 = 4 := by kernel_rfl
    rw [hC] at hi
    have hlm : len ≤ m := by
      rw [hmm]; split
      · exact hl
      · exact Nat.le_refl _
    have each : ∀ i, i < len → ∃ o : S37, (∀ q u, [Value.int .i64 o.f0, .int .i64 o.f1, .int .i64 o.f2, .int .i64 o.f3][q]? = some u → W.cell? (x.add (i * 4 + q)) = some u) ∧ Okay o := by
      intro i hlt
      obtain ⟨cs', hc, ht⟩ := hi i (by omega)
      obtain ⟨o, rfl, ho⟩ := op_of ht
      obtain ⟨_, _, hat⟩ := World.cells?_some hc
      refine ⟨o, fun q u hu => ?_, ho⟩
      have hq : q < 4 := by have := (List.getElem?_eq_some_iff.1 hu).1; simpa using this
      rw [← Go.Deep.add_add, hat q hq, hu]
    obtain ⟨f, hf2⟩ := choose_lt each
    have hm2 : len ≤ 9223372036854775807 := by unfold maxLen at hm; omega
    refine ⟨(List.range len).map f, ⟨by simp, hm2, fun _ => ⟨x, rfl, fun i p hp => ?_⟩⟩, hl, hm, fun o ho => ?_⟩
    · simp only [List.getElem?_map] at hp
      obtain ⟨i', hi', rfl⟩ := Option.map_eq_some_iff.1 hp
      obtain ⟨hlt, rfl⟩ := List.getElem?_eq_some_iff.1 hi'
      simp only [List.length_range] at hlt
      rw [List.getElem_range]
      exact ⟨_, rfl, k37_mk W _, (hf2 i hlt).1⟩
    · obtain ⟨i, hi', rfl⟩ := List.mem_map.1 ho
      exact (hf2 i (by simpa using hi')).2
end Go.Proofs.Ytkandpfaonlncaa
