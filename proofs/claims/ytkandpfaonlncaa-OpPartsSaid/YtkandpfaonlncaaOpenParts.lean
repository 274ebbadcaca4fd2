/- Arguments that are slices of operations, opened, over the printed namespace POpParts. -/
import Derived.Test.YtkandpfaonlncaaSpecParts
import Derived.SizedLaws
import Derived.Deep.Slices
import Derived.Deep.Fields
import Derived.ChangeSame
import Derived.OpenShut
namespace Go.Proofs.Ytkandpfaonlncaa.FnsParts
open Go Go.RowKit Go.Proofs.Ytkandpfaonlncaa.SpecParts Go.Proofs.Ytkandpfaonlncaa.POpParts Go.Proofs.YtkandpfaonlncaaW.PrintWords Go.Proofs.YtkandpfaonlncaaW.PrintMore
/-- A slice that reads as a list of operations. -/
def OpsAt (w : World) (A : Option Addr) (n : Nat) (l : List S37) : Prop := Kd.C k37 w A n l
theorem OpsAt.below {w w' : World} {A : Option Addr} {n : Nat} {l : List S37} (h : OpsAt w A n l) (hb : Below w.heap.size w w') : OpsAt w' A n l := Kd.C_below h hb
theorem OpsAt.len {w : World} {A : Option Addr} {n : Nat} {l : List S37} (h : OpsAt w A n l) : l.length = n := h.1

end Go.Proofs.Ytkandpfaonlncaa.FnsParts
namespace Go.Proofs.Ytkandpfaonlncaa.OpenParts
open Go.ChangeShapes Go.WideShapes Go.Deep Go.RowKit Go.Proofs.Ytkandpfaonlncaa.SpecParts Go.Proofs.Ytkandpfaonlncaa.POpParts FnsParts
instance : Inhabited S37 := ⟨⟨0, 0, 0, 0⟩⟩
theorem four_of {α : Type} (l : List α) (h : l.length = 4) : ∃ a b c d, l = [a, b, c, d] := by
  match l, h with
  | [a, b, c, d], _ => exact ⟨a, b, c, d, rfl⟩
/-- A struct of four ints, opened. -/
theorem op_of {H : Type} {enc : TypeId × Value → H} {W : World} {base : Nat} {spare : Nat → Bool} {held : Bool} {fuel : Nat} {cs : List Value} {x : DataW H × List MemPlace}
    (h : DataW.trod enc Try.prog W base spare held fuel 37 cs = some x) : ∃ o : S37, cs = [.int .i64 o.f0, .int .i64 o.f1, .int .i64 o.f2, .int .i64 o.f3] ∧ Okay o := by
  obtain ⟨xs, n, _, _, hcl, hlen, hg⟩ := DataW.trod_struct Try.underlying37 h
  have hC : Try.prog.cellsOf 37 = 4 := by kernel_rfl
  have c3 : Try.prog.cellsOf 3 = 1 := by kernel_rfl
  obtain ⟨a, b, c, d, rfl⟩ := four_of cs (hcl.trans hC)
  obtain ⟨x0, x1, x2, x3, rfl⟩ := four_of xs hlen
  have g0 : DataW.trod enc Try.prog W base spare held n 3 [a] = some x0 := by have := hg 0 _ rfl; simpa [c3] using this
  have g1 : DataW.trod enc Try.prog W base spare held n 3 [b] = some x1 := by have := hg 1 _ rfl; simpa [c3] using this
  have g2 : DataW.trod enc Try.prog W base spare held n 3 [c] = some x2 := by have := hg 2 _ rfl; simpa [c3] using this
  have g3 : DataW.trod enc Try.prog W base spare held n 3 [d] = some x3 := by have := hg 3 _ rfl; simpa [c3] using this
  obtain ⟨n0, e0, _, w0⟩ := DataW.trod_int Try.underlying3 g0
  obtain ⟨n1, e1, _, w1⟩ := DataW.trod_int Try.underlying3 g1
  obtain ⟨n2, e2, _, w2⟩ := DataW.trod_int Try.underlying3 g2
  obtain ⟨n3, e3, _, w3⟩ := DataW.trod_int Try.underlying3 g3
  refine ⟨⟨n0, n1, n2, n3⟩, ?_, bounds_i64 w0, bounds_i64 w1, bounds_i64 w2, bounds_i64 w3⟩
  simp at e0 e1 e2 e3
  rw [e0, e1, e2, e3]
/-- An argument that is a slice of operations, opened. -/
theorem ops_arg {H : Type} {enc : TypeId × Value → H} {W : World} {base : Nat} {spare : Nat → Bool} {held : Bool} {a : Option Addr} {len cap : Nat} {d : DataW H} {ps : List MemPlace} {ts : List TypeId} {ds : List (DataW H)} {j : Nat} {t : TypeId}
    (_ : (DataW.weightsEach Try.prog ts ds).all (· ≤ reachBytes) = true) (_ : ts[j]? = some t) (_ : ds[j]? = some d) (h : DataW.Trod enc Try.prog W base spare held 22 (.slice a len cap) d ps) :
    ∃ l : List S37, OpsAt W a len l ∧ len ≤ cap ∧ cap ≤ maxLen ∧ ∀ o ∈ l, Okay o := by
  obtain ⟨fuel, hf⟩ := h
  rcases open_slice Try.underlying22 hf with ⟨hcs, _⟩ | ⟨x, l, c, m, n, D, Pl, hcs, _, hl, hm, hmm, _, hi⟩
  · simp [Value.cells] at hcs
    obtain ⟨rfl, rfl, rfl⟩ := hcs
    exact ⟨[], ⟨rfl, by omega, fun h => absurd h (by omega)⟩, Nat.le_refl _, by simp [maxLen], by simp⟩
  · simp [Value.cells] at hcs
    obtain ⟨rfl, rfl, rfl⟩ := hcs
    have hC : Try.prog.cellsOf 37 = 4 := by kernel_rfl
    rw [hC] at hi
    have hlm : len ≤ m := by
      rw [hmm]; split
      · exact hl
      · exact Nat.le_refl _
    have each : ∀ i, i < len → ∃ o : S37, (∀ q u, [Value.int .i64 o.f0, .int .i64 o.f1, .int .i64 o.f2, .int .i64 o.f3][q]? = some u → W.cell? (x.add (i * 4 + q)) = some u) ∧ Okay o := by
      intro i hlt
      obtain ⟨cs', hc, ht⟩ := hi i (by omega)
      obtain ⟨o, rfl, ho⟩ := op_of ht
      obtain ⟨_, _, hat⟩ := World.cells?_some hc
      refine ⟨o, fun q u hu => ?_, ho⟩
      have hq : q < 4 := by have := (List.getElem?_eq_some_iff.1 hu).1; simpa using this
      rw [← Go.Deep.add_add, hat q hq, hu]
    obtain ⟨f, hf2⟩ := choose_lt each
    have hm2 : len ≤ 9223372036854775807 := by unfold maxLen at hm; omega
    refine ⟨(List.range len).map f, ⟨by simp, hm2, fun _ => ⟨x, rfl, fun i p hp => ?_⟩⟩, hl, hm, fun o ho => ?_⟩
    · simp only [List.getElem?_map] at hp
      obtain ⟨i', hi', rfl⟩ := Option.map_eq_some_iff.1 hp
      obtain ⟨hlt, rfl⟩ := List.getElem?_eq_some_iff.1 hi'
      simp only [List.length_range] at hlt
      rw [List.getElem_range]
      exact ⟨_, rfl, k37_mk W _, (hf2 i hlt).1⟩
    · obtain ⟨i, hi', rfl⟩ := List.mem_map.1 ho
      exact (hf2 i (by simpa using hi')).2
end Go.Proofs.Ytkandpfaonlncaa.OpenParts
