/-
  No cell of these rows narrows 'for every input' (looked for: loops, veiled, ifaces, maps, wideKeys, modest, calm, conditions, laid).
  DERIVED. THE GIVEN ROWS OF THIS SEAT. 4 by the template 'for every input the law returns true; each argument reads behind the call as it read before'; 0 by the template 'total and deterministic' (their statements: YthhcajgkfolkjaaTotals.lean).
  GIVEN WITH THE SEED: the statements are not yours to turn. If you find one false, say at which input.
  Laid BY PROGRAM, IN A SANDBOX (cutbox-rows.mjs): the forced cells as the released guide's own fill.sh prints them over the translation a11ce3f2f68c93f1… (all of the seat's roots in one cut). By AI agents, Wed Nov 11 2026. No macro, syntax, notation, axiom, sorry.
-/
import Derived.Test.YthhcajgkfolkjaaChecked
import GoSem.Claim
import GoSem.ClaimJoined
import GoSem.ClaimMapViews
import Derived.JoinedTies
import Derived.KernelRfl
namespace Go.Proofs.Ythhcajgkfolkjaa
/- THE CELL 'sum', in the pinned program and in every row, IS THE sha256 OF THE DUMP (.gsa) THAT YthhcajgkfolkjaaProg.lean LOADS. Nothing in Lean hashes anything: it is a label: what it is worth is what the hold of that sum in a sandbox is worth. -/
noncomputable def Try.pinned : Pinned := { name := "ythhcajgkfolkjaa", sum := "a11ce3f2f68c93f1f377cec91b8887c9feb91e3ee8390d3b40985f2afcf34fe7", checked := Try.checked }
namespace Rows
def none {H : Type} : Left H := { results := [], args := [] }

/-- 'gloaminglaw7.ClassRefuses': WHATEVER THE INPUT: true; the input reads as it did. -/
def classRefusesSpec : ChangeSpec := { name := "classRefuses", fn := fun _ => fun
  | [d1, d2, d3] => { results := [.lit (.bool true)], args := [d1, d2, d3] }
  | _ => none }
def classRefusesRow : OpenClaim := { program := "ythhcajgkfolkjaa", sum := "a11ce3f2f68c93f1f377cec91b8887c9feb91e3ee8390d3b40985f2afcf34fe7", func := "gloaming/gloaminglaw7.ClassRefuses", spec := "classRefuses", apart := false }
def ClassRefusesSaid : Prop := classRefusesRow.holds Try.pinned (OpenSpec.ofChange classRefusesSpec)

/-- ITS FALSE NEIGHBOUR: 'it returns false'. Refute it at one input. -/
def classRefusesWrong : ChangeSpec := { name := "classRefuses", fn := fun _ => fun
  | [d1, d2, d3] => { results := [.lit (.bool false)], args := [d1, d2, d3] }
  | _ => none }
def ClassRefusesWrongFalsely : Prop := classRefusesRow.holds Try.pinned (OpenSpec.ofChange classRefusesWrong)

/-- 'gloaminglaw7.ClassRuns': WHATEVER THE INPUT: true; the input reads as it did. -/
def classRunsSpec : ChangeSpec := { name := "classRuns", fn := fun _ => fun
  | [d1, d2] => { results := [.lit (.bool true)], args := [d1, d2] }
  | _ => none }
def classRunsRow : OpenClaim := { program := "ythhcajgkfolkjaa", sum := "a11ce3f2f68c93f1f377cec91b8887c9feb91e3ee8390d3b40985f2afcf34fe7", func := "gloaming/gloaminglaw7.ClassRuns", spec := "classRuns", apart := false }
def ClassRunsSaid : Prop := classRunsRow.holds Try.pinned (OpenSpec.ofChange classRunsSpec)

/-- ITS FALSE NEIGHBOUR: 'it returns false'. Refute it at one input. -/
def classRunsWrong : ChangeSpec := { name := "classRuns", fn := fun _ => fun
  | [d1, d2] => { results := [.lit (.bool false)], args := [d1, d2] }
  | _ => none }
def ClassRunsWrongFalsely : Prop := classRunsRow.holds Try.pinned (OpenSpec.ofChange classRunsWrong)

/-- 'gloaminglaw7.ClassFull': WHATEVER THE INPUT: true; the input reads as it did. -/
def classFullSpec : ChangeSpec := { name := "classFull", fn := fun _ => fun
  | [d1, d2] => { results := [.lit (.bool true)], args := [d1, d2] }
  | _ => none }
def classFullRow : OpenClaim := { program := "ythhcajgkfolkjaa", sum := "a11ce3f2f68c93f1f377cec91b8887c9feb91e3ee8390d3b40985f2afcf34fe7", func := "gloaming/gloaminglaw7.ClassFull", spec := "classFull", apart := false }
def ClassFullSaid : Prop := classFullRow.holds Try.pinned (OpenSpec.ofChange classFullSpec)

/-- ITS FALSE NEIGHBOUR: 'it returns false'. Refute it at one input. -/
def classFullWrong : ChangeSpec := { name := "classFull", fn := fun _ => fun
  | [d1, d2] => { results := [.lit (.bool false)], args := [d1, d2] }
  | _ => none }
def ClassFullWrongFalsely : Prop := classFullRow.holds Try.pinned (OpenSpec.ofChange classFullWrong)

/-- 'gloaminglaw7.ClassOf': WHATEVER THE INPUT: true; the input reads as it did. -/
def classOfSpec : ChangeSpec := { name := "classOf", fn := fun _ => fun
  | [d1, d2] => { results := [.lit (.bool true)], args := [d1, d2] }
  | _ => none }
def classOfRow : OpenClaim := { program := "ythhcajgkfolkjaa", sum := "a11ce3f2f68c93f1f377cec91b8887c9feb91e3ee8390d3b40985f2afcf34fe7", func := "gloaming/gloaminglaw7.ClassOf", spec := "classOf", apart := false }
def ClassOfSaid : Prop := classOfRow.holds Try.pinned (OpenSpec.ofChange classOfSpec)

/-- ITS FALSE NEIGHBOUR: 'it returns false'. Refute it at one input. -/
def classOfWrong : ChangeSpec := { name := "classOf", fn := fun _ => fun
  | [d1, d2] => { results := [.lit (.bool false)], args := [d1, d2] }
  | _ => none }
def ClassOfWrongFalsely : Prop := classOfRow.holds Try.pinned (OpenSpec.ofChange classOfWrong)

/- THE SECOND FORM. 'bulk': how many values and letters a reading holds, each counted each time it is reached (what is shared counts as often as it is met; a slice's spare places count too). A statement '..UptoSaid' is the law's where the arguments, and the package variables that the reading takes, are together of bulk at most 1048576: NARROWER than '..Said'. Prove '..Said' where nothing that the law and all that it calls make is longer than what came in: it says more and counts as full. Else prove '..UptoSaid'. A law counts once. -/
mutual
def uptoBulk {H : Type} : DataW H → Nat
  | .lit (.string bytes) => bytes.length + 1
  | .lit _ => 1
  | .nil => 1
  | .ptr d => uptoBulk d + 1
  | .slice elems spare => uptoBulkAll elems + uptoBulkAll spare + 1
  | .agg parts => uptoBulkAll parts + 1
  | .iface _ d => uptoBulk d + 1
  | .map entries => uptoBulkEntries entries + 1
  | .held _ => 1
def uptoBulkAll {H : Type} : List (DataW H) → Nat
  | [] => 0
  | d :: r => uptoBulk d + uptoBulkAll r
def uptoBulkEntries {H : Type} : List (Lit × DataW H) → Nat
  | [] => 0
  | x :: r => uptoBulkEntry x + uptoBulkEntries r
def uptoBulkEntry {H : Type} : Lit × DataW H → Nat
  | (.string bytes, d) => bytes.length + uptoBulk d + 1
  | (_, d) => uptoBulk d + 1
 end
def uptoSmall : (H : Type) → List (DataW H) → Bool := fun _ ds => decide (uptoBulkAll ds ≤ 1048576)
def OpenSpec.upto (s : _root_.Go.ChangeSpec) : _root_.Go.OpenSpec := { _root_.Go.OpenSpec.ofChange s with cond := some uptoSmall }

/-- 'gloaminglaw7.ClassRefuses', WHERE WHAT IT READS IS OF BULK AT MOST 1048576: true; the input reads as it did. -/
def classRefusesUptoRow : OpenClaim := { program := "ythhcajgkfolkjaa", sum := "a11ce3f2f68c93f1f377cec91b8887c9feb91e3ee8390d3b40985f2afcf34fe7", func := "gloaming/gloaminglaw7.ClassRefuses", spec := "classRefuses", apart := false, narrowed := true }
def ClassRefusesUptoSaid : Prop := classRefusesUptoRow.holds Try.pinned (OpenSpec.upto classRefusesSpec)

/-- 'gloaminglaw7.ClassRuns', WHERE WHAT IT READS IS OF BULK AT MOST 1048576: true; the input reads as it did. -/
def classRunsUptoRow : OpenClaim := { program := "ythhcajgkfolkjaa", sum := "a11ce3f2f68c93f1f377cec91b8887c9feb91e3ee8390d3b40985f2afcf34fe7", func := "gloaming/gloaminglaw7.ClassRuns", spec := "classRuns", apart := false, narrowed := true }
def ClassRunsUptoSaid : Prop := classRunsUptoRow.holds Try.pinned (OpenSpec.upto classRunsSpec)

/-- 'gloaminglaw7.ClassFull', WHERE WHAT IT READS IS OF BULK AT MOST 1048576: true; the input reads as it did. -/
def classFullUptoRow : OpenClaim := { program := "ythhcajgkfolkjaa", sum := "a11ce3f2f68c93f1f377cec91b8887c9feb91e3ee8390d3b40985f2afcf34fe7", func := "gloaming/gloaminglaw7.ClassFull", spec := "classFull", apart := false, narrowed := true }
def ClassFullUptoSaid : Prop := classFullUptoRow.holds Try.pinned (OpenSpec.upto classFullSpec)

/-- 'gloaminglaw7.ClassOf', WHERE WHAT IT READS IS OF BULK AT MOST 1048576: true; the input reads as it did. -/
def classOfUptoRow : OpenClaim := { program := "ythhcajgkfolkjaa", sum := "a11ce3f2f68c93f1f377cec91b8887c9feb91e3ee8390d3b40985f2afcf34fe7", func := "gloaming/gloaminglaw7.ClassOf", spec := "classOf", apart := false, narrowed := true }
def ClassOfUptoSaid : Prop := classOfUptoRow.holds Try.pinned (OpenSpec.upto classOfSpec)

end Rows
end Go.Proofs.Ythhcajgkfolkjaa
