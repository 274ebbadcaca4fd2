/-
  No cell of these rows narrows 'for every input' (looked for: loops, veiled, ifaces, maps, wideKeys, modest, calm, conditions, laid).
  DERIVED. THE GIVEN ROWS OF THIS SEAT. 5 by the template 'for every input the law returns true; each argument reads behind the call as it read before'; 0 by the template 'total and deterministic' (their statements: YtembjpfgoogbgaaTotals.lean).
  GIVEN WITH THE SEED: the statements are not yours to turn. If you find one false, say at which input.
  Laid BY PROGRAM, IN A SANDBOX (cutbox-rows.mjs): the forced cells as the released guide's own fill.sh prints them over the translation cf792e1af3603dec… (all of the seat's roots in one cut). By AI agents, Wed Nov 11 2026. No macro, syntax, notation, axiom, sorry.
-/
import Derived.Test.YtembjpfgoogbgaaChecked
import GoSem.Claim
import GoSem.ClaimJoined
import GoSem.ClaimMapViews
import Derived.JoinedTies
import Derived.KernelRfl
namespace Go.Proofs.Ytembjpfgoogbgaa
/- THE CELL 'sum', in the pinned program and in every row, IS THE sha256 OF THE DUMP (.gsa) THAT YtembjpfgoogbgaaProg.lean LOADS. Nothing in Lean hashes anything: it is a label: what it is worth is what the hold of that sum in a sandbox is worth. -/
noncomputable def Try.pinned : Pinned := { name := "ytembjpfgoogbgaa", sum := "cf792e1af3603dec97c07131fd83f13d216a6e5041f1d9be3d56a7fe37315378", checked := Try.checked }
namespace Rows
def none {H : Type} : Left H := { results := [], args := [] }

/-- 'gloaminglaw10.HandleRuns': WHATEVER THE INPUT: true; the input reads as it did. -/
def handleRunsSpec : ChangeSpec := { name := "handleRuns", fn := fun _ => fun
  | [d] => { results := [.lit (.bool true)], args := [d] }
  | _ => none }
def handleRunsRow : OpenClaim := { program := "ytembjpfgoogbgaa", sum := "cf792e1af3603dec97c07131fd83f13d216a6e5041f1d9be3d56a7fe37315378", func := "gloaming/gloaminglaw10.HandleRuns", spec := "handleRuns", apart := false }
def HandleRunsSaid : Prop := handleRunsRow.holds Try.pinned (OpenSpec.ofChange handleRunsSpec)

/-- ITS FALSE NEIGHBOUR: 'it returns false'. Refute it at one input. -/
def handleRunsWrong : ChangeSpec := { name := "handleRuns", fn := fun _ => fun
  | [d] => { results := [.lit (.bool false)], args := [d] }
  | _ => none }
def HandleRunsWrongFalsely : Prop := handleRunsRow.holds Try.pinned (OpenSpec.ofChange handleRunsWrong)

/-- 'gloaminglaw10.HandleStale': WHATEVER THE INPUT: true; the input reads as it did. -/
def handleStaleSpec : ChangeSpec := { name := "handleStale", fn := fun _ => fun
  | [d1, d2, d3] => { results := [.lit (.bool true)], args := [d1, d2, d3] }
  | _ => none }
def handleStaleRow : OpenClaim := { program := "ytembjpfgoogbgaa", sum := "cf792e1af3603dec97c07131fd83f13d216a6e5041f1d9be3d56a7fe37315378", func := "gloaming/gloaminglaw10.HandleStale", spec := "handleStale", apart := false }
def HandleStaleSaid : Prop := handleStaleRow.holds Try.pinned (OpenSpec.ofChange handleStaleSpec)

/-- ITS FALSE NEIGHBOUR: 'it returns false'. Refute it at one input. -/
def handleStaleWrong : ChangeSpec := { name := "handleStale", fn := fun _ => fun
  | [d1, d2, d3] => { results := [.lit (.bool false)], args := [d1, d2, d3] }
  | _ => none }
def HandleStaleWrongFalsely : Prop := handleStaleRow.holds Try.pinned (OpenSpec.ofChange handleStaleWrong)

/-- 'gloaminglaw10.HandleFull': WHATEVER THE INPUT: true; the input reads as it did. -/
def handleFullSpec : ChangeSpec := { name := "handleFull", fn := fun _ => fun
  | [d] => { results := [.lit (.bool true)], args := [d] }
  | _ => none }
def handleFullRow : OpenClaim := { program := "ytembjpfgoogbgaa", sum := "cf792e1af3603dec97c07131fd83f13d216a6e5041f1d9be3d56a7fe37315378", func := "gloaming/gloaminglaw10.HandleFull", spec := "handleFull", apart := false }
def HandleFullSaid : Prop := handleFullRow.holds Try.pinned (OpenSpec.ofChange handleFullSpec)

/-- ITS FALSE NEIGHBOUR: 'it returns false'. Refute it at one input. -/
def handleFullWrong : ChangeSpec := { name := "handleFull", fn := fun _ => fun
  | [d] => { results := [.lit (.bool false)], args := [d] }
  | _ => none }
def HandleFullWrongFalsely : Prop := handleFullRow.holds Try.pinned (OpenSpec.ofChange handleFullWrong)

/-- 'gloaminglaw10.HandleOrder': WHATEVER THE INPUT: true; the input reads as it did. -/
def handleOrderSpec : ChangeSpec := { name := "handleOrder", fn := fun _ => fun
  | [d1, d2] => { results := [.lit (.bool true)], args := [d1, d2] }
  | _ => none }
def handleOrderRow : OpenClaim := { program := "ytembjpfgoogbgaa", sum := "cf792e1af3603dec97c07131fd83f13d216a6e5041f1d9be3d56a7fe37315378", func := "gloaming/gloaminglaw10.HandleOrder", spec := "handleOrder", apart := false }
def HandleOrderSaid : Prop := handleOrderRow.holds Try.pinned (OpenSpec.ofChange handleOrderSpec)

/-- ITS FALSE NEIGHBOUR: 'it returns false'. Refute it at one input. -/
def handleOrderWrong : ChangeSpec := { name := "handleOrder", fn := fun _ => fun
  | [d1, d2] => { results := [.lit (.bool false)], args := [d1, d2] }
  | _ => none }
def HandleOrderWrongFalsely : Prop := handleOrderRow.holds Try.pinned (OpenSpec.ofChange handleOrderWrong)

/-- 'gloaminglaw10.HandleTwo': WHATEVER THE INPUT: true; the input reads as it did. -/
def handleTwoSpec : ChangeSpec := { name := "handleTwo", fn := fun _ => fun
  | [d1, d2] => { results := [.lit (.bool true)], args := [d1, d2] }
  | _ => none }
def handleTwoRow : OpenClaim := { program := "ytembjpfgoogbgaa", sum := "cf792e1af3603dec97c07131fd83f13d216a6e5041f1d9be3d56a7fe37315378", func := "gloaming/gloaminglaw10.HandleTwo", spec := "handleTwo", apart := false }
def HandleTwoSaid : Prop := handleTwoRow.holds Try.pinned (OpenSpec.ofChange handleTwoSpec)

/-- ITS FALSE NEIGHBOUR: 'it returns false'. Refute it at one input. -/
def handleTwoWrong : ChangeSpec := { name := "handleTwo", fn := fun _ => fun
  | [d1, d2] => { results := [.lit (.bool false)], args := [d1, d2] }
  | _ => none }
def HandleTwoWrongFalsely : Prop := handleTwoRow.holds Try.pinned (OpenSpec.ofChange handleTwoWrong)

/- THE SECOND FORM. 'bulk': how many values and letters a reading holds, each counted each time it is reached (what is shared counts as often as it is met; a slice's spare places count too). A statement '..UptoSaid' is the law's where the arguments, and the package variables that the reading takes, are together of bulk at most 1048576: NARROWER than '..Said'. Prove '..Said' where nothing that the law and all that it calls make is longer than what came in: it says more and counts as full. Else prove '..UptoSaid'. A law counts once. -/
mutual
def uptoBulk {H : Type} : DataW H → Nat
  | .lit (.string bytes) => bytes.length + 1
  | .lit _ => 1
  | .nil => 1
  | .ptr d => uptoBulk d + 1
  | .slice elems spare => uptoBulkAll elems + uptoBulkAll spare + 1
  | .agg parts => uptoBulkAll parts + 1
  | .iface _ d => uptoBulk d + 1
  | .map entries => uptoBulkEntries entries + 1
  | .held _ => 1
def uptoBulkAll {H : Type} : List (DataW H) → Nat
  | [] => 0
  | d :: r => uptoBulk d + uptoBulkAll r
def uptoBulkEntries {H : Type} : List (Lit × DataW H) → Nat
  | [] => 0
  | x :: r => uptoBulkEntry x + uptoBulkEntries r
def uptoBulkEntry {H : Type} : Lit × DataW H → Nat
  | (.string bytes, d) => bytes.length + uptoBulk d + 1
  | (_, d) => uptoBulk d + 1
 end
def uptoSmall : (H : Type) → List (DataW H) → Bool := fun _ ds => decide (uptoBulkAll ds ≤ 1048576)
def OpenSpec.upto (s : _root_.Go.ChangeSpec) : _root_.Go.OpenSpec := { _root_.Go.OpenSpec.ofChange s with cond := some uptoSmall }

/-- 'gloaminglaw10.HandleRuns', WHERE WHAT IT READS IS OF BULK AT MOST 1048576: true; the input reads as it did. -/
def handleRunsUptoRow : OpenClaim := { program := "ytembjpfgoogbgaa", sum := "cf792e1af3603dec97c07131fd83f13d216a6e5041f1d9be3d56a7fe37315378", func := "gloaming/gloaminglaw10.HandleRuns", spec := "handleRuns", apart := false, narrowed := true }
def HandleRunsUptoSaid : Prop := handleRunsUptoRow.holds Try.pinned (OpenSpec.upto handleRunsSpec)

/-- 'gloaminglaw10.HandleStale', WHERE WHAT IT READS IS OF BULK AT MOST 1048576: true; the input reads as it did. -/
def handleStaleUptoRow : OpenClaim := { program := "ytembjpfgoogbgaa", sum := "cf792e1af3603dec97c07131fd83f13d216a6e5041f1d9be3d56a7fe37315378", func := "gloaming/gloaminglaw10.HandleStale", spec := "handleStale", apart := false, narrowed := true }
def HandleStaleUptoSaid : Prop := handleStaleUptoRow.holds Try.pinned (OpenSpec.upto handleStaleSpec)

/-- 'gloaminglaw10.HandleFull', WHERE WHAT IT READS IS OF BULK AT MOST 1048576: true; the input reads as it did. -/
def handleFullUptoRow : OpenClaim := { program := "ytembjpfgoogbgaa", sum := "cf792e1af3603dec97c07131fd83f13d216a6e5041f1d9be3d56a7fe37315378", func := "gloaming/gloaminglaw10.HandleFull", spec := "handleFull", apart := false, narrowed := true }
def HandleFullUptoSaid : Prop := handleFullUptoRow.holds Try.pinned (OpenSpec.upto handleFullSpec)

/-- 'gloaminglaw10.HandleOrder', WHERE WHAT IT READS IS OF BULK AT MOST 1048576: true; the input reads as it did. -/
def handleOrderUptoRow : OpenClaim := { program := "ytembjpfgoogbgaa", sum := "cf792e1af3603dec97c07131fd83f13d216a6e5041f1d9be3d56a7fe37315378", func := "gloaming/gloaminglaw10.HandleOrder", spec := "handleOrder", apart := false, narrowed := true }
def HandleOrderUptoSaid : Prop := handleOrderUptoRow.holds Try.pinned (OpenSpec.upto handleOrderSpec)

/-- 'gloaminglaw10.HandleTwo', WHERE WHAT IT READS IS OF BULK AT MOST 1048576: true; the input reads as it did. -/
def handleTwoUptoRow : OpenClaim := { program := "ytembjpfgoogbgaa", sum := "cf792e1af3603dec97c07131fd83f13d216a6e5041f1d9be3d56a7fe37315378", func := "gloaming/gloaminglaw10.HandleTwo", spec := "handleTwo", apart := false, narrowed := true }
def HandleTwoUptoSaid : Prop := handleTwoUptoRow.holds Try.pinned (OpenSpec.upto handleTwoSpec)

end Rows
end Go.Proofs.Ytembjpfgoogbgaa
