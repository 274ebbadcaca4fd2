/-
  No cell of these rows narrows 'for every input' (looked for: loops, veiled, ifaces, maps, wideKeys, modest, calm, conditions, laid).
  DERIVED. THE GIVEN ROWS OF THIS SEAT. 3 by the template 'for every input the law returns true; each argument reads behind the call as it read before'; 0 by the template 'total and deterministic' (their statements: YtlnpngjdpalkdaaTotals.lean).
  GIVEN WITH THE SEED: the statements are not yours to turn. If you find one false, say at which input.
  Laid BY PROGRAM, IN A SANDBOX (cutbox-rows.mjs): the forced cells as the released guide's own fill.sh prints them over the translation aa0601d61afffaf1… (all of the seat's roots in one cut). By AI agents, Wed Nov 11 2026. No macro, syntax, notation, axiom, sorry.
-/
import Derived.Test.YtlnpngjdpalkdaaChecked
import GoSem.Claim
import GoSem.ClaimJoined
import GoSem.ClaimMapViews
import Derived.JoinedTies
import Derived.KernelRfl
namespace Go.Proofs.Ytlnpngjdpalkdaa
/- THE CELL 'sum', in the pinned program and in every row, IS THE sha256 OF THE DUMP (.gsa) THAT YtlnpngjdpalkdaaProg.lean LOADS. Nothing in Lean hashes anything: it is a label: what it is worth is what the hold of that sum in a sandbox is worth. -/
noncomputable def Try.pinned : Pinned := { name := "ytlnpngjdpalkdaa", sum := "aa0601d61afffaf1bf873eb6e491ed20d5218e3ccf9cb967f513f8c8450ea058", checked := Try.checked }
namespace Rows
def none {H : Type} : Left H := { results := [], args := [] }

/-- 'gloaminglaw16.StackTurns': WHATEVER THE INPUT: true; the input reads as it did. -/
def stackTurnsSpec : ChangeSpec := { name := "stackTurns", fn := fun _ => fun
  | [d1, d2] => { results := [.lit (.bool true)], args := [d1, d2] }
  | _ => none }
def stackTurnsRow : OpenClaim := { program := "ytlnpngjdpalkdaa", sum := "aa0601d61afffaf1bf873eb6e491ed20d5218e3ccf9cb967f513f8c8450ea058", func := "gloaming/gloaminglaw16.StackTurns", spec := "stackTurns", apart := false }
def StackTurnsSaid : Prop := stackTurnsRow.holds Try.pinned (OpenSpec.ofChange stackTurnsSpec)

/-- ITS FALSE NEIGHBOUR: 'it returns false'. Refute it at one input. -/
def stackTurnsWrong : ChangeSpec := { name := "stackTurns", fn := fun _ => fun
  | [d1, d2] => { results := [.lit (.bool false)], args := [d1, d2] }
  | _ => none }
def StackTurnsWrongFalsely : Prop := stackTurnsRow.holds Try.pinned (OpenSpec.ofChange stackTurnsWrong)

/-- 'gloaminglaw16.StackRuns': WHATEVER THE INPUT: true; the input reads as it did. -/
def stackRunsSpec : ChangeSpec := { name := "stackRuns", fn := fun _ => fun
  | [d1, d2] => { results := [.lit (.bool true)], args := [d1, d2] }
  | _ => none }
def stackRunsRow : OpenClaim := { program := "ytlnpngjdpalkdaa", sum := "aa0601d61afffaf1bf873eb6e491ed20d5218e3ccf9cb967f513f8c8450ea058", func := "gloaming/gloaminglaw16.StackRuns", spec := "stackRuns", apart := false }
def StackRunsSaid : Prop := stackRunsRow.holds Try.pinned (OpenSpec.ofChange stackRunsSpec)

/-- ITS FALSE NEIGHBOUR: 'it returns false'. Refute it at one input. -/
def stackRunsWrong : ChangeSpec := { name := "stackRuns", fn := fun _ => fun
  | [d1, d2] => { results := [.lit (.bool false)], args := [d1, d2] }
  | _ => none }
def StackRunsWrongFalsely : Prop := stackRunsRow.holds Try.pinned (OpenSpec.ofChange stackRunsWrong)

/-- 'gloaminglaw16.StackOver': WHATEVER THE INPUT: true; the input reads as it did. -/
def stackOverSpec : ChangeSpec := { name := "stackOver", fn := fun _ => fun
  | [d1, d2] => { results := [.lit (.bool true)], args := [d1, d2] }
  | _ => none }
def stackOverRow : OpenClaim := { program := "ytlnpngjdpalkdaa", sum := "aa0601d61afffaf1bf873eb6e491ed20d5218e3ccf9cb967f513f8c8450ea058", func := "gloaming/gloaminglaw16.StackOver", spec := "stackOver", apart := false }
def StackOverSaid : Prop := stackOverRow.holds Try.pinned (OpenSpec.ofChange stackOverSpec)

/-- ITS FALSE NEIGHBOUR: 'it returns false'. Refute it at one input. -/
def stackOverWrong : ChangeSpec := { name := "stackOver", fn := fun _ => fun
  | [d1, d2] => { results := [.lit (.bool false)], args := [d1, d2] }
  | _ => none }
def StackOverWrongFalsely : Prop := stackOverRow.holds Try.pinned (OpenSpec.ofChange stackOverWrong)

/- THE SECOND FORM. 'bulk': how many values and letters a reading holds, each counted each time it is reached (what is shared counts as often as it is met; a slice's spare places count too). A statement '..UptoSaid' is the law's where the arguments, and the package variables that the reading takes, are together of bulk at most 1048576: NARROWER than '..Said'. Prove '..Said' where nothing that the law and all that it calls make is longer than what came in: it says more and counts as full. Else prove '..UptoSaid'. A law counts once. -/
mutual
def uptoBulk {H : Type} : DataW H → Nat
  | .lit (.string bytes) => bytes.length + 1
  | .lit _ => 1
  | .nil => 1
  | .ptr d => uptoBulk d + 1
  | .slice elems spare => uptoBulkAll elems + uptoBulkAll spare + 1
  | .agg parts => uptoBulkAll parts + 1
  | .iface _ d => uptoBulk d + 1
  | .map entries => uptoBulkEntries entries + 1
  | .held _ => 1
def uptoBulkAll {H : Type} : List (DataW H) → Nat
  | [] => 0
  | d :: r => uptoBulk d + uptoBulkAll r
def uptoBulkEntries {H : Type} : List (Lit × DataW H) → Nat
  | [] => 0
  | x :: r => uptoBulkEntry x + uptoBulkEntries r
def uptoBulkEntry {H : Type} : Lit × DataW H → Nat
  | (.string bytes, d) => bytes.length + uptoBulk d + 1
  | (_, d) => uptoBulk d + 1
 end
def uptoSmall : (H : Type) → List (DataW H) → Bool := fun _ ds => decide (uptoBulkAll ds ≤ 1048576)
def OpenSpec.upto (s : _root_.Go.ChangeSpec) : _root_.Go.OpenSpec := { _root_.Go.OpenSpec.ofChange s with cond := some uptoSmall }

/-- 'gloaminglaw16.StackTurns', WHERE WHAT IT READS IS OF BULK AT MOST 1048576: true; the input reads as it did. -/
def stackTurnsUptoRow : OpenClaim := { program := "ytlnpngjdpalkdaa", sum := "aa0601d61afffaf1bf873eb6e491ed20d5218e3ccf9cb967f513f8c8450ea058", func := "gloaming/gloaminglaw16.StackTurns", spec := "stackTurns", apart := false, narrowed := true }
def StackTurnsUptoSaid : Prop := stackTurnsUptoRow.holds Try.pinned (OpenSpec.upto stackTurnsSpec)

/-- 'gloaminglaw16.StackRuns', WHERE WHAT IT READS IS OF BULK AT MOST 1048576: true; the input reads as it did. -/
def stackRunsUptoRow : OpenClaim := { program := "ytlnpngjdpalkdaa", sum := "aa0601d61afffaf1bf873eb6e491ed20d5218e3ccf9cb967f513f8c8450ea058", func := "gloaming/gloaminglaw16.StackRuns", spec := "stackRuns", apart := false, narrowed := true }
def StackRunsUptoSaid : Prop := stackRunsUptoRow.holds Try.pinned (OpenSpec.upto stackRunsSpec)

/-- 'gloaminglaw16.StackOver', WHERE WHAT IT READS IS OF BULK AT MOST 1048576: true; the input reads as it did. -/
def stackOverUptoRow : OpenClaim := { program := "ytlnpngjdpalkdaa", sum := "aa0601d61afffaf1bf873eb6e491ed20d5218e3ccf9cb967f513f8c8450ea058", func := "gloaming/gloaminglaw16.StackOver", spec := "stackOver", apart := false, narrowed := true }
def StackOverUptoSaid : Prop := stackOverUptoRow.holds Try.pinned (OpenSpec.upto stackOverSpec)

end Rows
end Go.Proofs.Ytlnpngjdpalkdaa
