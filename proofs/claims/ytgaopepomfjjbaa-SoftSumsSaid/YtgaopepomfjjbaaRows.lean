/-
  No cell of these rows narrows 'for every input' (looked for: loops, veiled, ifaces, maps, wideKeys, modest, calm, conditions, laid).
  DERIVED. THE GIVEN ROWS OF THIS SEAT. 5 by the template 'for every input the law returns true; each argument reads behind the call as it read before'; 0 by the template 'total and deterministic' (their statements: YtgaopepomfjjbaaTotals.lean).
  GIVEN WITH THE SEED: the statements are not yours to turn. If you find one false, say at which input.
  Laid BY PROGRAM, IN A SANDBOX (cutbox-rows.mjs): the forced cells as the released guide's own fill.sh prints them over the translation 2ee2a4040793655f… (all of the seat's roots in one cut). By AI agents, Wed Nov 11 2026. No macro, syntax, notation, axiom, sorry.
-/
import Derived.Test.YtgaopepomfjjbaaChecked
import GoSem.Claim
import GoSem.ClaimJoined
import GoSem.ClaimMapViews
import Derived.JoinedTies
import Derived.KernelRfl
namespace Go.Proofs.Ytgaopepomfjjbaa
/- THE CELL 'sum', in the pinned program and in every row, IS THE sha256 OF THE DUMP (.gsa) THAT YtgaopepomfjjbaaProg.lean LOADS. Nothing in Lean hashes anything: it is a label: what it is worth is what the hold of that sum in a sandbox is worth. -/
noncomputable def Try.pinned : Pinned := { name := "ytgaopepomfjjbaa", sum := "2ee2a4040793655fccd07ce30a737984d13a3f0d675ac94612c45f90a76e625a", checked := Try.checked }
namespace Rows
def none {H : Type} : Left H := { results := [], args := [] }

/-- 'gloaminglaw14.SoftTurns': WHATEVER THE INPUT: true; the input reads as it did. -/
def softTurnsSpec : ChangeSpec := { name := "softTurns", fn := fun _ => fun
  | [d1, d2, d3, d4] => { results := [.lit (.bool true)], args := [d1, d2, d3, d4] }
  | _ => none }
def softTurnsRow : OpenClaim := { program := "ytgaopepomfjjbaa", sum := "2ee2a4040793655fccd07ce30a737984d13a3f0d675ac94612c45f90a76e625a", func := "gloaming/gloaminglaw14.SoftTurns", spec := "softTurns", apart := false }
def SoftTurnsSaid : Prop := softTurnsRow.holds Try.pinned (OpenSpec.ofChange softTurnsSpec)

/-- ITS FALSE NEIGHBOUR: 'it returns false'. Refute it at one input. -/
def softTurnsWrong : ChangeSpec := { name := "softTurns", fn := fun _ => fun
  | [d1, d2, d3, d4] => { results := [.lit (.bool false)], args := [d1, d2, d3, d4] }
  | _ => none }
def SoftTurnsWrongFalsely : Prop := softTurnsRow.holds Try.pinned (OpenSpec.ofChange softTurnsWrong)

/-- 'gloaminglaw14.SoftAll': WHATEVER THE INPUT: true; the input reads as it did. -/
def softAllSpec : ChangeSpec := { name := "softAll", fn := fun _ => fun
  | [d1, d2, d3, d4, d5] => { results := [.lit (.bool true)], args := [d1, d2, d3, d4, d5] }
  | _ => none }
def softAllRow : OpenClaim := { program := "ytgaopepomfjjbaa", sum := "2ee2a4040793655fccd07ce30a737984d13a3f0d675ac94612c45f90a76e625a", func := "gloaming/gloaminglaw14.SoftAll", spec := "softAll", apart := false }
def SoftAllSaid : Prop := softAllRow.holds Try.pinned (OpenSpec.ofChange softAllSpec)

/-- ITS FALSE NEIGHBOUR: 'it returns false'. Refute it at one input. -/
def softAllWrong : ChangeSpec := { name := "softAll", fn := fun _ => fun
  | [d1, d2, d3, d4, d5] => { results := [.lit (.bool false)], args := [d1, d2, d3, d4, d5] }
  | _ => none }
def SoftAllWrongFalsely : Prop := softAllRow.holds Try.pinned (OpenSpec.ofChange softAllWrong)

/-- 'gloaminglaw14.SoftMore': WHATEVER THE INPUT: true; the input reads as it did. -/
def softMoreSpec : ChangeSpec := { name := "softMore", fn := fun _ => fun
  | [d1, d2, d3, d4, d5] => { results := [.lit (.bool true)], args := [d1, d2, d3, d4, d5] }
  | _ => none }
def softMoreRow : OpenClaim := { program := "ytgaopepomfjjbaa", sum := "2ee2a4040793655fccd07ce30a737984d13a3f0d675ac94612c45f90a76e625a", func := "gloaming/gloaminglaw14.SoftMore", spec := "softMore", apart := false }
def SoftMoreSaid : Prop := softMoreRow.holds Try.pinned (OpenSpec.ofChange softMoreSpec)

/-- ITS FALSE NEIGHBOUR: 'it returns false'. Refute it at one input. -/
def softMoreWrong : ChangeSpec := { name := "softMore", fn := fun _ => fun
  | [d1, d2, d3, d4, d5] => { results := [.lit (.bool false)], args := [d1, d2, d3, d4, d5] }
  | _ => none }
def SoftMoreWrongFalsely : Prop := softMoreRow.holds Try.pinned (OpenSpec.ofChange softMoreWrong)

/-- 'gloaminglaw14.SoftEdges': WHATEVER THE INPUT: true; the input reads as it did. -/
def softEdgesSpec : ChangeSpec := { name := "softEdges", fn := fun _ => fun
  | [d1, d2, d3, d4] => { results := [.lit (.bool true)], args := [d1, d2, d3, d4] }
  | _ => none }
def softEdgesRow : OpenClaim := { program := "ytgaopepomfjjbaa", sum := "2ee2a4040793655fccd07ce30a737984d13a3f0d675ac94612c45f90a76e625a", func := "gloaming/gloaminglaw14.SoftEdges", spec := "softEdges", apart := false }
def SoftEdgesSaid : Prop := softEdgesRow.holds Try.pinned (OpenSpec.ofChange softEdgesSpec)

/-- ITS FALSE NEIGHBOUR: 'it returns false'. Refute it at one input. -/
def softEdgesWrong : ChangeSpec := { name := "softEdges", fn := fun _ => fun
  | [d1, d2, d3, d4] => { results := [.lit (.bool false)], args := [d1, d2, d3, d4] }
  | _ => none }
def SoftEdgesWrongFalsely : Prop := softEdgesRow.holds Try.pinned (OpenSpec.ofChange softEdgesWrong)

/-- 'gloaminglaw14.SoftSums': WHATEVER THE INPUT: true; the input reads as it did. -/
def softSumsSpec : ChangeSpec := { name := "softSums", fn := fun _ => fun
  | [d1, d2] => { results := [.lit (.bool true)], args := [d1, d2] }
  | _ => none }
def softSumsRow : OpenClaim := { program := "ytgaopepomfjjbaa", sum := "2ee2a4040793655fccd07ce30a737984d13a3f0d675ac94612c45f90a76e625a", func := "gloaming/gloaminglaw14.SoftSums", spec := "softSums", apart := false }
def SoftSumsSaid : Prop := softSumsRow.holds Try.pinned (OpenSpec.ofChange softSumsSpec)

/-- ITS FALSE NEIGHBOUR: 'it returns false'. Refute it at one input. -/
def softSumsWrong : ChangeSpec := { name := "softSums", fn := fun _ => fun
  | [d1, d2] => { results := [.lit (.bool false)], args := [d1, d2] }
  | _ => none }
def SoftSumsWrongFalsely : Prop := softSumsRow.holds Try.pinned (OpenSpec.ofChange softSumsWrong)

/- THE SECOND FORM. 'bulk': how many values and letters a reading holds, each counted each time it is reached (what is shared counts as often as it is met; a slice's spare places count too). A statement '..UptoSaid' is the law's where the arguments, and the package variables that the reading takes, are together of bulk at most 1048576: NARROWER than '..Said'. Prove '..Said' where nothing that the law and all that it calls make is longer than what came in: it says more and counts as full. Else prove '..UptoSaid'. A law counts once. -/
mutual
def uptoBulk {H : Type} : DataW H → Nat
  | .lit (.string bytes) => bytes.length + 1
  | .lit _ => 1
  | .nil => 1
  | .ptr d => uptoBulk d + 1
  | .slice elems spare => uptoBulkAll elems + uptoBulkAll spare + 1
  | .agg parts => uptoBulkAll parts + 1
  | .iface _ d => uptoBulk d + 1
  | .map entries => uptoBulkEntries entries + 1
  | .held _ => 1
def uptoBulkAll {H : Type} : List (DataW H) → Nat
  | [] => 0
  | d :: r => uptoBulk d + uptoBulkAll r
def uptoBulkEntries {H : Type} : List (Lit × DataW H) → Nat
  | [] => 0
  | x :: r => uptoBulkEntry x + uptoBulkEntries r
def uptoBulkEntry {H : Type} : Lit × DataW H → Nat
  | (.string bytes, d) => bytes.length + uptoBulk d + 1
  | (_, d) => uptoBulk d + 1
 end
def uptoSmall : (H : Type) → List (DataW H) → Bool := fun _ ds => decide (uptoBulkAll ds ≤ 1048576)
def OpenSpec.upto (s : _root_.Go.ChangeSpec) : _root_.Go.OpenSpec := { _root_.Go.OpenSpec.ofChange s with cond := some uptoSmall }

/-- 'gloaminglaw14.SoftTurns', WHERE WHAT IT READS IS OF BULK AT MOST 1048576: true; the input reads as it did. -/
def softTurnsUptoRow : OpenClaim := { program := "ytgaopepomfjjbaa", sum := "2ee2a4040793655fccd07ce30a737984d13a3f0d675ac94612c45f90a76e625a", func := "gloaming/gloaminglaw14.SoftTurns", spec := "softTurns", apart := false, narrowed := true }
def SoftTurnsUptoSaid : Prop := softTurnsUptoRow.holds Try.pinned (OpenSpec.upto softTurnsSpec)

/-- 'gloaminglaw14.SoftAll', WHERE WHAT IT READS IS OF BULK AT MOST 1048576: true; the input reads as it did. -/
def softAllUptoRow : OpenClaim := { program := "ytgaopepomfjjbaa", sum := "2ee2a4040793655fccd07ce30a737984d13a3f0d675ac94612c45f90a76e625a", func := "gloaming/gloaminglaw14.SoftAll", spec := "softAll", apart := false, narrowed := true }
def SoftAllUptoSaid : Prop := softAllUptoRow.holds Try.pinned (OpenSpec.upto softAllSpec)

/-- 'gloaminglaw14.SoftMore', WHERE WHAT IT READS IS OF BULK AT MOST 1048576: true; the input reads as it did. -/
def softMoreUptoRow : OpenClaim := { program := "ytgaopepomfjjbaa", sum := "2ee2a4040793655fccd07ce30a737984d13a3f0d675ac94612c45f90a76e625a", func := "gloaming/gloaminglaw14.SoftMore", spec := "softMore", apart := false, narrowed := true }
def SoftMoreUptoSaid : Prop := softMoreUptoRow.holds Try.pinned (OpenSpec.upto softMoreSpec)

/-- 'gloaminglaw14.SoftEdges', WHERE WHAT IT READS IS OF BULK AT MOST 1048576: true; the input reads as it did. -/
def softEdgesUptoRow : OpenClaim := { program := "ytgaopepomfjjbaa", sum := "2ee2a4040793655fccd07ce30a737984d13a3f0d675ac94612c45f90a76e625a", func := "gloaming/gloaminglaw14.SoftEdges", spec := "softEdges", apart := false, narrowed := true }
def SoftEdgesUptoSaid : Prop := softEdgesUptoRow.holds Try.pinned (OpenSpec.upto softEdgesSpec)

/-- 'gloaminglaw14.SoftSums', WHERE WHAT IT READS IS OF BULK AT MOST 1048576: true; the input reads as it did. -/
def softSumsUptoRow : OpenClaim := { program := "ytgaopepomfjjbaa", sum := "2ee2a4040793655fccd07ce30a737984d13a3f0d675ac94612c45f90a76e625a", func := "gloaming/gloaminglaw14.SoftSums", spec := "softSums", apart := false, narrowed := true }
def SoftSumsUptoSaid : Prop := softSumsUptoRow.holds Try.pinned (OpenSpec.upto softSumsSpec)

end Rows
end Go.Proofs.Ytgaopepomfjjbaa
