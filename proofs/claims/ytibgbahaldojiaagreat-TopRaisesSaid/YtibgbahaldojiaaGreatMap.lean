/- Maps with keys of type int, said by their entries: what the run does at them. -/
import Derived.Test.YtibgbahaldojiaaGreatBlock
import Derived.MapKept
import Derived.Maps.Own
import Derived.Maps.OwnSet
import Derived.Maps.RangeWalk
namespace Go.Proofs.YtibgbahaldojiaaGreat.Fns
open Go Go.RowKit
/-- A block's object, another one. -/
def setB (w : World) (b : Nat) (o : Obj) : World := { w with heap := w.heap.setIfInBounds b o }
section
variable {t e : TypeId} (ht : Tryz.prog.underlying t = some (.map 3 e)) (w : World) {m : Nat} {es : Array MapEntry} {clock : Nat} (h : w.heap[m]? = some (.map es clock)) (k : Int)
include ht h
theorem lookup_hit (v : Value) (i : Nat) (c : Bool) (hf : Instr.findNow (.int .i64) (.int .i64 k) es.toList 0 = some (some (i, v))) :
    (Instr.lookup t (.map (some m)) (.int .i64 k) c).run Tryz.prog w = .ok (if c then .tuple #[v, .bool true] else v) w := by
  have h1 := MapKept.run_checkKey (P := Tryz.prog) (w := w) (kt := 3) (d := .int .i64) (k := .int .i64 k) Tryz.underlying3 rfl es.isEmpty 9999
  have h2 := MapKept.run_findKey (P := Tryz.prog) (w := w) (kt := 3) (d := .int .i64) (k := .int .i64 k) (l := es.toList) Tryz.underlying3 hf
  simp [Instr.lookup, run_underlying ht, MapKept.run_getObj_map h, h1, h2, Result.andThen]
theorem lookup_miss (z : Value) (hz : (zeroValue e).run Tryz.prog w = .ok z w) (c : Bool) (hf : Instr.findNow (.int .i64) (.int .i64 k) es.toList 0 = some none) :
    (Instr.lookup t (.map (some m)) (.int .i64 k) c).run Tryz.prog w = .ok (if c then .tuple #[z, .bool false] else z) w := by
  have h1 := MapKept.run_checkKey (P := Tryz.prog) (w := w) (kt := 3) (d := .int .i64) (k := .int .i64 k) Tryz.underlying3 rfl es.isEmpty 9999
  have h2 := MapKept.run_findKey (P := Tryz.prog) (w := w) (kt := 3) (d := .int .i64) (k := .int .i64 k) (l := es.toList) Tryz.underlying3 hf
  simp [Instr.lookup, run_underlying ht, MapKept.run_getObj_map h, h1, h2, hz, Result.andThen]
theorem update_new (v : Value) (hf : Instr.findNow (.int .i64) (.int .i64 k) es.toList 0 = some none) :
    (Instr.mapUpdate t (.map (some m)) (.int .i64 k) v).run Tryz.prog w = .ok () (setB w m (.map (es.push ⟨.int .i64 k, v, clock⟩) (clock + 1))) := by
  have h1 := MapKept.run_checkKey (P := Tryz.prog) (w := w) (kt := 3) (d := .int .i64) (k := .int .i64 k) Tryz.underlying3 rfl false 9999
  have h2 := MapKept.run_findKey (P := Tryz.prog) (w := w) (kt := 3) (d := .int .i64) (k := .int .i64 k) (l := es.toList) Tryz.underlying3 hf
  simp [Instr.mapUpdate, run_underlying ht, MapKept.run_getObj_map h, h1, h2, MapKept.run_setObj_map _ h, setB, Result.andThen]
theorem delete_hit (ty : TypeId) (v : Value) (i : Nat) (hf : Instr.findNow (.int .i64) (.int .i64 k) es.toList 0 = some (some (i, v))) :
    (Builtin.delete_ #[t, 3] ty #[.map (some m), .int .i64 k]).run Tryz.prog w = .ok (.tuple #[]) (setB w m (.map (es.eraseIdxIfInBounds i) clock)) := by
  have h1 := MapKept.run_checkKey (P := Tryz.prog) (w := w) (kt := 3) (d := .int .i64) (k := .int .i64 k) Tryz.underlying3 rfl es.isEmpty 9999
  have h2 := MapKept.run_findKey (P := Tryz.prog) (w := w) (kt := 3) (d := .int .i64) (k := .int .i64 k) (l := es.toList) Tryz.underlying3 hf
  simp [Builtin.delete_, run_underlying ht, MapKept.run_getObj_map h, h1, h2, MapKept.run_setObj_map _ h, setB, Result.andThen]
end
theorem frame_block {w : World} (m : Nat) (o : Obj) : Frame w (setB w m o) (fun k => k = m) :=
  ⟨rfl, rfl, rfl, by simp [setB], fun k _ hk => by simp only [setB]; rw [Array.getElem?_setIfInBounds_ne (fun e => hk e.symm)]⟩
theorem block_at {w : World} {m : Nat} {o : Obj} (o' : Obj) (h : w.heap[m]? = some o) : (setB w m o').heap[m]? = some o' := by
  simp only [setB]
  rw [Array.getElem?_setIfInBounds_self_of_lt (lt_of_block h)]
end Go.Proofs.YtibgbahaldojiaaGreat.Fns
