/- One table of handles, in a world that has only turned behind another. -/
import Derived.Test.YtembjpfgoogbgaaAll
namespace Go.Proofs.Ytembjpfgoogbgaa.Fns
open Go Go.RowKit
structure Sole (w wr : World) (g : Nat) (T A : Nat → Int) : Prop where
  old : Below w.heap.size w wr
  base : w.heap.size ≤ g
  h : Hs wr g T A
section
variable {w wr w' : World} {g : Nat} {T A T' A' : Nat → Int}
theorem Sole.below (h : Sole w wr g T A) (hb : Below wr.heap.size wr w') : Sole w w' g T A := ⟨h.old.trans (hb.mono h.old.size), h.base, h.h.below hb⟩
theorem Sole.step (h : Sole w wr g T A) (h2 : Hs w' g T' A') (hf : Frame wr w' (fun k => k = g)) : Sole w w' g T' A' :=
  ⟨h.old.trans (hf.below h.old.size (fun _ _ e => e ▸ h.base)), h.base, h2⟩
theorem Sole.start {w1 : World} (h : Hs w1 w.heap.size T A) (hb : Below w.heap.size w w1) : Sole w w1 w.heap.size T A := ⟨hb, Nat.le_refl _, h⟩
theorem Sole.drewN (h : Sole w wr g T A) (n : Nat) : Sole w (wr.drewN n) g T A := h.below ⟨rfl, rfl, rfl, Nat.le_refl _, fun _ _ => rfl⟩
end
theorem fnd_at (T A : Nat → Int) (i : Nat) (hi : i < 512) (hA : A i ≠ 0) (hT : 0 ≤ T i) : fnd T A (tell T i) = true := by
  have e : (tell T i % 512).toNat = i := by unfold tell; omega
  have e2 : 512 ≤ tell T i := by unfold tell; omega
  simp [fnd, e, e2, hA]
theorem tell_mod (T : Nat → Int) (i : Nat) (hi : i < 512) : tell T i % 512 = (i : Int) := by unfold tell; omega
end Go.Proofs.Ytembjpfgoogbgaa.Fns
