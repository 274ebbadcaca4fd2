/- What the small functions of the package handle do to the world. -/
import Derived.Test.YtembjpfgoogbgaaRows
import Derived.Test.YtembjpfgoogbgaaMem
import Derived.WalkKit
import Derived.WalkSpells
import Derived.WalkLawsBesides
import Derived.Lib.Hide
import Derived.OpenShut
import Derived.Deep.RegionLaw
import Derived.Deep.RegionWith
import Derived.Deep.RegionHeld3
import Derived.Deep.QuietTactic
import Derived.BigQuiet
import Derived.IntWalk
namespace Go.Proofs.Ytembjpfgoogbgaa.Fns
open Go Go.RowKit

/-- What a new table's block holds. -/
def Z : Array Value := Array.replicate 1024 (.int .i64 0)
theorem run_zero60 (w : World) : (zeroValue 60).run Try.prog w = .ok (.agg Z) w := by kernel_rfl
theorem Z_size : Z.size = 1024 := by simp [Z]
theorem Z_at (k : Nat) (h : k < 1024) : Z[k]? = some (.int .i64 0) := by simp [Z, h]
attribute [irreducible] Z
attribute [local go_sem] run_zero60

theorem new_c (w : World) : Calls Try.prog 8 #[] w fun e w' => e = .returned (.pointer (some ⟨w.heap.size, 0, none⟩)) ∧ w' = w.alloc (.cells Z 60) := by
  go_enter Try.func8, Try.ntmps8
  go_wp2
  go_ret
  exact ⟨rfl, rfl⟩

theorem err_c (n : Int) (w : World) : Calls Try.prog 14 #[.int .i64 n] w fun e w' => e = .returned (.int .i64 n) ∧ w = w' := by
  go_enter Try.func14, Try.ntmps14
  go_wp2
  go_ret
  exact ⟨rfl, rfl⟩

/-- Block g holds slots: T: how often each was given up; A: what each holds, 0: nothing. -/
structure Hs (w : World) (g : Nat) (T A : Nat → Int) : Prop where
  block : ∃ cs, w.heap[g]? = some (.cells cs 60 (0, 0)) ∧ cs.size = 1024 ∧ ∀ i, i < 512 → cs[i * 2]? = some (.int .i64 (T i)) ∧ cs[i * 2 + 1]? = some (.int .i64 (A i))
  turns : ∀ i, i < 512 → 0 ≤ T i ∧ T i ≤ 1000000
def put {α : Type} (f : Nat → α) (i : Nat) (x : α) : Nat → α := fun j => if j = i then x else f j
theorem put_same {α : Type} (f : Nat → α) (i : Nat) (x : α) : put f i x i = x := by simp [put]
theorem put_other {α : Type} (f : Nat → α) (i j : Nat) (x : α) (h : j ≠ i) : put f i x j = f j := by simp [put, h]
section
variable {w w' : World} {g : Nat} {T A : Nat → Int}
theorem Hs.lt (h : Hs w g T A) : g < w.heap.size := by obtain ⟨cs, h1, _⟩ := h.block; exact lt_of_block h1
theorem Hs.t (h : Hs w g T A) (i : Nat) (hi : i < 512) : w.cell? ⟨g, i * 2, none⟩ = some (.int .i64 (T i)) := by
  obtain ⟨cs, h1, _, h3⟩ := h.block
  rw [cell_of_row w g _ _ _ _ h1]; exact (h3 i hi).1
theorem Hs.a (h : Hs w g T A) (i : Nat) (hi : i < 512) : w.cell? ⟨g, i * 2 + 1, none⟩ = some (.int .i64 (A i)) := by
  obtain ⟨cs, h1, _, h3⟩ := h.block
  rw [cell_of_row w g _ _ _ _ h1]; exact (h3 i hi).2
theorem Hs.fr (h : Hs w g T A) (k : Nat) : w.frozen? ⟨g, k, none⟩ = false := by
  obtain ⟨cs, h1, _⟩ := h.block
  exact frozen_of_row w g k cs 60 h1
theorem Hs.frame {F : Nat → Prop} (h : Hs w g T A) (hf : Frame w w' F) (hg : ¬ F g) : Hs w' g T A := by
  obtain ⟨cs, h1, h2⟩ := h.block
  exact ⟨⟨cs, hf.heap h1 hg, h2⟩, h.turns⟩
theorem Hs.below (h : Hs w g T A) (hb : Below w.heap.size w w') : Hs w' g T A := h.frame (F := fun _ => False) (Frame.of_below hb) (fun e => e)
theorem Hs.setA (h : Hs w g T A) (i : Nat) (x : Int) : Hs (w.setCell ⟨g, i * 2 + 1, none⟩ (.int .i64 x)) g T (put A i x) := by
  obtain ⟨cs, h1, h2, h3⟩ := h.block
  refine ⟨⟨cs.setIfInBounds (i * 2 + 1) (.int .i64 x), heap_setCell_same w g _ cs 60 _ h1, by simpa using h2, fun j hj => ?_⟩, h.turns⟩
  obtain ⟨h4, h5⟩ := h3 j hj
  constructor
  · rw [Array.getElem?_setIfInBounds_ne (by omega)]; exact h4
  · by_cases e : j = i
    · subst e
      rw [Array.getElem?_setIfInBounds_self_of_lt (by omega), put_same]
    · rw [Array.getElem?_setIfInBounds_ne (by omega), put_other _ _ _ _ e]; exact h5
theorem Hs.setT (h : Hs w g T A) (i : Nat) (x : Int) (hx : 0 ≤ x ∧ x ≤ 1000000) : Hs (w.setCell ⟨g, i * 2, none⟩ (.int .i64 x)) g (put T i x) A := by
  obtain ⟨cs, h1, h2, h3⟩ := h.block
  refine ⟨⟨cs.setIfInBounds (i * 2) (.int .i64 x), heap_setCell_same w g _ cs 60 _ h1, by simpa using h2, fun j hj => ?_⟩, fun j hj => ?_⟩
  · obtain ⟨h4, h5⟩ := h3 j hj
    constructor
    · by_cases e : j = i
      · subst e
        rw [Array.getElem?_setIfInBounds_self_of_lt (by omega), put_same]
      · rw [Array.getElem?_setIfInBounds_ne (by omega), put_other _ _ _ _ e]; exact h4
    · rw [Array.getElem?_setIfInBounds_ne (by omega)]; exact h5
  · by_cases e : j = i
    · subst e; rw [put_same]; exact hx
    · rw [put_other _ _ _ _ e]; exact h.turns j hj
end
theorem new_h (w : World) : Calls Try.prog 8 #[] w fun e w' => e = .returned (.pointer (some ⟨w.heap.size, 0, none⟩)) ∧ Hs w' w.heap.size (fun _ => 0) (fun _ => 0) ∧ Below w.heap.size w w' := by
  refine (new_c w).mono ?_
  rintro e w' ⟨rfl, rfl⟩
  exact ⟨rfl, ⟨⟨Z, heap_alloc_new w _, Z_size, fun i hi => ⟨Z_at _ (by omega), Z_at _ (by omega)⟩⟩, fun _ _ => ⟨by omega, by omega⟩⟩, (Below.refl _ _).alloc (Nat.le_refl _) _⟩

theorem turn_c (w : World) (a : Addr) (t : Int) (h : w.cell? a = some (.int .i64 t)) (ht : 0 ≤ t ∧ t ≤ 1000000) : Calls Try.prog 26 #[.pointer (some a)] w fun e w' => e = .returned (.int .i64 (t + 1)) ∧ w = w' := by
  obtain ⟨h0, h1⟩ := ht
  go_enter Try.func26, Try.ntmps26
  go_wp2
  go_ret
  exact ⟨rfl, rfl⟩
theorem next_c (w : World) (a : Addr) (t : Int) (h : w.cell? a = some (.int .i64 t)) (hf : w.frozen? a = false) (ht : 0 ≤ t ∧ t ≤ 1000000) : Calls Try.prog 25 #[.pointer (some a)] w fun e w' => e = .returned (.tuple #[]) ∧ w' = w.setCell a (.int .i64 (t + 1)) := by
  obtain ⟨h0, h1⟩ := ht
  go_enter Try.func25, Try.ntmps25
  go_wp2
  go_end0
  exact ⟨rfl, rfl⟩
/-- The handle of a slot. -/
def tell (T : Nat → Int) (i : Nat) : Int := i + 512 * (T i + 1)
theorem told_c (w : World) {g : Nat} {T A : Nat → Int} (h : Hs w g T A) (i : Nat) (hi : i < 512) : Calls Try.prog 23 #[.pointer (some ⟨g, 0, none⟩), .int .i64 (i : Int)] w fun e w' => e = .returned (.int .i64 (tell T i)) ∧ w = w' := by
  have H := Lib.hid h
  have hT := h.turns i hi
  have kt := h.t i hi
  clear h
  unfold tell
  generalize T i = t at hT kt ⊢
  obtain ⟨h0, h1⟩ := hT
  have g1 : (0 : Int) ≤ (i : Int) := by omega
  have g2 : (i : Int) < 512 := by omega
  go_enter Try.func23, Try.ntmps23
  go_wp2_with (go_at_call 26; refine (turn_c _ _ t kt ⟨h0, h1⟩).mono ?_; rintro e w' ⟨rfl, rfl⟩)
  go_ret
  exact ⟨rfl, rfl⟩

/-- Does the handle x stand? -/
def fnd (T A : Nat → Int) (x : Int) : Bool := decide (512 ≤ x) && (A (x % 512).toNat != 0 && tell T (x % 512).toNat == x)
theorem find_c (w : World) {g : Nat} {T A : Nat → Int} (h : Hs w g T A) (x : Int) (hx : x ≤ 9223372036854775807) (b : Bool) (hb : fnd T A x = b) :
    Calls Try.prog 24 #[.pointer (some ⟨g, 0, none⟩), .int .i64 x] w fun e w' => ∃ i : Int, e = .returned (.tuple #[.int .i64 i, .bool b]) ∧ (b = true → i = x % 512) ∧ w = w' := by
  by_cases h5 : x < 512
  · have d5 : decide (x < 512) = true := by simpa using h5
    obtain rfl : b = false := by rw [← hb]; simp [fnd]; omega
    go_enter Try.func24, Try.ntmps24
    go_wp2
    refine bodyPost_ret (v := .tuple #[.int .i64 0, .bool false]) (by simp [results, Try.results24, go_sem]) rfl ⟨_, rfl, by simp, rfl⟩
  · have d5 : decide (x < 512) = false := by simpa using h5
    obtain ⟨i, hi⟩ : ∃ i : Nat, x % 512 = (i : Int) := ⟨(x % 512).toNat, by omega⟩
    have hi5 : i < 512 := by omega
    have H := Lib.hid h
    have ka := h.a i hi5
    have hf : fnd T A x = (A i != 0 && tell T i == x) := by
      simp only [fnd, hi, Int.toNat_natCast, decide_eq_true (by omega : 512 ≤ x), Bool.true_and]
    rw [hf] at hb
    have HA := Lib.hid hb
    have HI := Lib.hid hi
    have hx0 : 0 ≤ x := by omega
    have g1 : (0 : Int) ≤ (i : Int) := by omega
    have g2 : (i : Int) < 512 := by omega
    clear h hb hf
    by_cases h0 : A i = 0
    · obtain rfl : b = false := by rw [← HA.out, h0]; simp
      rw [h0] at ka
      go_enter Try.func24, Try.ntmps24
      go_wp2
      refine bodyPost_ret (v := .tuple #[.int .i64 i, .bool false]) (by simp [results, Try.results24, go_sem]) rfl (by first | exact ⟨_, rfl, by simp, rfl⟩ | exact ⟨⟨_, rfl⟩, rfl⟩)
    · have d0 : (A i != 0) = true := by simpa using h0
      have d1 : (A i == 0) = false := by simpa using h0
      obtain ⟨q, hq⟩ : ∃ q, q = tell T i := ⟨_, rfl⟩
      have HQ := Lib.hid hq
      have e1 : (q == x) = b := by rw [← HA.out, hq]; simp [h0]
      clear hq
      go_enter Try.func24, Try.ntmps24
      go_wp2_with (go_at_call 23; refine (told_c _ H.out i hi5).mono ?_; rintro e w' ⟨rfl, rfl⟩; rw [← HQ.out])
      refine bodyPost_ret (v := .tuple #[.int .i64 i, .bool b]) (by simp [results, Try.results24, go_sem]) rfl ⟨_, rfl, fun _ => HI.out.symm, rfl⟩
end Go.Proofs.Ytembjpfgoogbgaa.Fns
