/- The reference's handles: a table of two slices. -/
import Derived.Test.YtembjpfgoogbgaaSt
namespace Go.Proofs.Ytembjpfgoogbgaa.Fns
open Go Go.RowKit

def ints512 (f : Nat → Int) : List Value := (List.range 512).map fun i => .int .i64 (f i)
theorem ints512_at (f : Nat → Int) {i : Nat} (h : i < 512) : (ints512 f)[i]? = some (.int .i64 (f i)) := by simp [ints512, h]
theorem ints512_set (f : Nat → Int) (i : Nat) (x : Int) (h : i < 512) : (ints512 f).set i (.int .i64 x) = ints512 (put f i x) := by
  apply List.ext_getElem?
  intro j
  by_cases e : j = i
  · subst e
    rw [List.getElem?_set_self (by simpa [ints512] using h), ints512_at _ h, put_same]
  · rw [List.getElem?_set_ne (fun e2 => e e2.symm)]
    by_cases hj : j < 512
    · rw [ints512_at _ hj, ints512_at _ hj, put_other _ _ _ _ e]
    · simp [ints512, hj]
/-- Block r holds a table of the reference: ba, bt: the blocks of its two slices. -/
structure Rf (w : World) (B r ba bt : Nat) (T A : Nat → Int) : Prop where
  base : B ≤ r
  box : w.heap[r]? = some (.cells #[.slice (some ⟨ba, 0, none⟩) 512 512, .slice (some ⟨bt, 0, none⟩) 512 512] 62 (0, 0))
  at_ : w.ownsRow B 3 1 (.slice (some ⟨ba, 0, none⟩) 512 512) 512 (ints512 A)
  tu : w.ownsRow B 3 1 (.slice (some ⟨bt, 0, none⟩) 512 512) 512 (ints512 T)
  ne : ba ≠ bt
  turns : ∀ i, i < 512 → 0 ≤ T i ∧ T i ≤ 1000000
section
variable {w w' : World} {B r ba bt : Nat} {T A : Nat → Int}
theorem Rf.c0 (h : Rf w B r ba bt T A) : w.cell? ⟨r, 0, none⟩ = some (.slice (some ⟨ba, 0, none⟩) 512 512) := cell_of_row _ _ 0 _ _ _ h.box
theorem Rf.c1 (h : Rf w B r ba bt T A) : w.cell? ⟨r, 1, none⟩ = some (.slice (some ⟨bt, 0, none⟩) 512 512) := cell_of_row _ _ 1 _ _ _ h.box
theorem Rf.a (h : Rf w B r ba bt T A) (i : Nat) (hi : i < 512) : w.cell? ⟨ba, i, none⟩ = some (.int .i64 (A i)) := (h.at_.cellAt i (by omega)).trans (ints512_at A hi)
theorem Rf.t (h : Rf w B r ba bt T A) (i : Nat) (hi : i < 512) : w.cell? ⟨bt, i, none⟩ = some (.int .i64 (T i)) := (h.tu.cellAt i (by omega)).trans (ints512_at T hi)
theorem Rf.fa (h : Rf w B r ba bt T A) (i : Nat) : w.frozen? ⟨ba, i, none⟩ = false := h.at_.frozenAt i
theorem Rf.ft (h : Rf w B r ba bt T A) (i : Nat) : w.frozen? ⟨bt, i, none⟩ = false := h.tu.frozenAt i
theorem Rf.frame {F : Nat → Prop} (h : Rf w B r ba bt T A) (hf : Frame w w' F) (h1 : ¬ F r) (h2 : ¬ F ba) (h3 : ¬ F bt) : Rf w' B r ba bt T A :=
  ⟨h.base, hf.heap h.box h1, hf.owns h.at_ (fun k hk e => by simp only [Value.ownBlock, Option.some.injEq] at hk; subst hk; exact h2 e), hf.owns h.tu (fun k hk e => by simp only [Value.ownBlock, Option.some.injEq] at hk; subst hk; exact h3 e), h.ne, h.turns⟩
theorem Rf.below (h : Rf w B r ba bt T A) (hb : Below w.heap.size w w') : Rf w' B r ba bt T A := h.frame (F := fun _ => False) (Frame.of_below hb) (fun e => e) (fun e => e) (fun e => e)
theorem own_heap {e : TypeId} {n c : Nat} {xs : List Value} {b : Nat} (h : w.ownsRow B e 1 (.slice (some ⟨b, 0, none⟩) n c) n xs) : ∃ cs, w.heap[b]? = some (.cells cs e (0, 0)) := by
  rcases h.2 with ⟨h1, _⟩ | ⟨b', _, cs, h1, _, hh, _⟩
  · cases h1
  · simp only [Value.slice.injEq, Option.some.injEq, Addr.mk.injEq, true_and, and_true] at h1
    obtain ⟨rfl, _⟩ := h1
    exact ⟨cs, hh⟩
theorem Rf.ra (h : Rf w B r ba bt T A) : ba ≠ r := fun e => own_ne h.at_ h.box (by decide) (by rw [e]; rfl)
theorem Rf.rt (h : Rf w B r ba bt T A) : bt ≠ r := fun e => own_ne h.tu h.box (by decide) (by rw [e]; rfl)
theorem Rf.setA (h : Rf w B r ba bt T A) (i : Nat) (hi : i < 512) (x : Int) : Rf (w.setCell ⟨ba, i, none⟩ (.int .i64 x)) B r ba bt T (put A i x) := by
  have f : Frame w (w.setCell ⟨ba, i, none⟩ (.int .i64 x)) (fun k => k = ba) := (Frame.refl w (fun k => k = ba)).setCell (p := ⟨ba, i, none⟩) (fun _ => rfl) _
  have ho := (h.at_.stored i (.int .i64 x)).1
  rw [ints512_set _ _ _ hi] at ho
  exact ⟨h.base, f.heap h.box (fun e => h.ra e.symm), ho, f.owns h.tu (fun k hk e => by simp only [Value.ownBlock, Option.some.injEq] at hk; subst hk; exact h.ne e.symm), h.ne, h.turns⟩
theorem Rf.setT (h : Rf w B r ba bt T A) (i : Nat) (hi : i < 512) (x : Int) (hx : 0 ≤ x ∧ x ≤ 1000000) : Rf (w.setCell ⟨bt, i, none⟩ (.int .i64 x)) B r ba bt (put T i x) A := by
  have f : Frame w (w.setCell ⟨bt, i, none⟩ (.int .i64 x)) (fun k => k = bt) := (Frame.refl w (fun k => k = bt)).setCell (p := ⟨bt, i, none⟩) (fun _ => rfl) _
  have ho := (h.tu.stored i (.int .i64 x)).1
  rw [ints512_set _ _ _ hi] at ho
  refine ⟨h.base, f.heap h.box (fun e => h.rt e.symm), f.owns h.at_ (fun k hk e => by simp only [Value.ownBlock, Option.some.injEq] at hk; subst hk; exact h.ne e), ho, h.ne, fun j hj => ?_⟩
  by_cases e : j = i
  · subst e; rw [put_same]; exact hx
  · rw [put_other _ _ _ _ e]; exact h.turns j hj
end

theorem info38 : (Try.prog.info? 38).map (fun i => (i.zero, i.size, i.bytes)) = some (some (.agg #[.int .i64 0, .int .i64 0]), 2, 16) := by kernel_rfl
/-- What is told to who asks for a handle. -/
def heldF (T A : Nat → Int) (x : Int) : Int × Int := if fnd T A x = true then (A (x % 512).toNat, 0) else (0, 6)
theorem held_f (w : World) {g : Nat} {T A : Nat → Int} (h : Hs w g T A) (x : Int) (hx : x ≤ 9223372036854775807) (z e : Int) (hz : heldF T A x = (z, e)) :
    Calls Try.prog 17 #[.pointer (some ⟨g, 0, none⟩), .int .i64 x] w fun r w' => r = .returned (.tuple #[.int .i64 z, .int .i64 e]) ∧ w = w' := by
  unfold heldF at hz
  cases hf : fnd T A x
  · rw [hf] at hz; simp at hz; obtain ⟨rfl, rfl⟩ := hz
    exact held_no w h x hx hf
  · rw [hf] at hz; simp at hz; obtain ⟨hz, rfl⟩ := hz
    exact held_yes w h x hx hf z hz
theorem tell_div (T : Nat → Int) (x : Int) (i : Nat) (hi : x % 512 = (i : Int)) : tell T i = x ↔ x / 512 = T i + 1 := by unfold tell; omega

set_option maxRecDepth 100000 in
set_option maxHeartbeats 2000000 in
theorem heldR_c (w : World) {B r ba bt : Nat} {T A : Nat → Int} (h : Rf w B r ba bt T A) (x : Int) (hx : x ≤ 9223372036854775807) (z e : Int) (hz : heldF T A x = (z, e)) :
    Calls Try.prog 18 #[.pointer (some ⟨r, 0, none⟩), .int .i64 x] w fun y w' => y = .returned (.agg #[.int .i64 z, .int .i64 e]) ∧ Below w.heap.size w w' := by
  have hbel : Below w.heap.size w (w.alloc (.cells #[.int .i64 0, .int .i64 0] 38)) := (Below.refl _ _).alloc (Nat.le_refl _) _
  have H := Lib.hid (h.below hbel)
  have k0 := H.out.c0
  have k1 := H.out.c1
  by_cases h5 : x < 512
  · have d5 : decide (x < 512) = true := by simpa using h5
    have hf : fnd T A x = false := by simp [fnd]; omega
    unfold heldF at hz
    rw [hf] at hz
    simp at hz
    obtain ⟨rfl, rfl⟩ := hz
    clear h hf
    go_enter Try.func18, Try.ntmps18
    go_wp2
    refine bodyPost_ret (v := .agg #[.int .i64 0, .int .i64 6]) (by simp [results, Try.results18, go_sem]) rfl ⟨rfl, (Below.refl _ _).alloc (Nat.le_refl _) _⟩
  · have d5 : decide (x < 512) = false := by simpa using h5
    obtain ⟨i, hi⟩ : ∃ i : Nat, x % 512 = (i : Int) := ⟨(x % 512).toNat, by omega⟩
    have hi5 : i < 512 := by omega
    have ka := H.out.a i hi5
    have kt := H.out.t i hi5
    have hT := H.out.turns i hi5
    have hx0 : 0 ≤ x := by omega
    have g1 : (0 : Int) ≤ (i : Int) := by omega
    have g2 : (i : Int) < 512 := by omega
    have hfn : fnd T A x = (A i != 0 && tell T i == x) := by
      simp only [fnd, hi, Int.toNat_natCast, decide_eq_true (by omega : 512 ≤ x), Bool.true_and]
    unfold heldF at hz
    rw [hfn, hi, Int.toNat_natCast] at hz
    have HI := Lib.hid hi
    by_cases h0 : A i = 0
    · rw [h0] at ka
      rw [h0] at hz
      simp at hz
      obtain ⟨rfl, rfl⟩ := hz
      clear h hfn
      go_enter Try.func18, Try.ntmps18
      go_wp2
      refine bodyPost_ret (v := .agg #[.int .i64 0, .int .i64 6]) (by simp [results, Try.results18, go_sem]) rfl ⟨rfl, (Below.refl _ _).alloc (Nat.le_refl _) _⟩
    · have d0 : (A i == 0) = false := by simpa using h0
      obtain ⟨t, ht⟩ : ∃ t, t = T i := ⟨_, rfl⟩
      obtain ⟨q, hq⟩ : ∃ q, q = A i := ⟨_, rfl⟩
      rw [← ht] at kt hT
      rw [← hq] at ka d0
      have hdv := tell_div T x i hi
      rw [← ht] at hdv
      by_cases h1 : x / 512 = t + 1
      · have d1 : (x / 512 != t + 1) = false := by simpa using h1
        rw [hdv.2 h1] at hz
        simp [h0] at hz
        rw [← hq] at hz
        obtain ⟨rfl, rfl⟩ := hz
        have H1 := Lib.hid h1
        clear h hfn hdv ht hq h0 h1
        go_enter Try.func18, Try.ntmps18
        go_wp2
        refine bodyPost_ret (v := .agg #[.int .i64 q, .int .i64 0]) (by simp [results, Try.results18, go_sem]) rfl ⟨rfl, (Below.refl _ _).alloc (Nat.le_refl _) _⟩
      · have d1 : (x / 512 != t + 1) = true := by simpa using h1
        have h2 : (tell T i == x) = false := beq_eq_false_iff_ne.2 (fun e => h1 (hdv.1 e))
        rw [h2, Bool.and_false, if_neg (by decide)] at hz
        obtain ⟨rfl, rfl⟩ := Prod.mk.inj hz
        clear h hfn hdv h2 h1 hz ht hq h0
        go_enter Try.func18, Try.ntmps18
        go_wp2
        refine bodyPost_ret (v := .agg #[.int .i64 0, .int .i64 6]) (by simp [results, Try.results18, go_sem]) rfl ⟨rfl, (Below.refl _ _).alloc (Nat.le_refl _) _⟩
end Go.Proofs.Ytembjpfgoogbgaa.Fns
