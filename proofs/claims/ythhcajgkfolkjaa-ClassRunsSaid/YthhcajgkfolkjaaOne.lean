/- A table that is full, a table that is none, and one table with a slice of the call's own beside it. -/
import Derived.Test.YthhcajgkfolkjaaTwo
namespace Go.Proofs.Ythhcajgkfolkjaa.Fns
open Go Go.RowKit

set_option maxHeartbeats 4000000 in
theorem add_full (w : World) {B g : Nat} {v : Value} {l : List Cl} (h : Tb w B g v l) (f : Int) (C : Nat) (A : Option Addr) (n c : Nat) (xs : List Int) (hx : Ints w C A n xs) (hC : C ≤ w.heap.size) (hn : n ≤ 100000) (hb : mayB f xs = true) (hl : 256 ≤ l.length) :
    Calls Try.prog 8 #[.pointer (some ⟨g, 0, none⟩), .agg #[.int .i64 f, .slice A n c]] w fun e w' => e = .returned (.tuple #[.int .i64 0, .int .i64 3]) ∧ Below w.heap.size w w' := by
  obtain ⟨k0, k1, hx, hbel⟩ := box_keeps w (.int .i64 f) (.slice A n c) hx hC
  have H := Lib.hid (h.below hbel)
  have HX := Lib.hid hx
  have HW := Lib.hid hbel
  have HC := Lib.hid (Nat.le_trans hC hbel.size)
  obtain ⟨VA, vc, rfl⟩ := h.form
  have kt := H.out.c0
  have dl : decide ((256 : Int) ≤ (l.length : Int)) = true := by simp; omega
  have dl2 : decide (256 ≤ l.length) = true := by simp; omega
  clear h hx hbel
  go_enter Try.func8, Try.ntmps8
  go_wp2_with (go_at_call 16; refine (may_c _ f C A n c xs true HX.out HC.out hn hb).mono ?_; rintro e w1 ⟨rfl, hb1⟩; have H1 := Lib.hid (H.out.below hb1); have B1 := Lib.hid hb1; have kt := H1.out.c0; clear hb1)
  refine bodyPost_ret (v := .tuple #[.int .i64 0, .int .i64 3]) (by simp [results, Try.results8, go_sem]) rfl ⟨rfl, HW.out.trans (B1.out.mono HW.out.size)⟩
set_option maxHeartbeats 1000000 in
theorem of_full (w : World) {B g : Nat} {v : Value} {l : List Cl} (h : Tb w B g v l) (f : Int) (C : Nat) (A : Option Addr) (n c : Nat) (xs : List Int) (hx : Ints w C A n xs) (hC : C ≤ w.heap.size) (hn : n ≤ 100000) (hb : mayB f xs = true) (hl : 256 ≤ l.length) :
    Calls Try.prog 15 #[.pointer (some ⟨g, 0, none⟩), .int .i64 f, .slice A n c] w fun e w' => e = .returned (.tuple #[.int .i64 0, .int .i64 3]) ∧ Below w.heap.size w w' := by
  have HX := Lib.hid hx
  have H := Lib.hid h
  clear hx h
  go_enter Try.func15, Try.ntmps15
  go_wp2_with (go_at_call 8; refine (add_full _ H.out f C A n c xs HX.out hC hn hb hl).mono ?_; rintro e w' ⟨rfl, hb⟩; have HB := Lib.hid hb; clear hb)
  refine bodyPost_ret (v := .tuple #[.int .i64 0, .int .i64 3]) (by simp [results, Try.results15, go_sem]) rfl ⟨rfl, HB.out⟩
set_option maxHeartbeats 1000000 in
theorem class_nil (w : World) : Calls Try.prog 13 #[.pointer none, .int .i64 1] w fun e w' => e = .returned (.tuple #[.agg #[.int .i64 0, .slice none 0 0], .int .i64 2]) ∧ Below w.heap.size w w' := by
  go_enter Try.func13, Try.ntmps13
  go_wp2_with (go_at_call 10; refine (classes_nil _).mono ?_; rintro e w' ⟨rfl, rfl⟩)
  refine bodyPost_ret (v := .tuple #[.agg #[.int .i64 0, .slice none 0 0], .int .i64 2]) (by simp [results, Try.results13, go_sem]) rfl ⟨rfl, ?_⟩
  exact (Below.refl _ _).alloc (Nat.le_refl _) _

/-- A table, and a slice of ints of the call's own. -/
structure One (w wr : World) (g : Nat) (va : Value) (la : List Cl) (v : Value) (xs : List Int) : Prop where
  old : Below w.heap.size w wr
  ta : Tb wr w.heap.size g va la
  ow : wr.ownsRow w.heap.size 3 1 v xs.length (xs.map (Value.int .i64))
section
variable {w wr w' : World} {g : Nat} {va v : Value} {la : List Cl} {xs : List Int}
theorem One.below (h : One w wr g va la v xs) (hb : Below wr.heap.size wr w') : One w w' g va la v xs :=
  ⟨h.old.trans (hb.mono h.old.size), h.ta.below hb, (Frame.of_below (F := fun _ => False) hb).owns h.ow (fun _ _ e => e)⟩
theorem One.push {v' : Value} {x : Int} {o : Obj} {n : Nat} (h : One w wr g va [] v xs) (ho : w'.ownsRow w.heap.size 3 1 v' n (xs.map (Value.int .i64) ++ [Value.int .i64 x])) (hn : n = xs.length + 1) (hg : (wr.alloc o).grownBy w' v.ownBlock) : One w w' g va [] v' (xs ++ [x]) := by
  subst hn
  have f1 : Frame wr w' (fun k => v.ownBlock = some k) := ((Frame.refl wr _).alloc o).trans (Frame.of_grown hg (fun k _ e => e)) (fun k _ e => e)
  refine ⟨h.old.trans (f1.below h.old.size fun k _ hk => ?_), h.ta.frame f1 (own_ne h.ow h.ta.cells (by decide)) (fun k hk e => own_apart h.ow h.ta.owns (by decide) e hk) (by simp), by simpa using ho⟩
  rcases h.ow.2 with ⟨h1, _⟩ | ⟨b, _, _, h1, hb, _⟩
  · rw [h1] at hk; cases hk
  · rw [h1] at hk
    obtain rfl : b = k := by simpa [Value.ownBlock] using hk
    exact hb
theorem own_base {B e s n k : Nat} {u : Value} {ys : List Value} (h : wr.ownsRow B e s u n ys) (hk : u.ownBlock = some k) : B ≤ k := by
  rcases h.2 with ⟨h1, _⟩ | ⟨b, _, _, h1, hb, _⟩
  · rw [h1] at hk; cases hk
  · rw [h1] at hk
    obtain rfl : b = k := by simpa [Value.ownBlock] using hk
    exact hb
theorem One.add {va' : Value} {la' : List Cl} (h : One w wr g va la v xs) (ht : Tb w' w.heap.size g va' la') (hf : Frame wr w' (fun k => k = g ∨ va.ownBlock = some k)) : One w w' g va' la' v xs :=
  ⟨h.old.trans (hf.below h.old.size fun k _ e => e.elim (fun h1 => h1 ▸ h.ta.base) (fun h1 => own_base h.ta.owns h1)), ht,
    hf.owns h.ow (fun k hk e => e.elim (fun h1 => own_ne h.ow h.ta.cells (by decide) (h1 ▸ hk)) (fun h1 => own_apart h.ow h.ta.owns (by decide) hk h1))⟩
theorem One.intsAt {A : Option Addr} {n c : Nat} (h : One w wr g va la (.slice A n c) xs) : n = xs.length ∧ Ints wr wr.heap.size A xs.length xs := by
  obtain ⟨A', c', e, hi⟩ := ints_own h.ow
  injection e with e1 e2 _
  subst e1
  exact ⟨e2, hi⟩
theorem One.ints (h : One w wr g va la v xs) : ∃ A cp, v = .slice A xs.length cp ∧ Ints wr wr.heap.size A xs.length xs := ints_own h.ow
end
/-- What rises, with a greater one at its end, rises. -/
theorem rise_push (f k : Int) (hk : k < f) : ∀ (xs : List Int) (L : Int), rise f L xs = true → (xs = [] → L < k) → (xs ≠ [] → xs.getD (xs.length - 1) 0 < k) → rise f L (xs ++ [k]) = true
  | [], L, _, h1, _ => by
    have := h1 rfl
    simp [rise]; omega
  | [x], L, h, _, h2 => by
    have h3 : x < k := by simpa using h2 (by simp)
    simp [rise] at h ⊢
    omega
  | x :: y :: xs, L, h, _, h2 => by
    have h3 : rise f x (y :: xs) = true := by simp only [rise, Bool.and_eq_true] at h ⊢; exact h.2
    have h4 := rise_push f k hk (y :: xs) x h3 (by simp) (fun _ => by have := h2 (by simp); simpa using this)
    simp only [rise, List.cons_append, Bool.and_eq_true] at h h4 ⊢
    exact ⟨h.1, h4⟩
end Go.Proofs.Ythhcajgkfolkjaa.Fns
