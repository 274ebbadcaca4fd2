/- The reference's Room, and SameHeld. -/
import Derived.Test.YtembjpfgoogbgaaRef3
import Derived.Deep.Matrix
import Derived.Deep.DeepCutAuto
namespace Go.Proofs.Ytembjpfgoogbgaa.Fns
open Go Go.RowKit
theorem roomR_c (w : World) {B r ba bt : Nat} {T A : Nat → Int} (h : Rf w B r ba bt T A) (z : Int) (hz : 512 - ((allL T A 512).length : Int) = z) :
    Calls Try.prog 20 #[.pointer (some ⟨r, 0, none⟩)] w fun e w' => e = .returned (.int .i64 z) ∧ Below w.heap.size w w' := by
  have H := Lib.hid h
  have hle := allL_len T A 512
  obtain ⟨L, hL⟩ : ∃ L, L = (allL T A 512).length := ⟨_, rfl⟩
  have HL := Lib.hid hL
  rw [← hL] at hz hle
  have HZ := Lib.hid hz
  clear h hL hz
  go_enter Try.func20, Try.ntmps20
  go_wp2_with (go_at_call 11; refine (allR_c _ H.out).mono ?_; rintro e w1 ⟨v, rfl, ho, hb⟩; obtain ⟨A1, c1, rfl⟩ := form33 ho; have HB := Lib.hid hb; rw [← HL.out]; clear ho hb)
  go_ret
  exact ⟨by rw [← HZ.out]; rfl, HB.out⟩
theorem form_of {w : World} {B n : Nat} {v : Value} {xs : List Value} (h : w.ownsRow B 33 2 v n xs) : (n = 0 ∧ v = .slice none 0 0) ∨ ∃ b c, v = .slice (some ⟨b, 0, none⟩) n c := by
  rcases h.2 with ⟨h1, h2⟩ | ⟨b, c, _, h1, _⟩
  · exact .inl ⟨h2, h1⟩
  · exact .inr ⟨b, c, h1⟩
theorem heldCells_at (l : List (Int × Int)) : ∀ (i : Nat) (p : Int × Int), l[i]? = some p → (heldCells l)[i * 2]? = some (.int .i64 p.1) ∧ (heldCells l)[i * 2 + 1]? = some (.int .i64 p.2) := by
  induction l with
  | nil => intro i r h; simp at h
  | cons o l ih =>
    intro i r h
    have e : heldCells (o :: l) = [Value.int .i64 o.1, .int .i64 o.2] ++ heldCells l := by simp [heldCells]
    rw [e]
    cases i with
    | zero => simp at h; subst h; exact ⟨rfl, rfl⟩
    | succ i =>
      have := ih i r (by simpa using h)
      constructor
      · rw [List.getElem?_append_right (by simp; omega), ← this.1]; congr 1; simp; omega
      · rw [List.getElem?_append_right (by simp; omega), ← this.2]; congr 1; simp; omega
theorem held_get {w8 : World} {B b c j q : Nat} {L : List (Int × Int)} {p : Int × Int} (h : w8.ownsRow B 33 2 (.slice (some ⟨b, 0, none⟩) j c) j (heldCells L)) (hq : q < j) (hp : L[q]? = some p) :
    w8.cell? ⟨b, q * 2, none⟩ = some (.int .i64 p.1) ∧ w8.cell? ⟨b, q * 2 + 1, none⟩ = some (.int .i64 p.2) :=
  ⟨(h.cellAt (q * 2) (by omega)).trans (heldCells_at L q p hp).1, (h.cellAt (q * 2 + 1) (by omega)).trans (heldCells_at L q p hp).2⟩
set_option maxHeartbeats 4000000 in
theorem sameHeld_c (w : World) {B1 B2 n : Nat} {v1 v2 : Value} {L : List (Int × Int)} (hn : L.length = n) (h1 : w.ownsRow B1 33 2 v1 n (heldCells L)) (h2 : w.ownsRow B2 33 2 v2 n (heldCells L)) (hm : n ≤ 512) :
    Calls Try.prog 21 #[v1, v2] w fun e w' => e = .returned (.bool true) ∧ Below w.heap.size w w' := by
  obtain ⟨A1, c1, rfl⟩ := form33 h1
  obtain ⟨A2, c2, rfl⟩ := form33 h2
  have H1 := Lib.hid h1
  have H2 := Lib.hid h2
  have HN := Lib.hid hn
  clear h1 h2 hn
  have q0 : ((n : Int) != (n : Int)) = false := by simp
  go_enter Try.func21, Try.ntmps21
  go_wp2
  go_loopw [5] (fun i wr => ∃ (j nq : Nat), j ≤ n ∧ i = .int .i64 (j : Int) ∧ wr = w.drewN nq) (fun i _ => n - (intOf i).toNat)
  case atStart => exact ⟨0, 0, by omega, rfl, rfl⟩
  case round =>
    obtain ⟨j, nq, hj, rfl, rfl⟩ := hrel
    by_cases hlt : j < n
    · have dj : decide ((j : Int) < (n : Int)) = true := by simp; omega
      have dj2 : decide (j < n) = true := by simp; omega
      have g1 : (0 : Int) ≤ (j : Int) := by omega
      have g2 : (j : Int) < (n : Int) := by omega
      obtain ⟨p, hp⟩ : ∃ p, L[j]? = some p := ⟨L[j]'(by rw [HN.out]; exact hlt), List.getElem?_eq_getElem _⟩
      obtain ⟨b1, rfl⟩ : ∃ b, A1 = some ⟨b, 0, none⟩ := by
        rcases form_of H1.out with ⟨h, _⟩ | ⟨b, c, h⟩
        · omega
        · injection h with h _ _; exact ⟨b, h⟩
      obtain ⟨b2, rfl⟩ : ∃ b, A2 = some ⟨b, 0, none⟩ := by
        rcases form_of H2.out with ⟨h, _⟩ | ⟨b, c, h⟩
        · omega
        · injection h with h _ _; exact ⟨b, h⟩
      obtain ⟨ka, kb⟩ := held_get H1.out hlt hp
      obtain ⟨kc, kd⟩ := held_get H2.out hlt hp
      obtain ⟨p1, p2⟩ := p
      simp only at ka kb kc kd
      clear hp
      go_wp2
      go_quiet (fail)
      go_wp2
      go_roundw
      case rel => exact ⟨j + 1, _, by omega, by go_num, rfl⟩
      case measure => simp [intOf]; omega
    · obtain rfl : j = n := by omega
      have dj : decide ((j : Int) < (j : Int)) = false := by simp
      go_wp2
      go_ret
      exact ⟨rfl, ⟨rfl, rfl, rfl, Nat.le_refl _, fun _ _ => rfl⟩⟩
/-- The table, and the reference's beside it. -/
structure Both (w wr : World) (g r ba bt : Nat) (T A : Nat → Int) : Prop where
  so : Sole w wr g T A
  rf : Rf wr w.heap.size r ba bt T A
section
variable {w wr w' : World} {g r ba bt : Nat} {T A T' A' : Nat → Int}
theorem Both.below (h : Both w wr g r ba bt T A) (hb : Below wr.heap.size wr w') : Both w w' g r ba bt T A := ⟨h.so.below hb, h.rf.below hb⟩
theorem Both.drewN (h : Both w wr g r ba bt T A) (n : Nat) : Both w (wr.drewN n) g r ba bt T A := h.below ⟨rfl, rfl, rfl, Nat.le_refl _, fun _ _ => rfl⟩
/-- The table has turned, the reference not yet. -/
structure Turn (w wr : World) (g r ba bt : Nat) (T A T' A' : Nat → Int) : Prop where
  so : Sole w wr g T' A'
  rf : Rf wr w.heap.size r ba bt T A
theorem Both.turn (h : Both w wr g r ba bt T A) (h2 : Hs w' g T' A') (hf : Frame wr w' (fun b => b = g)) : Turn w w' g r ba bt T A T' A' :=
  ⟨h.so.step h2 hf, h.rf.frame hf
    (fun e => by
      obtain ⟨cs, h1, _⟩ := h.so.h.block
      rw [← e, h.rf.box] at h1
      injection h1 with h1
      injection h1 with _ h1
      exact absurd h1 (by decide))
    (fun e => h.so.h.ne h.rf.at_ (by decide) (by rw [e]; rfl)) (fun e => h.so.h.ne h.rf.tu (by decide) (by rw [e]; rfl))⟩
theorem Turn.turn {F : Nat → Prop} (h : Turn w wr g r ba bt T A T' A') (h2 : Rf w' w.heap.size r ba bt T' A') (hf : Frame wr w' F) (hF : ∀ b, F b → b = ba ∨ b = bt) : Both w w' g r ba bt T' A' := by
  have hga : ba ≠ g := fun e => h.so.h.ne h.rf.at_ (by decide) (by rw [e]; rfl)
  have hgt : bt ≠ g := fun e => h.so.h.ne h.rf.tu (by decide) (by rw [e]; rfl)
  refine ⟨⟨h.so.old.trans (hf.below h.so.old.size fun k _ e => ?_), h.so.base, h.so.h.frame hf (fun e => ?_)⟩, h2⟩
  · rcases hF k e with rfl | rfl
    · exact own_base h.rf.at_ rfl
    · exact own_base h.rf.tu rfl
  · rcases hF _ e with e | e
    · exact hga e.symm
    · exact hgt e.symm
end
end Go.Proofs.Ytembjpfgoogbgaa.Fns
namespace Go.Proofs.Ytembjpfgoogbgaa
open Go.ChangeShapes Go.WideShapes Go.Deep Go.RowKit
/-- Element i of a slice at ad reads as this pair of ints. -/
structure AskAt (w : World) (B : Nat) (ad : Addr) (i : Nat) (p : Int × Int) : Prop where
  lt : ad.block < B
  c0 : w.cell? (ad.add (i * 2)) = some (.int .i64 p.1)
  c1 : w.cell? (ad.add (i * 2 + 1)) = some (.int .i64 p.2)
  w0 : -9223372036854775808 ≤ p.1 ∧ p.1 ≤ 9223372036854775807
  w1 : -9223372036854775808 ≤ p.2 ∧ p.2 ≤ 9223372036854775807
theorem AskAt.below {w w' : World} {B : Nat} {ad : Addr} {i : Nat} {r : Int × Int} (h : AskAt w B ad i r) (hb : Below B w w') : AskAt w' B ad i r :=
  ⟨h.lt, (hb.cell (by rw [block_of_add]; exact h.lt)).trans h.c0, (hb.cell (by rw [block_of_add]; exact h.lt)).trans h.c1, h.w0, h.w1⟩
theorem two_of {α : Type} (l : List α) (h : l.length = 2) : ∃ a b, l = [a, b] := by
  match l, h with
  | [a, b], _ => exact ⟨a, b, rfl⟩
theorem ask_of {H : Type} {enc : TypeId × Value → H} {W : World} {base : Nat} {spare : Nat → Bool} {held : Bool} {fuel : Nat} {cs : List Value} {x : DataW H × List MemPlace}
    (h : DataW.trod enc Try.prog W base spare held fuel 29 cs = some x) : ∃ p : Int × Int, cs = [.int .i64 p.1, .int .i64 p.2] ∧ (-9223372036854775808 ≤ p.1 ∧ p.1 ≤ 9223372036854775807) ∧ -9223372036854775808 ≤ p.2 ∧ p.2 ≤ 9223372036854775807 := by
  obtain ⟨xs, n, _, _, hcl, hlen, hg⟩ := DataW.trod_struct Try.underlying29 h
  have hC : Try.prog.cellsOf 29 = 2 := by kernel_rfl
  have c3 : Try.prog.cellsOf 3 = 1 := by kernel_rfl
  obtain ⟨a, b, rfl⟩ := two_of cs (hcl.trans hC)
  obtain ⟨x0, x1, rfl⟩ := two_of xs hlen
  have g0 : DataW.trod enc Try.prog W base spare held n 3 [a] = some x0 := by have := hg 0 _ rfl; simpa [c3] using this
  have g1 : DataW.trod enc Try.prog W base spare held n 3 [b] = some x1 := by have := hg 1 _ rfl; simpa [c3] using this
  obtain ⟨n0, e0, _, w0⟩ := DataW.trod_int Try.underlying3 g0
  obtain ⟨n1, e1, _, w1⟩ := DataW.trod_int Try.underlying3 g1
  simp at e0 e1
  exact ⟨(n0, n1), by rw [e0, e1], bounds_i64 w0, bounds_i64 w1⟩
/-- An argument that is a slice of asks, opened. -/
theorem asks_arg {H : Type} {enc : TypeId × Value → H} {W : World} {base : Nat} {spare : Nat → Bool} {held : Bool} {a : Option Addr} {len cap : Nat} {d : DataW H} {ps : List MemPlace} {ts : List TypeId} {ds : List (DataW H)} {j : Nat} {t : TypeId}
    (_ : (DataW.weightsEach Try.prog ts ds).all (· ≤ reachBytes) = true) (_ : ts[j]? = some t) (_ : ds[j]? = some d) (h : DataW.Trod enc Try.prog W base spare held 22 (.slice a len cap) d ps) :
    ∃ R : Nat → Int × Int, (∀ i, i < len → ∃ ad, a = some ad ∧ AskAt W W.heap.size ad i (R i)) ∧ len ≤ cap ∧ cap ≤ maxLen := by
  obtain ⟨fuel, hf⟩ := h
  rcases open_slice Try.underlying22 hf with ⟨hcs, _⟩ | ⟨x, l, c, m, n, D, Pl, hcs, _, hl, hm, hmm, _, hi⟩
  · simp [Value.cells] at hcs
    obtain ⟨rfl, rfl, rfl⟩ := hcs
    exact ⟨fun _ => (0, 0), fun i hi => absurd hi (by omega), Nat.le_refl _, by simp [maxLen]⟩
  · simp [Value.cells] at hcs
    obtain ⟨rfl, rfl, rfl⟩ := hcs
    have hC : Try.prog.cellsOf 29 = 2 := by kernel_rfl
    rw [hC] at hi
    have hlm : len ≤ m := by
      rw [hmm]; split
      · exact hl
      · exact Nat.le_refl _
    have each : ∀ i, i < len → ∃ r : Int × Int, AskAt W W.heap.size x i r := by
      intro i hlt
      obtain ⟨cs', hc, ht⟩ := hi i (by omega)
      obtain ⟨r, rfl, h1, h2⟩ := ask_of ht
      obtain ⟨_, _, hat⟩ := World.cells?_some hc
      have e0 := hat 0 (by decide)
      have e1 := hat 1 (by decide)
      rw [Go.Deep.add_add] at e0 e1
      have hb := World.block_lt_of_cell? W _ e0
      rw [block_of_add] at hb
      exact ⟨r, hb, by simpa using e0, by simpa using e1, h1, h2⟩
    obtain ⟨f, hf2⟩ := choose_lt each
    exact ⟨f, fun i hi => ⟨x, rfl, hf2 i hi⟩, hl, hm⟩
end Go.Proofs.Ytembjpfgoogbgaa
