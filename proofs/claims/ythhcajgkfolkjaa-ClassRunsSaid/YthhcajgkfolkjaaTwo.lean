/- Two tables side by side, a slice of the call's own beside them, and what was told of a class: what keeps them; an argument that is bytes. -/
import Derived.Test.YthhcajgkfolkjaaRef
namespace Go.Proofs.Ythhcajgkfolkjaa
open Go.ChangeShapes Go.WideShapes Go.RowKit
/-- A slice that reads as bytes. -/
def Bytes (w : World) (A : Option Addr) (n : Nat) (xs : List Int) : Prop :=
  xs.length = n ∧ (0 < n → ∃ ad, A = some ad ∧ ad.block < w.heap.size ∧ ∀ j, j < n → w.cell? (ad.add j) = some (.int .u8 (xs.getD j 0))) ∧ ∀ x ∈ xs, 0 ≤ x ∧ x ≤ 255
theorem Bytes.below {w w' : World} {A : Option Addr} {n : Nat} {xs : List Int} (h : Bytes w A n xs) (hb : Below w.heap.size w w') : Bytes w' A n xs := by
  refine ⟨h.1, fun hn => ?_, h.2.2⟩
  obtain ⟨ad, rfl, hlt, hc⟩ := h.2.1 hn
  exact ⟨ad, rfl, Nat.lt_of_lt_of_le hlt hb.size, fun j hj => (hb.cell (by rw [block_of_add]; exact hlt)).trans (hc j hj)⟩
theorem bytes_of {H : Type} {enc : TypeId × Value → H} {P : Program} {W : World} {base : Nat} {spare : Nat → Bool} {held : Bool} {t e : TypeId} {a : Option Addr} {len cap : Nat} {d : DataW H} {ps : List MemPlace}
    (hu : P.underlying t = some (.slice e)) (he : P.underlying e = some (.int .u8)) (hc : P.cellsOf e = 1)
    (h : DataW.Trod enc P W base spare held t (.slice a len cap) d ps) :
    ∃ xs, Bytes W a len xs ∧ len ≤ cap ∧ cap ≤ maxLen := by
  obtain ⟨fuel, hf⟩ := h
  rcases open_ints hu he hc hf with ⟨hcs, _⟩ | ⟨x, l, c, zs, hcs, _, hl, hm, hz, hx, hcell, hwz⟩
  · simp [Value.cells] at hcs
    obtain ⟨rfl, rfl, rfl⟩ := hcs
    exact ⟨[], ⟨rfl, fun h => absurd h (by omega), by simp⟩, Nat.le_refl _, by simp [maxLen]⟩
  · simp [Value.cells] at hcs
    obtain ⟨rfl, rfl, rfl⟩ := hcs
    have hl2 : len ≤ zs.length := by
      rw [hz]; split
      · exact hl
      · exact Nat.le_refl _
    refine ⟨zs.take len, ⟨by simp; omega, fun hn => ⟨x, rfl, ?_, fun k hk => ?_⟩, fun y hy => bounds_u8 (hwz y (List.mem_of_mem_take hy))⟩, hl, hm⟩
    · have := World.block_lt_of_cell? W _ (hcell 0 (by omega))
      rwa [block_of_add] at this
    · rw [hcell k (by omega)]
      congr 2
      simp [List.getD_eq_getElem?_getD, hk]
theorem bytes_arg {H : Type} {enc : TypeId × Value → H} {W : World} {base : Nat} {spare : Nat → Bool} {held : Bool} {a : Option Addr} {len cap : Nat} {d : DataW H} {ps : List MemPlace} {ts : List TypeId} {ds : List (DataW H)} {j : Nat} {t : TypeId}
    (_ : (DataW.weightsEach Try.prog ts ds).all (· ≤ reachBytes) = true) (_ : ts[j]? = some t) (_ : ds[j]? = some d) (h : DataW.Trod enc Try.prog W base spare held 40 (.slice a len cap) d ps) :
    ∃ xs, Bytes W a len xs ∧ len ≤ cap ∧ cap ≤ maxLen := bytes_of Try.underlying40 Try.underlying5 (by kernel_rfl) h
end Go.Proofs.Ythhcajgkfolkjaa
namespace Go.Proofs.Ythhcajgkfolkjaa.Fns
open Go Go.RowKit

theorem ints_own {w : World} {B n : Nat} {v : Value} {xs : List Int} (hr : w.ownsRow B 3 1 v n (xs.map (Value.int .i64))) : ∃ A cp, v = .slice A n cp ∧ Ints w w.heap.size A n xs := by
  have hl : xs.length = n := by have := hr.1; simpa using this
  rcases hr.2 with ⟨h1, h0⟩ | ⟨b, cap, cur, h1, _, hh, _⟩
  · exact ⟨none, 0, by rw [h1, h0], hl, fun hp => absurd hp (by omega)⟩
  · refine ⟨_, cap, h1, hl, fun _ => ⟨_, rfl, lt_of_block hh, fun j hj => ?_⟩⟩
    exact hr.cells (g := b) (by rw [h1]; rfl) j (.int .i64 (xs.getD j 0)) (by simp [List.getElem?_map, List.getElem?_eq_getElem (by omega : j < xs.length), List.getD_eq_getElem?_getD])

/-- Two tables, and a slice of ints of the call's own. -/
structure Two (w wr : World) (ga gb : Nat) (va vb : Value) (la lb : List Cl) (v : Value) (xs : List Int) : Prop where
  old : Below w.heap.size w wr
  ta : Tb wr w.heap.size ga va la
  tb : Tb wr w.heap.size gb vb lb
  ne : ga ≠ gb
  ow : wr.ownsRow w.heap.size 3 1 v xs.length (xs.map (Value.int .i64))
section
variable {w wr w' : World} {ga gb : Nat} {va vb v : Value} {la lb : List Cl} {xs : List Int}
theorem Two.below (h : Two w wr ga gb va vb la lb v xs) (hb : Below wr.heap.size wr w') : Two w w' ga gb va vb la lb v xs :=
  ⟨h.old.trans (hb.mono h.old.size), h.ta.below hb, h.tb.below hb, h.ne, (Frame.of_below (F := fun _ => False) hb).owns h.ow (fun _ _ e => e)⟩
theorem Two.push {v' : Value} {x : Int} {o : Obj} {n : Nat} (h : Two w wr ga gb va vb [] [] v xs) (ho : w'.ownsRow w.heap.size 3 1 v' n (xs.map (Value.int .i64) ++ [Value.int .i64 x])) (hn : n = xs.length + 1) (hg : (wr.alloc o).grownBy w' v.ownBlock) : Two w w' ga gb va vb [] [] v' (xs ++ [x]) := by
  subst hn
  have f1 : Frame wr w' (fun k => v.ownBlock = some k) := ((Frame.refl wr _).alloc o).trans (Frame.of_grown hg (fun k _ e => e)) (fun k _ e => e)
  refine ⟨h.old.trans (f1.below h.old.size fun k _ hk => ?_), h.ta.frame f1 (own_ne h.ow h.ta.cells (by decide)) (fun k hk e => own_apart h.ow h.ta.owns (by decide) e hk) (by simp), h.tb.frame f1 (own_ne h.ow h.tb.cells (by decide)) (fun k hk e => own_apart h.ow h.tb.owns (by decide) e hk) (by simp), h.ne, by simpa using ho⟩
  rcases h.ow.2 with ⟨h1, _⟩ | ⟨b, _, _, h1, hb, _⟩
  · rw [h1] at hk; cases hk
  · rw [h1] at hk
    obtain rfl : b = k := by simpa [Value.ownBlock] using hk
    exact hb
/-- What a table's own block, of another table, keeps. -/
theorem Tb.other {B g g2 : Nat} {v2 : Value} {l l2 : List Cl} (h : Tb wr B g v l) {vn : Value} (h2 : Tb wr B g2 v2 l2) (hn : vn = .slice none 0 0) (hf : Frame wr w' (fun k => k = g2 ∨ vn.ownBlock = some k)) (hne : g ≠ g2) : Tb w' B g v l := by
  subst hn
  have e : ∀ k, Value.ownBlock (.slice none 0 0) ≠ some k := by intro k h; cases h
  refine h.frame hf (fun h1 => h1.elim hne (e _)) (fun k hk h1 => h1.elim (fun h3 => ?_) (e k)) (fun c hc k hk h1 => h1.elim (fun h3 => ?_) (e k))
  · subst h3
    exact own_ne h.owns h2.cells (by decide) hk
  · subst h3
    exact own_ne (h.refs c hc) h2.cells (by decide) hk
theorem own_other {B g2 n : Nat} {v2 u : Value} {l2 : List Cl} {ys : List Value} (h : wr.ownsRow B 3 1 u n ys) {vn : Value} (h2 : Tb wr B g2 v2 l2) (hn : vn = .slice none 0 0) (hf : Frame wr w' (fun k => k = g2 ∨ vn.ownBlock = some k)) : w'.ownsRow B 3 1 u n ys := by
  subst hn
  have e : ∀ k, Value.ownBlock (.slice none 0 0) ≠ some k := by intro k h; cases h
  refine hf.owns h (fun k hk h1 => h1.elim (fun h3 => ?_) (e k))
  subst h3
  exact own_ne h h2.cells (by decide) hk
theorem frame_old {B g2 : Nat} {v2 : Value} {l2 : List Cl} (hb : Below B w wr) (h2 : Tb wr B g2 v2 l2) (hB : B ≤ wr.heap.size) (hf : Frame wr w' (fun k => k = g2 ∨ (Value.slice none 0 0).ownBlock = some k)) : Below B w w' :=
  hb.trans (hf.below hB fun k _ e => e.elim (fun h => h ▸ h2.base) (fun h => by cases h))
theorem Two.addA {va' : Value} {la' : List Cl} (h : Two w wr ga gb (.slice none 0 0) vb la lb v xs) (ht : Tb w' w.heap.size ga va' la') (hf : Frame wr w' (fun k => k = ga ∨ (Value.slice none 0 0).ownBlock = some k)) : Two w w' ga gb va' vb la' lb v xs :=
  ⟨frame_old h.old h.ta h.old.size hf, ht, h.tb.other h.ta rfl hf (Ne.symm h.ne), h.ne, own_other h.ow h.ta rfl hf⟩
theorem Two.addB {vb' : Value} {lb' : List Cl} (h : Two w wr ga gb va (.slice none 0 0) la lb v xs) (ht : Tb w' w.heap.size gb vb' lb') (hf : Frame wr w' (fun k => k = gb ∨ (Value.slice none 0 0).ownBlock = some k)) : Two w w' ga gb va vb' la lb' v xs :=
  ⟨frame_old h.old h.tb h.old.size hf, h.ta.other h.tb rfl hf h.ne, ht, h.ne, own_other h.ow h.tb rfl hf⟩
theorem Two.intsAt {A : Option Addr} {n c : Nat} (h : Two w wr ga gb va vb la lb (.slice A n c) xs) : n = xs.length ∧ Ints wr wr.heap.size A xs.length xs := by
  obtain ⟨A', c', e, hi⟩ := ints_own h.ow
  injection e with e1 e2 _
  subst e1
  exact ⟨e2, hi⟩
theorem Two.ints (h : Two w wr ga gb va vb la lb v xs) : ∃ A cp, v = .slice A xs.length cp ∧ Ints wr wr.heap.size A xs.length xs := ints_own h.ow
end
/-- A class that was told: in a block of its own, with its addresses. -/
structure Got (w : World) (p : Nat) (f : Int) (A : Option Addr) (n c : Nat) (xs : List Int) : Prop where
  c0 : w.cell? ⟨p, 0, none⟩ = some (.int .i64 f)
  c1 : w.cell? ⟨p, 1, none⟩ = some (.slice A n c)
  lt : p < w.heap.size
  ints : Ints w w.heap.size A n xs
theorem Got.below {w w' : World} {p : Nat} {f : Int} {A : Option Addr} {n c : Nat} {xs : List Int} (h : Got w p f A n c xs) (hb : Below w.heap.size w w') : Got w' p f A n c xs :=
  ⟨(hb.cell (p := ⟨p, 0, none⟩) h.lt).trans h.c0, (hb.cell (p := ⟨p, 1, none⟩) h.lt).trans h.c1, Nat.lt_of_lt_of_le h.lt hb.size, by
    have h1 := h.ints.below hb (Nat.le_refl _)
    exact ⟨h1.1, fun hn => by obtain ⟨ad, e, hlt, hc⟩ := h1.2 hn; exact ⟨ad, e, Nat.lt_of_lt_of_le hlt hb.size, hc⟩⟩⟩
theorem got_new (w : World) (B n c : Nat) (A : Option Addr) (f : Int) (xs : List Int) (ho : w.ownsRow B 3 1 (.slice A n c) n (xs.map (Value.int .i64))) :
    Got (w.alloc (.cells #[.int .i64 f, .slice A n c] 26)) w.heap.size f A n c xs ∧ Below w.heap.size w (w.alloc (.cells #[.int .i64 f, .slice A n c] 26)) := by
  obtain ⟨A', c', e, hi⟩ := ints_own (ho.alloc (.cells #[.int .i64 f, .slice A n c] 26))
  injection e with e1 _ e2
  subst e1; subst e2
  have hr := heap_alloc_new w (.cells #[.int .i64 f, .slice A n c] 26)
  exact ⟨⟨cell_of_row _ _ 0 _ _ _ hr, cell_of_row _ _ 1 _ _ _ hr, lt_of_block hr, hi⟩, (Below.refl _ _).alloc (Nat.le_refl _) _⟩
end Go.Proofs.Ythhcajgkfolkjaa.Fns
