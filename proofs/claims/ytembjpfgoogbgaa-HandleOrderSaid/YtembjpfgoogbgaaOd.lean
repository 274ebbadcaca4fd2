/- HandleOrder: the walk; and an argument that is bytes. -/
import Derived.Test.YtembjpfgoogbgaaSt
namespace Go.Proofs.Ytembjpfgoogbgaa
open Go.ChangeShapes Go.WideShapes Go.RowKit
/-- A slice that reads as bytes. -/
def Bytes (w : World) (A : Option Addr) (n : Nat) (xs : List Int) : Prop :=
  xs.length = n ∧ (0 < n → ∃ ad, A = some ad ∧ ad.block < w.heap.size ∧ ∀ j, j < n → w.cell? (ad.add j) = some (.int .u8 (xs.getD j 0))) ∧ ∀ x ∈ xs, 0 ≤ x ∧ x ≤ 255
theorem Bytes.below {w w' : World} {A : Option Addr} {n : Nat} {xs : List Int} (h : Bytes w A n xs) (hb : Below w.heap.size w w') : Bytes w' A n xs := by
  refine ⟨h.1, fun hn => ?_, h.2.2⟩
  obtain ⟨ad, rfl, hlt, hc⟩ := h.2.1 hn
  exact ⟨ad, rfl, Nat.lt_of_lt_of_le hlt hb.size, fun j hj => (hb.cell (by rw [block_of_add]; exact hlt)).trans (hc j hj)⟩
theorem bytes_of {H : Type} {enc : TypeId × Value → H} {P : Program} {W : World} {base : Nat} {spare : Nat → Bool} {held : Bool} {t e : TypeId} {a : Option Addr} {len cap : Nat} {d : DataW H} {ps : List MemPlace}
    (hu : P.underlying t = some (.slice e)) (he : P.underlying e = some (.int .u8)) (hc : P.cellsOf e = 1)
    (h : DataW.Trod enc P W base spare held t (.slice a len cap) d ps) :
    ∃ xs, Bytes W a len xs ∧ len ≤ cap ∧ cap ≤ maxLen := by
  obtain ⟨fuel, hf⟩ := h
  rcases open_ints hu he hc hf with ⟨hcs, _⟩ | ⟨x, l, c, zs, hcs, _, hl, hm, hz, hx, hcell, hwz⟩
  · simp [Value.cells] at hcs
    obtain ⟨rfl, rfl, rfl⟩ := hcs
    exact ⟨[], ⟨rfl, fun h => absurd h (by omega), by simp⟩, Nat.le_refl _, by simp [maxLen]⟩
  · simp [Value.cells] at hcs
    obtain ⟨rfl, rfl, rfl⟩ := hcs
    have hl2 : len ≤ zs.length := by
      rw [hz]; split
      · exact hl
      · exact Nat.le_refl _
    refine ⟨zs.take len, ⟨by simp; omega, fun hn => ⟨x, rfl, ?_, fun k hk => ?_⟩, fun y hy => bounds_u8 (hwz y (List.mem_of_mem_take hy))⟩, hl, hm⟩
    · have := World.block_lt_of_cell? W _ (hcell 0 (by omega))
      rwa [block_of_add] at this
    · rw [hcell k (by omega)]
      congr 2
      simp [List.getD_eq_getElem?_getD, hk]
theorem bytes_arg {H : Type} {enc : TypeId × Value → H} {W : World} {base : Nat} {spare : Nat → Bool} {held : Bool} {a : Option Addr} {len cap : Nat} {d : DataW H} {ps : List MemPlace} {ts : List TypeId} {ds : List (DataW H)} {j : Nat} {t : TypeId}
    (_ : (DataW.weightsEach Try.prog ts ds).all (· ≤ reachBytes) = true) (_ : ts[j]? = some t) (_ : ds[j]? = some d) (h : DataW.Trod enc Try.prog W base spare held 50 (.slice a len cap) d ps) :
    ∃ xs, Bytes W a len xs ∧ len ≤ cap ∧ cap ≤ maxLen := bytes_of Try.underlying50 Try.underlying5 (by kernel_rfl) h
end Go.Proofs.Ytembjpfgoogbgaa
namespace Go.Proofs.Ytembjpfgoogbgaa.Fns
open Go Go.RowKit
theorem info4 : (Try.prog.info? 4).map (fun i => (i.zero, i.size, i.bytes)) = some (some (.bool false), 1, 1) := by kernel_rfl
theorem St.formN {w wr : World} {g : Nat} {T A : Nat → Int} {v : Value} {xs : List Int} (h : St w wr g T A v xs) (n : Nat) (hn : xs.length = n) : ∃ B c, v = .slice B n c := by subst hn; exact h.form
/-- What is told at first. -/
def Ls (j : Nat) : List Int := (List.range j).map fun (i : Nat) => (i : Int) + 512
theorem Ls_len (j : Nat) : (Ls j).length = j := by simp [Ls]
theorem Ls_at {i j : Nat} (h : i < j) : (Ls j)[i]? = some ((i : Int) + 512) := by simp [Ls, h]
theorem Ls_succ (j : Nat) : Ls j ++ [(j : Int) + 512] = Ls (j + 1) := by simp [Ls, List.range_succ]
/-- The turns, and what holds, behind the drops F. -/
def Td (F : Nat → Bool) : Nat → Int := fun i => if F i = true then 1 else 0
def Ad (k : Nat) (F : Nat → Bool) : Nat → Int := fun i => if i < k ∧ F i = false then (i : Int) + 1 else 0
theorem Td_none : Td (fun _ => false) = fun _ => 0 := by funext i; simp [Td]
theorem Td_put {F : Nat → Bool} {s : Nat} (h : F s = false) : put (Td F) s (Td F s + 1) = Td (put F s true) := by
  funext i
  by_cases e : i = s
  · subst e; simp [Td, put, h]
  · simp [Td, put, e]
theorem Ad_put {k : Nat} {F : Nat → Bool} {s : Nat} : put (Ad k F) s 0 = Ad k (put F s true) := by
  funext i
  by_cases e : i = s
  · subst e; simp [Ad, put]
  · simp [Ad, put, e]
theorem Ad_zero : Ad 0 (fun _ => false) = fun _ => 0 := by funext i; simp [Ad]
theorem Ad_succ (j : Nat) : put (Ad j (fun _ => false)) j ((j : Int) + 1) = Ad (j + 1) (fun _ => false) := by
  funext i
  by_cases e : i = j
  · subst e; simp [Ad, put]
  · by_cases h : i < j
    · simp [Ad, put, e, h, Nat.lt_succ_of_lt h]
    · have : ¬ i < j + 1 := by omega
      simp [Ad, put, e, h, this]
theorem put_true {F : Nat → Bool} {s : Nat} (h : F s = true) : put F s true = F := by
  funext i
  by_cases e : i = s
  · subst e; simp [put, h]
  · simp [put, e]
/-- Behind the holding anew of those of the first j that were dropped. -/
def Ae (k : Nat) (F : Nat → Bool) (j : Nat) : Nat → Int := fun i => if i < k then (if F i = true then (if i < j then 700 + (i : Int) else 0) else (i : Int) + 1) else 0
def Le (k : Nat) (F : Nat → Bool) (j : Nat) : List Int := (List.range k).map fun (i : Nat) => if F i = true ∧ i < j then (i : Int) + 1024 else (i : Int) + 512
theorem Ae_zero (k : Nat) (F : Nat → Bool) : Ae k F 0 = Ad k F := by
  funext i
  by_cases h : i < k <;> cases hF : F i <;> simp [Ae, Ad, h, hF]
theorem Le_zero (k : Nat) (F : Nat → Bool) : Le k F 0 = Ls k := by simp [Le, Ls]
theorem Ae_yes {k j : Nat} {F : Nat → Bool} (hj : j < k) (h : F j = true) : put (Ae k F j) j (700 + (j : Int)) = Ae k F (j + 1) := by
  funext i
  by_cases e : i = j
  · subst e; simp [Ae, put, hj, h]
  · have h1 : (i < j) = (i < j + 1) := by apply propext; omega
    simp [Ae, put, e, h1]
theorem Ae_no {k j : Nat} {F : Nat → Bool} (h : F j = false) : Ae k F j = Ae k F (j + 1) := by
  funext i
  by_cases e : i = j
  · subst e; simp [Ae, h]
  · have h1 : (i < j) = (i < j + 1) := by apply propext; omega
    simp [Ae, h1]
theorem Le_len (k j : Nat) (F : Nat → Bool) : (Le k F j).length = k := by simp [Le]
theorem Le_yes {k j : Nat} {F : Nat → Bool} (hj : j < k) (h : F j = true) : (Le k F j).set j ((j : Int) + 1024) = Le k F (j + 1) := by
  apply List.ext_getElem?
  intro i
  by_cases e : i = j
  · subst e
    rw [List.getElem?_set_self (by rw [Le_len]; exact hj)]
    simp [Le, hj, h]
  · rw [List.getElem?_set_ne (fun e2 => e e2.symm)]
    have h1 : (i < j) = (i < j + 1) := by apply propext; omega
    by_cases h2 : i < k
    · simp [Le, h2, h1]
    · simp [Le, h2]
theorem Le_no {k j : Nat} {F : Nat → Bool} (h : F j = false) : Le k F j = Le k F (j + 1) := by
  unfold Le
  apply List.map_congr_left
  intro i _
  by_cases e : i = j
  · subst e; simp [h]
  · have h1 : (i < j) = (i < j + 1) := by apply propext; omega
    simp [h1]
theorem Le_end {k i : Nat} {F : Nat → Bool} (h : i < k) : (Le k F k)[i]? = some (tell (Td F) i) := by
  cases hF : F i <;> simp [Le, h, hF, tell, Td]
theorem Ae_lt {k j i : Nat} {F : Nat → Bool} (hj : j ≤ k) (h : i < j) : Ae k F j i ≠ 0 := by
  unfold Ae
  rw [if_pos (by omega), if_pos h]
  split <;> omega
theorem Ae_at {k j : Nat} {F : Nat → Bool} (h : F j = true) : Ae k F j j = 0 := by simp [Ae, h]
theorem Ae_ge {k j i : Nat} {F : Nat → Bool} (h : k ≤ i) : Ae k F j i = 0 := by unfold Ae; rw [if_neg (by omega)]
theorem allL_all (T A : Nat → Int) (k : Nat) (h1 : ∀ i, i < k → A i ≠ 0) (h2 : ∀ i, k ≤ i → A i = 0) (n : Nat) : allL T A n = (List.range (if n < k then n else k)).map fun i => (tell T i, A i) := by
  induction n with
  | zero => by_cases h : 0 < k <;> simp [allL, h]; omega
  | succ n ih =>
    rw [allL_succ, ih]
    by_cases h : n < k
    · rw [if_pos h, if_neg (h1 n h)]
      have e : (if n + 1 < k then n + 1 else k) = n + 1 := by split <;> omega
      rw [e, List.range_succ, List.map_append]
      rfl
    · rw [if_neg h, if_pos (h2 n (by omega)), if_neg (by omega), List.append_nil]
theorem heldCells_at (l : List (Int × Int)) : ∀ (i : Nat) (p : Int × Int), l[i]? = some p → (heldCells l)[i * 2]? = some (.int .i64 p.1) ∧ (heldCells l)[i * 2 + 1]? = some (.int .i64 p.2) := by
  induction l with
  | nil => intro i r h; simp at h
  | cons o l ih =>
    intro i r h
    have e : heldCells (o :: l) = [Value.int .i64 o.1, .int .i64 o.2] ++ heldCells l := by simp [heldCells]
    rw [e]
    cases i with
    | zero => simp at h; subst h; exact ⟨rfl, rfl⟩
    | succ i =>
      have := ih i r (by simpa using h)
      constructor
      · rw [List.getElem?_append_right (by simp; omega), ← this.1]; congr 1; simp; omega
      · rw [List.getElem?_append_right (by simp; omega), ← this.2]; congr 1; simp; omega

/-- A table, what was told, and who was dropped. -/
structure Od (w wr : World) (g : Nat) (T A : Nat → Int) (v : Value) (xs : List Int) (f n : Nat) (F : Nat → Bool) : Prop where
  st : St w wr g T A v xs
  fw : wr.ownsRow w.heap.size 4 1 (.slice (some ⟨f, 0, none⟩) n n) n ((List.range n).map fun i => .bool (F i))
section
variable {w wr w' : World} {g f n : Nat} {T A T' A' : Nat → Int} {v : Value} {xs : List Int} {F : Nat → Bool}
theorem Od.below (h : Od w wr g T A v xs f n F) (hb : Below wr.heap.size wr w') : Od w w' g T A v xs f n F := ⟨h.st.below hb, (Frame.of_below (F := fun _ => False) hb).owns h.fw (fun _ _ e => e)⟩
theorem Od.step (h : Od w wr g T A v xs f n F) (h2 : Hs w' g T' A') (hf : Frame wr w' (fun k => k = g)) : Od w w' g T' A' v xs f n F :=
  ⟨h.st.step h2 hf, hf.owns h.fw (fun k hk e => by subst e; exact h.st.so.h.ne h.fw (by decide) hk)⟩
theorem Od.get (h : Od w wr g T A v xs f n F) (j : Nat) (hj : j < n) : wr.cell? ⟨f, j, none⟩ = some (.bool (F j)) := by
  rw [h.fw.cellAt j (by omega)]; simp [hj]
theorem Od.fr (h : Od w wr g T A v xs f n F) (j : Nat) : wr.frozen? ⟨f, j, none⟩ = false := h.fw.frozenAt j
theorem Od.setF (h : Od w wr g T A v xs f n F) (j : Nat) (hj : j < n) : Od w (wr.setCell ⟨f, j, none⟩ (.bool true)) g T A v xs f n (put F j true) := by
  have hb : w.heap.size ≤ f := own_base h.fw rfl
  have hne : f ≠ g := fun e => h.st.so.h.ne h.fw (by decide) (by rw [e]; rfl)
  have fr : Frame wr (wr.setCell ⟨f, j, none⟩ (.bool true)) (fun k => k = f) := (Frame.refl wr (fun k => k = f)).setCell (p := ⟨f, j, none⟩) (fun _ => rfl) _
  have ho := (h.fw.stored j (.bool true)).1
  have hfg : v.ownBlock ≠ some f := by
    rcases h.fw.2 with ⟨h1, _⟩ | ⟨b, _, _, h1, _, hh, _⟩
    · cases h1
    · simp only [Value.slice.injEq, Option.some.injEq, Addr.mk.injEq, true_and, and_true] at h1
      obtain ⟨rfl, _⟩ := h1
      exact own_ne h.st.ow hh (by decide)
  refine ⟨⟨⟨h.st.so.old.setCell hb _, h.st.so.base, h.st.so.h.frame fr (fun e => hne e.symm)⟩, fr.owns h.st.ow (fun k hk e => hfg (e ▸ hk))⟩, ?_⟩
  have e : ((List.range n).map fun i => Value.bool (F i)).set j (.bool true) = (List.range n).map fun i => Value.bool (put F j true i) := by
    apply List.ext_getElem?
    intro i
    by_cases e : i = j
    · subst e
      rw [List.getElem?_set_self (by simpa using hj)]
      simp [put, hj]
    · rw [List.getElem?_set_ne (fun e2 => e e2.symm)]
      by_cases hi : i < n
      · simp [put, hi, e]
      · simp [hi]
  rw [← e]
  exact ho
theorem Od.setL {b c m : Nat} (h : Od w wr g T A (.slice (some ⟨b, 0, none⟩) m c) xs f n F) (j : Nat) (x : Int) : Od w (wr.setCell ⟨b, j, none⟩ (.int .i64 x)) g T A (.slice (some ⟨b, 0, none⟩) m c) (xs.set j x) f n F := by
  refine ⟨h.st.set j x, ?_⟩
  have hfg : (Value.slice (some ⟨f, 0, none⟩) n n).ownBlock ≠ some b := by
    obtain rfl := h.st.len
    rcases h.st.ow.2 with ⟨h1, _⟩ | ⟨b', _, _, h1, _, hh, _⟩
    · cases h1
    · simp only [Value.slice.injEq, Option.some.injEq, Addr.mk.injEq, true_and, and_true] at h1
      obtain ⟨rfl, _⟩ := h1
      exact own_ne h.fw hh (by decide)
  exact ((Frame.refl wr (fun k => k = b)).setCell (p := ⟨b, j, none⟩) (fun _ => rfl) _).owns h.fw (fun k hk e => hfg (e ▸ hk))
theorem Od.make {n : Nat} (h : St w wr g T A v xs) (ho : w'.ownsRow w.heap.size 4 1 (.slice (some ⟨wr.heap.size, 0, none⟩) n n) n (madeCells (Value.bool false).cells (n * 1)).toList) (hg : wr.grownBy w' none) : Od w w' g T A v xs wr.heap.size n (fun _ => false) := by
  have f1 : Frame wr w' (fun _ => False) := Frame.of_grown hg (fun k _ e => by cases e)
  refine ⟨h.below (f1.below (Nat.le_refl _) (fun _ _ e => e.elim)), ?_⟩
  have e : (madeCells (Value.bool false).cells (n * 1)).toList = (List.range n).map fun _ => Value.bool false := by
    apply List.ext_getElem?
    intro i
    by_cases hi : i < n
    · simp [madeCells, hi, Value.cells, Nat.mod_one]
    · simp [madeCells, hi]
  rw [← e]
  exact ho
end
end Go.Proofs.Ytembjpfgoogbgaa.Fns
