/- What is below 1 is taken out of a slice. -/
import Derived.Test.YtibgbahaldojiaaGreatConcat
namespace Go.Proofs.YtibgbahaldojiaaGreat.Fns
open Go Go.RowKit Go.Sort
/-- Is a number kept? -/
def pos (x : Int) : Bool := !decide (x < 1)
theorem idx1_c (w : World) (g n c : Nat) (xs : List Int) (hn : n ≤ 100000) (hc : ∀ j, j < n → w.cell? ⟨g, j, none⟩ = some (.int .i64 (xs.getD j 0))) (z : Int)
    (hz : (∃ k : Nat, z = (k : Int) ∧ k < n ∧ pos (xs.getD k 0) = false ∧ ∀ j : Nat, j < k → pos (xs.getD j 0) = true) ∨ (z = -1 ∧ ∀ j : Nat, j < n → pos (xs.getD j 0) = true)) :
    Calls Tryz.prog 184 #[.slice (some ⟨g, 0, none⟩) n c, .func (.func 180) #[] #[]] w fun e w' => e = .returned (.int .i64 z) ∧ w = w' := by
  have HC := Lib.hid hc
  have HZ := Lib.hid hz
  clear hc hz
  go_enter Tryz.func184, Tryz.ntmps184
  go_wp2
  go_loopw [5, 8] (fun _ i wr => ∃ j : Nat, j ≤ n ∧ i = .int .i64 (j : Int) ∧ wr = w ∧ ∀ q : Nat, q < j → pos (xs.getD q 0) = true) (fun _ i _ => n - (intOf i).toNat)
  case atStart => exact ⟨0, by omega, rfl, rfl, fun q h => by omega⟩
  case round =>
    obtain ⟨j, hj, rfl, rfl, hq⟩ := hrel
    have HQ := Lib.hid hq
    clear hq
    by_cases hlt : j < n
    · have dj : decide ((j : Int) < (n : Int)) = true := by simp; omega
      have dj2 : decide (j < n) = true := by simp; omega
      have hcj := HC.out j hlt
      have g1 : (0 : Int) ≤ (j : Int) := by omega
      have g2 : (j : Int) < (n : Int) := by omega
      obtain ⟨x, hx⟩ : ∃ x, xs.getD j 0 = x := ⟨_, rfl⟩
      rw [hx] at hcj
      have HX := Lib.hid hx
      clear hx
      by_cases hp : x < 1
      · have hzj : z = (j : Int) := by
          rcases HZ.out with ⟨k, h1, h2, h3, h4⟩ | ⟨_, h4⟩
          · rcases Nat.lt_trichotomy k j with h5 | h5 | h5
            · have := HQ.out k h5; rw [h3] at this; cases this
            · rw [h1, h5]
            · have := h4 j h5; rw [HX.out] at this; simp [pos] at this; omega
          · have := h4 j hlt; rw [HX.out] at this; simp [pos] at this; omega
        subst hzj
        go_wp2_with (go_at_call 180; refine (lit_c _ x true (by simpa using hp)).mono ?_; rintro e w' ⟨rfl, rfl⟩)
        go_ret
        exact ⟨rfl, rfl⟩
      · have HP := Lib.hid hp
        clear hp
        go_wp2_with (go_at_call 180; refine (lit_c _ x false (by simpa using HP.out)).mono ?_; rintro e w' ⟨rfl, rfl⟩)
        go_roundw
        case rel => exact ⟨j + 1, by omega, by first | go_num | trivial, by first | rfl | trivial, fun q h => by
          rcases Nat.lt_or_ge q j with h3 | h3
          · exact HQ.out q h3
          · obtain rfl : q = j := by omega
            rw [HX.out]
            have := HP.out
            simp [pos]; omega⟩
        case measure => simp [intOf]; omega
    · obtain rfl : j = n := by omega
      have dj : decide ((j : Int) < (j : Int)) = false := by simp
      obtain rfl : z = -1 := by
        rcases HZ.out with ⟨k, _, h2, h3, _⟩ | ⟨h3, _⟩
        · have := HQ.out k h2; rw [h3] at this; cases this
        · exact h3
      go_wp2
      go_ret
      exact ⟨rfl, rfl⟩
/-- The first one that is not kept. -/
theorem first_not : ∀ (xs : List Int), (∃ k : Nat, k < xs.length ∧ pos (xs.getD k 0) = false ∧ ∀ j : Nat, j < k → pos (xs.getD j 0) = true) ∨ (∀ j : Nat, j < xs.length → pos (xs.getD j 0) = true)
  | [] => .inr (fun j h => by simp at h)
  | x :: xs => by
    by_cases hx : pos x = true
    · rcases first_not xs with ⟨k, h1, h2, h3⟩ | h
      · exact .inl ⟨k + 1, by simpa using h1, by simpa using h2, fun j hj => by
          rcases j with _ | j
          · simpa using hx
          · simpa using h3 j (by omega)⟩
      · exact .inr (fun j hj => by
          rcases j with _ | j
          · simpa using hx
          · simpa using h j (by simpa using hj))
    · exact .inl ⟨0, by simp, by simpa using hx, fun j hj => by omega⟩
theorem filt_take (xs : List Int) (j : Nat) (h : j < xs.length) : (xs.take (j + 1)).filter pos = (xs.take j).filter pos ++ (if pos (xs.getD j 0) = true then [xs.getD j 0] else []) := by
  rw [List.take_add_one, List.filter_append]
  simp [List.getD_eq_getElem?_getD, List.getElem?_eq_getElem h, List.filter_cons]
theorem filt_all (xs : List Int) (h : ∀ j : Nat, j < xs.length → pos (xs.getD j 0) = true) : xs.filter pos = xs := by
  rw [List.filter_eq_self]
  intro a ha
  obtain ⟨j, hj, rfl⟩ := List.getElem_of_mem ha
  have := h j hj
  simpa [List.getD_eq_getElem?_getD, List.getElem?_eq_getElem hj] using this
/-- A slice of the call's own, as a row of cells. -/
theorem own_row {w : World} {B g n cap : Nat} {xs : List Int} (h : w.ownsRow B 3 1 (.slice (some ⟨g, 0, none⟩) n cap) n (xs.map (Value.int .i64))) : ∃ f, Rw w g 3 cap f ∧ n ≤ cap ∧ cap ≤ maxLen ∧ B ≤ g ∧ ∀ q, q < n → f q = .int .i64 (xs.getD q 0) := by
  have hc := fun q (hq : q < n) => own_cell h hq
  rcases h.2 with ⟨h1, _⟩ | ⟨g', cap', cur, h1, h2, h3, h4, h5, h6, _⟩
  · cases h1
  · simp only [Value.slice.injEq, Option.some.injEq, Addr.mk.injEq, true_and, and_true] at h1
    obtain ⟨rfl, rfl⟩ := h1
    refine ⟨fun i => cur.getD i (.bool false), ⟨cur, h3, by omega, fun i hi => ?_⟩, h4, h5, h2, fun q hq => ?_⟩
    · simp [Array.getD, show i < cur.size by omega]
    · obtain ⟨s', c', hv, hcl⟩ := hc q hq
      injection hv with hv _ _
      injection hv with hv
      injection hv with hv _ _
      subst hv
      rw [cell_of_row _ _ q _ _ _ h3] at hcl
      simp [Array.getD, show q < cur.size by omega, (Array.getElem?_eq_some_iff.1 hcl).2]
theorem row_own {w : World} {B g m cap : Nat} {f : Nat → Value} {ys : List Int} (h : Rw w g 3 cap f) (hB : B ≤ g) (hc : cap ≤ maxLen) (hm : ys.length = m) (hmc : m ≤ cap) (hy : ∀ q, q < m → f q = .int .i64 (ys.getD q 0)) : w.ownsRow B 3 1 (.slice (some ⟨g, 0, none⟩) m cap) m (ys.map (Value.int .i64)) := by
  have h1 := owns_cut (h.owns hB hc) hmc
  have e : ((List.range cap).map f).take m = ys.map (Value.int .i64) := by
    apply List.ext_getElem?
    intro i
    by_cases hi : i < m
    · rw [List.getElem?_take_of_lt hi, List.getElem?_map, List.getElem?_range (by omega), List.getElem?_map, List.getElem?_eq_getElem (by omega)]
      simp [hy i hi, List.getD_eq_getElem?_getD, List.getElem?_eq_getElem (show i < ys.length by omega)]
    · rw [List.getElem?_eq_none (by simp; omega), List.getElem?_eq_none (by simp; omega)]
  rwa [e] at h1
set_option maxRecDepth 100000 in
set_option maxHeartbeats 2000000 in
theorem delFunc_c (w : World) (B n : Nat) (v : Value) (xs : List Int) (hown : w.ownsRow B 3 1 v n (xs.map (Value.int .i64))) (hn0 : 0 < n) (hn : n ≤ 100000) :
    Calls Tryz.prog 178 #[v, .func (.func 180) #[] #[]] w fun e w' => ∃ v', e = .returned v' ∧ w'.ownsRow B 3 1 v' (xs.filter pos).length ((xs.filter pos).map (Value.int .i64)) ∧ Frame w w' (fun k => v.ownBlock = some k) := by
  have hl : xs.length = n := by have := hown.1; simpa using this
  obtain ⟨g, cap, rfl, hcell0⟩ := own_cell hown hn0
  have hcell : ∀ j, j < n → w.cell? ⟨g, j, none⟩ = some (.int .i64 (xs.getD j 0)) := fun j hj => by
    obtain ⟨s', c', hv, h⟩ := own_cell hown hj
    injection hv with hv _ _
    injection hv with hv
    injection hv with hv _ _
    subst hv
    exact h
  rcases first_not xs with ⟨k, k1, k2, k3⟩ | hall
  · obtain ⟨f0, hr0, hnc, hcm, hBg, hf0⟩ := own_row hown
    have HI := Lib.hid (idx1_c w g n cap xs hn hcell (k : Int) (.inl ⟨k, rfl, by omega, k2, k3⟩))
    have hpre : ∀ j, j ≤ k → (xs.take j).filter pos = xs.take j := fun j hj => filt_all _ (fun q hq => by
      have hq' : q < j := by simp at hq; omega
      rw [List.getD_eq_getElem?_getD, List.getElem?_take_of_lt hq', ← List.getD_eq_getElem?_getD]
      exact k3 q (by omega))
    have hp1 : (xs.take (k + 1)).filter pos = xs.take k := by rw [filt_take xs k (by omega), k2, hpre k (Nat.le_refl _)]; simp
    have R0 := Lib.hid hr0
    have F0 := Lib.hid hf0
    have HP1 := Lib.hid hp1
    have HL := Lib.hid hl
    have HT := Lib.hid (fun j (hj : j < n) => filt_take xs j (by omega))
    have hkn : k < n := by omega
    have d0 : ((k : Int) == -1) = false := beq_eq_false_iff_ne.2 (by omega)
    have hcm2 : cap ≤ 9223372036854775807 := by unfold maxLen at hcm; omega
    clear hcell hcell0 hown hl hpre hp1 k1 k2 k3 hf0 hr0
    go_enter Tryz.func178, Tryz.ntmps178
    go_wp2_with (go_at_call 184; refine HI.out.mono ?_; rintro e w' ⟨rfl, rfl⟩)
    go_loopw [5, 6, 7] (fun iv jv _ wr => ∃ j f, j ≤ n ∧ ((xs.take j).filter pos).length < j ∧ iv = .int .i64 (((xs.take j).filter pos).length : Int) ∧ jv = .int .i64 (j : Int) ∧ Rw wr g 3 cap f ∧ (∀ q, q < ((xs.take j).filter pos).length → f q = .int .i64 (((xs.take j).filter pos).getD q 0)) ∧ (∀ q, j ≤ q → q < n → f q = .int .i64 (xs.getD q 0)) ∧ Frame w wr (fun k => k = g)) (fun _ jv _ _ => n - (intOf jv).toNat)
    case atStart => exact ⟨k + 1, f0, by omega, by rw [HP1.out, List.length_take] <;> omega, by rw [HP1.out, List.length_take, Nat.min_eq_left (by have := HL.out; omega)], rfl, R0.out, fun q hq => by
      rw [HP1.out] at hq ⊢
      have hq' : q < k := by simp at hq; omega
      rw [F0.out q (by omega), List.getD_eq_getElem?_getD, List.getD_eq_getElem?_getD, List.getElem?_take_of_lt hq'], fun q _ hq => F0.out q hq, Frame.refl _ _⟩
    case round =>
      obtain ⟨j, f, hj, hij, rfl, rfl, hr, hf1, hf2, hfr⟩ := hrel
      have HR := Lib.hid hr
      have HF1 := Lib.hid hf1
      have HF2 := Lib.hid hf2
      have HFR := Lib.hid hfr
      obtain ⟨i, hi⟩ : ∃ i, ((xs.take j).filter pos).length = i := ⟨_, rfl⟩
      have HII := Lib.hid hi
      rw [hi] at hij HF1 ⊢
      clear hi hf1
      by_cases hlt : j < n
      · have hcj := hr.cell j (by omega)
        rw [hf2 j (Nat.le_refl _) hlt] at hcj
        obtain ⟨x, hx⟩ : ∃ x, xs.getD j 0 = x := ⟨_, rfl⟩
        rw [hx] at hcj
        have hT := HT.out j hlt
        rw [hx] at hT
        have HTJ := Lib.hid hT
        have dj : decide ((j : Int) < (n : Int)) = true := by simp; omega
        have dj2 : decide (j < n) = true := by simp; omega
        have g1 : (0 : Int) ≤ (j : Int) := by omega
        have g2 : (j : Int) < (n : Int) := by omega
        have g3 : (0 : Int) ≤ (i : Int) := by omega
        have g4 : (i : Int) < (n : Int) := by omega
        have hci := hr.cell i (by omega)
        have hfi := hr.frz i
        clear hr hf2 hfr hT hx
        by_cases hp : x < 1
        · have HP := Lib.hid hp
          clear hp
          go_wp2_with (go_at_call 180; refine (lit_c _ x true (by simpa using HP.out)).mono ?_; rintro e w' ⟨rfl, rfl⟩)
          go_roundw
          case rel =>
            have ht : (xs.take (j + 1)).filter pos = (xs.take j).filter pos := by rw [HTJ.out, if_neg (by have := HP.out; simp [pos]; omega), List.append_nil]
            exact ⟨j + 1, f, by omega, by rw [ht, HII.out]; omega, by rw [ht, HII.out], by go_num, HR.out, by rw [ht, HII.out]; exact HF1.out, fun q h1 h2 => HF2.out q (by omega) h2, HFR.out⟩
          case measure => simp [intOf]; omega
        · have HP := Lib.hid hp
          clear hp
          go_wp2_with (go_at_call 180; refine (lit_c _ x false (by simpa using HP.out)).mono ?_; rintro e w' ⟨rfl, rfl⟩)
          go_roundw
          case rel =>
            have ht : (xs.take (j + 1)).filter pos = (xs.take j).filter pos ++ [x] := by rw [HTJ.out, if_pos (by have := HP.out; simp [pos]; omega)]
            have hl1 : ((xs.take (j + 1)).filter pos).length = i + 1 := by rw [ht, List.length_append, HII.out]; rfl
            refine ⟨j + 1, put f i (.int .i64 x), by omega, by rw [hl1]; omega, by rw [hl1]; go_num, by go_num, HR.out.set i (by omega) _, fun q hq => ?_, fun q h1 h2 => ?_, HFR.out.trans (frame_set i _) (fun _ _ e => e)⟩
            · rw [hl1] at hq
              rw [ht]
              by_cases e : q = i
              · subst e
                rw [put_same, List.getD_eq_getElem?_getD, List.getElem?_append_right (by rw [HII.out]; exact Nat.le_refl _), HII.out]
                simp
              · rw [put_other _ _ _ _ e, HF1.out q (by omega), List.getD_eq_getElem?_getD, List.getD_eq_getElem?_getD, List.getElem?_append_left (by rw [HII.out]; omega)]
            · rw [put_other _ _ _ _ (by omega)]
              exact HF2.out q (by omega) h2
          case measure => simp [intOf]; omega
      · obtain rfl : j = n := by omega
        have dj : decide ((j : Int) < (j : Int)) = false := by simp
        have hcl := Lib.run_clear_slice (P := Tryz.prog) wr 51 3 0 (.int .i64 0) Tryz.underlying51 zero3 rfl rfl g i (j - i) (cap - i) (by omega) (fun q hq => by rw [hr.cell (i + q) (by omega)]; rfl) (fun q hq => hr.frz _)
        have HCW := Lib.hid (Rw.clear (.int .i64 0) (j - i) i wr f hr (by omega))
        have hic : i < cap := by omega
        clear hr hf2 hfr
        go_wp2
        go_ret
        have hxs : xs.take j = xs := List.take_of_length_le (by rw [HL.out]; exact Nat.le_refl _)
        have h1 := HII.out
        have h2 := HF1.out
        rw [hxs] at h1 h2
        refine ⟨_, rfl, ?_, (HFR.out.trans HCW.out.2 (fun _ _ e => e)).mono (fun k _ e => by rw [e]; rfl)⟩
        rw [h1]
        refine row_own HCW.out.1 hBg hcm h1 (by omega) (fun q hq => ?_)
        rw [if_neg (by omega)]
        exact h2 q hq
  · have HI := Lib.hid (idx1_c w g n cap xs hn hcell (-1) (.inr ⟨rfl, fun j hj => hall j (by omega)⟩))
    have HO := Lib.hid hown
    have HF := Lib.hid (filt_all xs hall)
    have HL := Lib.hid hl
    clear hcell hcell0 hall hown hl
    go_enter Tryz.func178, Tryz.ntmps178
    go_wp2_with (go_at_call 184; refine HI.out.mono ?_; rintro e w' ⟨rfl, rfl⟩)
    go_ret
    exact ⟨_, rfl, by rw [HF.out, HL.out]; exact HO.out, Frame.refl _ _⟩
theorem compact_own (w : World) (B n : Nat) (v : Value) (xs : List Int) (hown : w.ownsRow B 3 1 v n (xs.map (Value.int .i64))) (hn0 : 0 < n) (hn : n ≤ 100000) (hle : (Lib.compact xs).length ≤ n) :
    Calls Tryz.prog 179 #[v] w fun e w' => ∃ v', e = .returned v' ∧ w'.ownsRow B 3 1 v' (Lib.compact xs).length ((Lib.compact xs).map (Value.int .i64)) ∧ Frame w w' (fun k => v.ownBlock = some k) ∧ v'.ownBlock = v.ownBlock := by
  have hl : xs.length = n := by have := hown.1; simpa using this
  subst hl
  rcases hown.2 with ⟨rfl, h0⟩ | ⟨g, cap, cur, rfl, hB, hgb, r1, r2, r3, r4⟩
  · omega
  · have hH : Holds encZ w g 0 xs.toArray := holds_of_block_i hgb (by simpa using r4)
    refine (Tryz.slices_Compact_int g 0 cap xs w hH (by omega) r1).mono ?_
    rintro e w' ⟨rfl, q, rfl⟩
    have hts : (Lib.compact xs ++ List.replicate (xs.length - (Lib.compact xs).length) 0).length = xs.length := by simp; omega
    have ho := ownsRow_sorted_i (n := q) (os := #[]) (ts := Lib.compact xs ++ List.replicate (xs.length - (Lib.compact xs).length) 0) hts hB hgb r1 r2 r3
    rw [grow_empty] at ho
    have hg := grownBy_sorted_i (w := w) (g := g) (n := q) (os := #[]) (Lib.compact xs ++ List.replicate (xs.length - (Lib.compact xs).length) 0).toArray
    rw [grow_empty] at hg
    refine ⟨_, rfl, ?_, Frame.of_grown hg (fun k _ e => e), rfl⟩
    have hc := owns_cut ho (m := (Lib.compact xs).length) hle
    have he : (Lib.compact xs ++ List.replicate (xs.length - (Lib.compact xs).length) 0).take (Lib.compact xs).length = Lib.compact xs := by
      rw [List.take_append_of_le_length (Nat.le_refl _), List.take_of_length_le (Nat.le_refl _)]
    rw [← List.map_take, he] at hc
    exact hc
end Go.Proofs.YtibgbahaldojiaaGreat.Fns
