/- Merging rows of roots. -/
import Derived.Test.YtibgbahaldojiaaGreatDel
import Derived.Lib.RowBridge
namespace Go.Proofs.YtibgbahaldojiaaGreat.Fns
open Go Go.RowKit Go.Sort
def le64 : Int → Int → Bool := fun x y => decide (x ≤ y)
theorem sort_len (xs : List Int) : (xs.mergeSort le64).length = xs.length := by simp
theorem compact_pos (xs : List Int) (h : 0 < xs.length) : 0 < (Lib.compact xs).length := by
  unfold Lib.compact
  obtain ⟨n, hn⟩ : ∃ n, xs.length = n + 1 := ⟨xs.length - 1, by omega⟩
  rw [hn]
  have key : ∀ m, 0 < (Lib.compactUpTo xs.toArray (m + 1)).length := by
    intro m
    induction m with
    | zero => rw [Lib.compactUpTo_succ, if_pos (Lib.keeps_lt_one _ _ (by omega))]; simp
    | succ m ih => rw [Lib.compactUpTo_succ, List.length_append]; omega
  exact key n
theorem merge_c (w : World) (s m c : Nat) (Ls : List (List Int)) (As : Nat → Option Addr) (cs : Nat → Nat) (hm : Ls.length = m) (hm8 : m ≤ 8) (h0 : 0 < Ls.flatten.length) (hl : Ls.flatten.length ≤ 10000)
    (hc : ∀ j, j < m → w.cell? ⟨s, j, none⟩ = some (.slice (As j) (Ls.getD j []).length (cs j)) ∧ Ints w w.heap.size (As j) (Ls.getD j []).length (Ls.getD j [])) (R : List Int) (hR : (Lib.compact (Ls.flatten.mergeSort le64)).filter pos = R) :
    Calls Tryz.prog 141 #[.slice (some ⟨s, 0, none⟩) m c] w fun e w' => ∃ v, e = .returned v ∧ w'.ownsRow w.heap.size 3 1 v R.length (R.map (Value.int .i64)) ∧ Below w.heap.size w w' := by
  have HC := Lib.hid (concat_c w s m c Ls As cs hm hm8 h0 hl hc)
  obtain ⟨n, hn⟩ : ∃ n, n = Ls.flatten.length := ⟨_, rfl⟩
  have hsl := sort_len Ls.flatten
  obtain ⟨S, hS⟩ : ∃ S, S = Ls.flatten.mergeSort le64 := ⟨_, rfl⟩
  rw [← hS] at hR hsl
  have hcl := Lib.compact_length_le S
  have hcp := compact_pos S (by omega)
  obtain ⟨p, hp⟩ : ∃ p, p = (Lib.compact S).length := ⟨_, rfl⟩
  have HS := Lib.hid hS
  have HP := Lib.hid hp
  have HN := Lib.hid hn
  have HR := Lib.hid hR
  have HSL := Lib.hid hsl
  rw [← hn] at HC h0 hl hsl
  rw [← hp] at hcl hcp
  have hpn : p ≤ n := by omega
  clear hc hm hS hR hsl hcl hn hp
  go_enter Tryz.func141, Tryz.ntmps141
  go_wp2_with (first
    | (go_at_call 177; refine HC.out.mono ?_; rintro e w1 ⟨v, rfl, ho, hb⟩; obtain ⟨A, cc, rfl⟩ := own_form ho; have HO := Lib.hid ho; have HB := Lib.hid hb; clear ho hb)
    | (go_at_call 112; refine (sort_own _ _ n _ _ HO.out (by omega)).mono ?_; rintro e w2 ⟨rfl, ho, hg⟩; have HO2 := Lib.hid (show w2.ownsRow w.heap.size 3 1 (.slice A n cc) n (S.map (Value.int .i64)) by rw [HS.out]; exact ho); have HB2 := Lib.hid (HB.out.grown hg HB.out.size (fun k hk => (HO.out.lt k hk).1)); clear ho hg)
    | (go_at_call 179; refine (compact_own _ _ n _ S HO2.out (by omega) (by omega) (by rw [← HP.out]; exact hpn)).mono ?_; rintro e w3 ⟨v3, rfl, ho, hf, hv⟩; rw [← HP.out] at ho; obtain ⟨A3, c3, rfl⟩ := own_form ho; have HO3 := Lib.hid ho; have HB3 := Lib.hid (HB2.out.trans (hf.below HB2.out.size (fun k _ hk => (HO2.out.lt k hk).1))); clear ho hf hv)
    | (go_at_call 178; refine (delFunc_c _ _ p _ _ HO3.out hcp (by omega)).mono ?_; rintro e w4 ⟨v4, rfl, ho, hf⟩; obtain ⟨A4, c4, rfl⟩ := own_form ho; have HO4 := Lib.hid ho; have HB4 := Lib.hid (HB3.out.trans (hf.below HB3.out.size (fun k _ hk => (HO3.out.lt k hk).1))); clear ho hf))
  go_ret
  have h := HO4.out
  rw [HR.out] at h
  exact ⟨_, rfl, by rw [HR.out]; exact h, HB4.out⟩
theorem zeros_up : (List.replicate 16 (0 : Int)).Pairwise (· ≤ ·) := by decide
theorem sort_zeros : (List.replicate 16 (0 : Int)).mergeSort le64 = List.replicate 16 0 := sort_up _ zeros_up
theorem merge_none : (Lib.compact (([[], List.replicate 16 0, [], []] : List (List Int)).flatten.mergeSort le64)).filter pos = [] := by
  rw [show ([[], List.replicate 16 0, [], []] : List (List Int)).flatten = List.replicate 16 0 by rfl, sort_zeros]
  decide
theorem sort_one (a : Int) (ha : 1 ≤ a) : ([a] ++ List.replicate 16 (0 : Int)).mergeSort le64 = List.replicate 16 0 ++ [a] := by
  have h1 : (List.replicate 16 (0 : Int) ++ [a]).Pairwise (· ≤ ·) := by
    rw [List.pairwise_append]
    exact ⟨zeros_up, by simp, fun x hx y hy => by simp at hx hy; omega⟩
  have h2 : ([a] ++ List.replicate 16 (0 : Int)).Perm (List.replicate 16 0 ++ [a]) := List.perm_append_comm
  have h3 : (([a] ++ List.replicate 16 (0 : Int)).mergeSort le64).Perm (List.replicate 16 0 ++ [a]) := (List.mergeSort_perm _ _).trans h2
  have h4 : (([a] ++ List.replicate 16 (0 : Int)).mergeSort le64).Pairwise (· ≤ ·) := by
    have := List.pairwise_mergeSort (le := le64) (fun a b c h1 h2 => by simp [le64] at *; omega) (fun a b => by simp [le64]; omega) ([a] ++ List.replicate 16 (0 : Int))
    exact this.imp (fun h => by simpa [le64] using h)
  exact h3.eq_of_pairwise (fun a b _ _ h1 h2 => by omega) h4 h1
theorem merge_one (k : Nat) (hk : k < 32) : (Lib.compact (([[64 + (k : Int) * 2], List.replicate 16 0, [], []] : List (List Int)).flatten.mergeSort le64)).filter pos = [64 + (k : Int) * 2] := by
  rw [show ([[64 + (k : Int) * 2], List.replicate 16 0, [], []] : List (List Int)).flatten = [64 + (k : Int) * 2] ++ List.replicate 16 0 by rfl, sort_one _ (by omega)]
  have key : ∀ k : Fin 32, (Lib.compact (List.replicate 16 (0 : Int) ++ [64 + ((k : Nat) : Int) * 2])).filter pos = [64 + ((k : Nat) : Int) * 2] := by decide
  exact key ⟨k, hk⟩
end Go.Proofs.YtibgbahaldojiaaGreat.Fns
