/- Finalizers: one more waits; they are to run; one is taken. -/
import Derived.Test.YtibgbahaldojiaaGreatFin
namespace Go.Proofs.YtibgbahaldojiaaGreat.Fns
open Go Go.RowKit Go.Sort
/-- Where a number stands in a slice of the call's own. -/
theorem index_own (w : World) (B n : Nat) (v : Value) (xs : List Int) (hown : w.ownsRow B 3 1 v n (xs.map (Value.int .i64))) (hn : n ≤ 1000000) (x : Int) :
    Calls Tryz.prog 126 #[v, .int .i64 x] w fun e w' => e = .returned (.int .i64 (Lib.idxOf xs x)) ∧ w = w' := by
  have hl : xs.length = n := by have := hown.1; simpa using this
  subst hl
  obtain ⟨A, c, rfl⟩ := own_form hown
  rcases Nat.eq_zero_or_pos xs.length with h0 | h0
  · obtain rfl : xs = [] := List.eq_nil_of_length_eq_zero h0
    refine (Tryz.slices_Index_int_empty A c x w).mono ?_
    rintro e w' ⟨rfl, rfl⟩
    exact ⟨rfl, rfl⟩
  · obtain ⟨s, c', hv, _⟩ := own_cell hown h0
    injection hv with hv _ hc
    subst hv hc
    refine (Tryz.slices_Index_int s 0 xs.length c xs x w (Nat.le_refl _) (by omega) (fun j hj => ?_)).mono ?_
    · obtain ⟨s', c', hv, h⟩ := own_cell hown hj
      injection hv with hv _ _
      injection hv with hv
      injection hv with hv _ _
      subst hv
      rw [Nat.zero_add]
      exact h
    · rintro e w' ⟨rfl, rfl⟩
      exact ⟨by rw [List.take_of_length_le (Nat.le_refl _)], rfl⟩
theorem idxOf_lt (xs : List Int) (x : Int) : Lib.idxOf xs x < xs.length ∧ -1 ≤ Lib.idxOf xs x := by
  have key : ∀ (l : List Int) (i : Nat), (Lib.idxFrom l x i < (i + l.length : Nat) ∧ -1 ≤ Lib.idxFrom l x i) := by
    intro l
    induction l with
    | nil => intro i; simp [Lib.idxFrom]; omega
    | cons z l ih =>
      intro i
      unfold Lib.idxFrom
      split
      · exact ⟨by simp; omega, by omega⟩
      · have := ih (i + 1)
        simp only [List.length_cons]
        omega
  have := key xs 0
  simpa [Lib.idxOf] using this
/-- Those that wait, and those whose is to run, behind one that is asked for. -/
def pend1 (s : List Int × List Int) (x : Int) : List Int × List Int :=
  if 0 ≤ Lib.idxOf s.1 x then (s.1.take (Lib.idxOf s.1 x).toNat ++ s.1.drop ((Lib.idxOf s.1 x).toNat + 1), s.2 ++ [x]) else s
def pendL (W P ys : List Int) : List Int × List Int := ys.foldl pend1 (W, P)
theorem pendL_take (W P ys : List Int) (j : Nat) (h : j < ys.length) : pendL W P (ys.take (j + 1)) = pend1 (pendL W P (ys.take j)) (ys.getD j 0) := by
  unfold pendL
  rw [List.take_add_one, List.foldl_append]
  simp [List.getD_eq_getElem?_getD, List.getElem?_eq_getElem h]
theorem pend1_len (s : List Int × List Int) (x : Int) : (pend1 s x).1.length ≤ s.1.length ∧ (pend1 s x).2.length ≤ s.2.length + 1 := by
  unfold pend1
  split
  · simp; omega
  · exact ⟨Nat.le_refl _, Nat.le_succ _⟩
theorem pendL_len (W P ys : List Int) : (pendL W P ys).1.length ≤ W.length ∧ (pendL W P ys).2.length ≤ P.length + ys.length := by
  unfold pendL
  induction ys generalizing W P with
  | nil => exact ⟨Nat.le_refl _, Nat.le_refl _⟩
  | cons y ys ih =>
    have h1 := pend1_len (W, P) y
    have h2 := ih (pend1 (W, P) y).1 (pend1 (W, P) y).2
    simp only [List.foldl_cons, List.length_cons]
    generalize pend1 (W, P) y = s at *
    obtain ⟨s1, s2⟩ := s
    simp only at *
    omega
section
variable (w : World) {B : HpB} {n m fi : Nat} {f : Nat → Int} {vw vp : Value} {W P : List Int} (F : Fi w fi B.h vw vp W P)
include F
section
variable (h : Hp w B n m f) (hap : ∀ k, HFoot B m k → ¬ FiFoot fi vw vp k) (hm : m ≤ 32) (hn : 2 ≤ n) (i a : Nat) (hi : i < m) (ha : a = 64 + i * 2) (k : Int) (fin : Bool) (hk : k = 2 ∨ k = 3) (hf : f a = hw k 1 fin)
include h hap hm hn hi ha hk hf
omit hap in
theorem await_have (hfin : fin = true) : Calls Tryz.prog 68 #[.pointer (some ⟨fi, 0, none⟩), .int .i64 (a : Int)] w fun e w' => e = .returned (.int .i64 4) ∧ Below w.heap.size w w' := by
  have HC := Lib.hid (final_have w h hm hn i a hi ha k fin hk hf hfin)
  have c0 := F.c0
  clear F h ha hf hfin hk
  go_enter Tryz.func68, Tryz.ntmps68
  go_wp2_with (go_at_call 107; refine HC.out.mono ?_; rintro e w1 ⟨rfl, hb⟩; have HB := Lib.hid hb; clear hb)
  go_ret
  exact ⟨rfl, HB.out⟩
set_option maxHeartbeats 1000000 in
theorem await_ok (hfin : fin = false) (hl : W.length ≤ 1000000) : Calls Tryz.prog 68 #[.pointer (some ⟨fi, 0, none⟩), .int .i64 (a : Int)] w fun e w' => e = .returned (.int .i64 0) ∧ ∃ w1, Hp w1 B n m (put f a (hw k 1 true)) ∧ Frame w w1 (SFoot B.sp B.g m) ∧ FiOut fi B.h vw vp (W ++ [(a : Int)]) P w1 w' := by
  obtain ⟨i0, hi0, hz0, hz1, hz2⟩ := info_parts info3
  have INFO := Lib.hid (And.intro hi0 (And.intro hz0 (And.intro hz1 hz2)))
  clear hi0 hz0 hz1 hz2
  have HC := Lib.hid (final_ok w h hm hn i a hi ha k fin hk hf hfin)
  have c0 := F.c0
  have HF := Lib.hid F
  have HAP := Lib.hid (fun k hk => hap k (.inr (.inr hk)))
  obtain ⟨A, c, hv⟩ := own_form F.ow
  subst hv
  clear F h ha hf hfin hk hap
  go_enter Tryz.func68, Tryz.ntmps68
  go_wp2_with (first
    | (go_at_call 107; refine HC.out.mono ?_; rintro e w1 ⟨rfl, h1, f1⟩; have H1 := Lib.hid h1; have F1 := Lib.hid f1; have G1 := Lib.hid (HF.out.frame f1 (fun k hk e => HAP.out k e hk)); have c1 := G1.out.c1; have q1 := G1.out.fr 1; have hlt := lt_of_block G1.out.box; clear h1 f1)
    | (at_builtin; refine wpList_push _ rfl (.tmp 21) (.tmp 23) 51 rfl 0 3 i0 Tryz.underlying51 INFO.out.1 INFO.out.2.1 INFO.out.2.2.1 INFO.out.2.2.2 (.slice A W.length c) W.length _ (by simp [Act.eval]) (G1.out.ow.alloc _) (w1.heap.size + 1) (some ⟨w1.heap.size, 0, none⟩) 1 1 _ rfl (ints_one w1 _) (by omega) (by simp) ?_; intro v2 w3 ho hg hat; obtain ⟨A2, c2, rfl⟩ := own_form ho; have HO := Lib.hid ho; have HG := Lib.hid hg; have HAT := Lib.hid hat; have hz := hg.size; have hfr := Frame.of_grown hg (F := fun k => (Value.slice A W.length c).ownBlock = some k) (fun k _ e => e); have hbx := hfr.heap (G1.out.below (w' := w1.alloc (.cells #[.int .i64 (a : Int)] 3)) ((Below.refl _ _).alloc (Nat.le_refl _) _)).box G1.out.wne; have q3 := frozen_of_row _ _ 1 _ _ hbx; have c3 := cell_of_row _ _ 1 _ _ _ hbx; clear ho hg hat hfr hbx))
  go_ret
  exact ⟨rfl, w1, H1.out, F1.out, G1.out.pushW HO.out HG.out HAT.out⟩
end
set_option maxRecDepth 100000 in
set_option maxHeartbeats 2000000 in
theorem pend_c (A : Option Addr) (q c : Nat) (ys : List Int) (hy : Ints w w.heap.size A q ys) (hA : ∀ ad, A = some ad → ¬ FiFoot fi vw vp ad.block) (hW : W.length ≤ 100000) (hP : P.length ≤ 100000) (hq : q ≤ 100000) :
    Calls Tryz.prog 115 #[.pointer (some ⟨fi, 0, none⟩), .slice A q c] w fun e w' => e = .returned (.tuple #[]) ∧ FiOut fi B.h vw vp (pendL W P ys).1 (pendL W P ys).2 w w' := by
  obtain ⟨i0, hi0, hz0, hz1, hz2⟩ := info_parts info3
  have INFO := Lib.hid (And.intro hi0 (And.intro hz0 (And.intro hz1 hz2)))
  clear hi0 hz0 hz1 hz2
  have HF := Lib.hid F
  have HY := Lib.hid hy
  have HA := Lib.hid hA
  have HL := Lib.hid (And.intro hW (And.intro hP hq))
  clear F hy hA hW hP hq
  go_enter Tryz.func115, Tryz.ntmps115
  go_wp2
  go_loopw [5, 6, 11] (fun _ _ iv wr => ∃ j : Nat, j ≤ q ∧ iv = .int .i64 (j : Int) ∧ FiOut fi B.h vw vp (pendL W P (ys.take j)).1 (pendL W P (ys.take j)).2 w wr) (fun _ _ iv _ => q - (intOf iv).toNat)
  case atStart => exact ⟨0, Nat.zero_le _, rfl, vw, vp, HF.out, Frame.refl _ _, fun _ hk _ => hk⟩
  case round =>
    obtain ⟨j, hj, rfl, ho⟩ := hrel
    have HO := Lib.hid ho
    by_cases hlt : j < q
    · have hyl := HY.out.1
      have hT := pendL_take W P ys j (by omega)
      have hlen := pendL_len W P (ys.take j)
      have hll := HL.out
      rw [List.length_take] at hlen
      obtain ⟨⟨Wj, Pj⟩, hWP⟩ : ∃ s, pendL W P (ys.take j) = s := ⟨_, rfl⟩
      rw [hWP] at ho hT hlen
      obtain ⟨v1, p1, G1, f1, g1⟩ := ho
      obtain ⟨ad, rfl, had, hc⟩ := HY.out.2 (by omega)
      have hcj := f1.cell (hc j hlt) (by rw [block_of_add]; exact HA.out ad rfl)
      generalize hx : ys.getD j 0 = x at hcj hT
      simp only at hlen
      have hWl : Wj.length ≤ 100000 := by omega
      have hPl : Pj.length ≤ 200000 := by omega
      have HF1 := Lib.hid (show FiTo fi B.h vw vp v1 p1 Wj Pj w wr from ⟨G1, f1, g1⟩)
      have HG := Lib.hid (show Fi wr fi B.h v1 p1 Wj Pj from G1)
      have HI := Lib.hid (index_own wr 0 Wj.length _ Wj G1.ow (by omega) x)
      have c1 := G1.c1
      obtain ⟨A1, cc1, hv1⟩ := own_form (show wr.ownsRow 0 3 1 v1 Wj.length _ from G1.ow)
      obtain ⟨A2, cc2, hp1⟩ := own_form (show wr.ownsRow 0 3 1 p1 Pj.length _ from G1.op)
      subst hv1 hp1
      have hix := idxOf_lt Wj x
      unfold pend1 at hT
      simp only at hT
      generalize hi : Lib.idxOf Wj x = ix at HI hix hT
      obtain ⟨ix1, ix2⟩ := hix
      have dj : decide ((j : Int) < (q : Int)) = true := by simp; omega
      have dj2 : decide (j < q) = true := by simp; omega
      have gj : (0 : Int) ≤ (j : Int) := by omega
      have gk : (j : Int) < (q : Int) := by omega
      have gl : (j : Int) ≤ 100000 := by omega
      clear hWP f1 g1 G1 hc hlen hx hi hll hyl
      by_cases h0 : 0 ≤ ix
      · rw [if_pos h0] at hT
        obtain ⟨i, rfl⟩ := Int.eq_ofNat_of_zero_le h0
        rw [Int.toNat_natCast] at hT
        obtain ⟨X, hX⟩ : ∃ X, Wj.take i ++ Wj.drop (i + 1) = X := ⟨_, rfl⟩
        rw [hX] at hT
        have HT := Lib.hid hT
        have HD := Lib.hid (delete_own wr 0 _ i _ Wj X hX HG.out.ow (by omega) (by omega))
        have d0 : decide ((0 : Int) ≤ (i : Int)) = true := by simp
        have i1 : (i : Int) ≤ 100000 := by omega
        clear hT hX h0 ix2
        go_wp2_with (first
          | (go_at_call 126; refine HI.out.mono ?_; rintro e w' ⟨rfl, rfl⟩)
          | (go_at_call 109; refine HD.out.mono ?_; rintro e w2 ⟨g, cc, hv, rfl, ho2, f2⟩; have HV := Lib.hid hv; have HO2 := Lib.hid ho2; have HF2 := Lib.hid f2; have hbx := f2.heap HG.out.box (fun e => HG.out.wne (by rw [e, hv]; rfl)); have q1 := frozen_of_row _ _ 1 _ _ hbx; have e1 := cell_of_row _ _ 1 _ _ _ hbx; have e2 := cell_of_row _ _ 2 _ _ _ hbx; have HT2 := Lib.hid (HG.out.cutW hv ho2 f2); clear hv ho2 f2 hbx)
          | (at_builtin; refine wpList_push _ rfl (.tmp 38) (.tmp 40) 51 rfl 0 3 i0 Tryz.underlying51 INFO.out.1 INFO.out.2.1 INFO.out.2.2.1 INFO.out.2.2.2 (.slice A2 Pj.length cc2) Pj.length _ (by simp [Act.eval]) (HT2.out.1.op.alloc _) _ (some ⟨w2.heap.size, 0, none⟩) 1 1 [x] rfl (by have := ints_one (w2.setCell ⟨fi, 1, none⟩ (.slice (some ⟨g, 0, none⟩) X.length cc)) x; simpa using this) (by omega) (by simp) ?_; intro v2 w3 ho hg hat; obtain ⟨A3, cc3, rfl⟩ := own_form ho; have HO3 := Lib.hid ho; have HG3 := Lib.hid hg; have HAT := Lib.hid hat; have hfr := Frame.of_grown hg (F := fun k => (Value.slice A2 Pj.length cc2).ownBlock = some k) (fun k _ e => e); have hbx := hfr.heap (HT2.out.1.below (w' := (w2.setCell ⟨fi, 1, none⟩ (.slice (some ⟨g, 0, none⟩) X.length cc)).alloc (.cells #[.int .i64 x] 3)) ((Below.refl _ _).alloc (Nat.le_refl _) _)).box HT2.out.1.pne; have q3 := frozen_of_row _ _ 2 _ _ hbx; have e3 := cell_of_row _ _ 2 _ _ _ hbx; clear ho hg hat hfr hbx))
        have hfin := HF1.out.trans (HT2.out.trans (HT2.out.1.pushP HO3.out HG3.out HAT.out))
        go_roundw
        case rel => exact ⟨j + 1, by omega, by go_num, by rw [HT.out]; exact hfin⟩
        case measure => simp [intOf]; omega
      · rw [if_neg h0] at hT
        have HT := Lib.hid hT
        have d0 : decide (0 ≤ ix) = false := by simp; omega
        clear hT ix1 ix2
        go_wp2_with (go_at_call 126; refine HI.out.mono ?_; rintro e w' ⟨rfl, rfl⟩)
        go_roundw
        case rel => exact ⟨j + 1, by omega, by go_num, by rw [HT.out]; exact ⟨_, _, HF1.out⟩⟩
        case measure => simp [intOf]; omega
    · obtain rfl : j = q := by omega
      have dj : decide ((j : Int) < (j : Int)) = false := by simp
      clear ho
      go_wp2
      go_end0
      have h := HO.out
      rw [List.take_of_length_le (by rw [HY.out.1]; exact Nat.le_refl _)] at h
      exact ⟨rfl, h⟩
set_option maxHeartbeats 1000000 in
theorem take_c (i : Nat) (hi : i < P.length) (hP : P.length ≤ 100000) (z : Int) (hz : P.getD i 0 = z) :
    Calls Tryz.prog 70 #[.pointer (some ⟨fi, 0, none⟩), .int .i64 (i : Int)] w fun e w' => e = .returned (.tuple #[.int .i64 z, .int .i64 0]) ∧ FiOut fi B.h vw vp W (P.take i ++ P.drop (i + 1)) w w' := by
  obtain ⟨X, hX⟩ : ∃ X, P.take i ++ P.drop (i + 1) = X := ⟨_, rfl⟩
  rw [hX]
  obtain ⟨g, cc, hv, hcell⟩ := own_cell F.op hi
  rw [hz] at hcell
  have HD := Lib.hid (delete_own w 0 _ i _ P X hX F.op (by omega) hi)
  have HF := Lib.hid F
  have c2 := F.c2
  subst hv
  have d0 : decide ((i : Int) < 0) = false := by simp
  have d1 : decide ((P.length : Int) ≤ (i : Int)) = false := by simp; omega
  have d2 : decide (P.length ≤ i) = false := by simp; omega
  have g1 : (0 : Int) ≤ (i : Int) := by omega
  have g2 : (i : Int) < (P.length : Int) := by omega
  clear F hX hz
  go_enter Tryz.func70, Tryz.ntmps70
  go_wp2_with (go_at_call 109; refine HD.out.mono ?_; rintro e w2 ⟨g', cc', hv, rfl, ho2, f2⟩; have hbx := f2.heap HF.out.box (fun e => HF.out.pne (by rw [e, hv]; rfl)); have q1 := frozen_of_row _ _ 2 _ _ hbx; have e2 := cell_of_row _ _ 2 _ _ _ hbx; have HT2 := Lib.hid (HF.out.cutP hv ho2 f2); clear hv ho2 f2 hbx)
  refine bodyPost_ret (v := .tuple #[.int .i64 z, .int .i64 0]) (by simp [results, Tryz.results70, go_sem]) rfl ⟨rfl, _, _, HT2.out⟩
end
end Go.Proofs.YtibgbahaldojiaaGreat.Fns
