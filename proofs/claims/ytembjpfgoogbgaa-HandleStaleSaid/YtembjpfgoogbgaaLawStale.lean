/- HandleStale: the walk. -/
import Derived.Test.YtembjpfgoogbgaaSt
namespace Go.Proofs.Ytembjpfgoogbgaa.Fns
open Go Go.RowKit

/-- What the first j slots hold at first; what is told then. -/
def As (j : Nat) : Nat → Int := fun i => if i < j then 100 + (i : Int) else 0
def Ls (j : Nat) : List Int := (List.range j).map fun (i : Nat) => (i : Int) + 512
theorem As_lt {i j : Nat} (h : i < j) : As j i = 100 + (i : Int) := by simp [As, h]
theorem As_ge {i j : Nat} (h : j ≤ i) : As j i = 0 := by simp [As]; omega
theorem As_put (j : Nat) : put (As j) j (100 + (j : Int)) = As (j + 1) := by
  funext i
  by_cases h : i = j
  · subst h; rw [put_same, As_lt (by omega)]
  · rw [put_other _ _ _ _ h]
    by_cases h2 : i < j
    · rw [As_lt h2, As_lt (by omega)]
    · rw [As_ge (by omega), As_ge (by omega)]
theorem Ls_len (j : Nat) : (Ls j).length = j := by simp [Ls]
theorem Ls_at {i j : Nat} (h : i < j) : (Ls j)[i]? = some ((i : Int) + 512) := by simp [Ls, h]
theorem Ls_succ (j : Nat) : Ls j ++ [(j : Int) + 512] = Ls (j + 1) := by simp [Ls, List.range_succ]
/-- Behind r rounds of giving up and holding anew in slot s. -/
def Tr (s r : Nat) : Nat → Int := put (fun _ => 0) s (r : Int)
def Ar (k s r : Nat) : Nat → Int := put (As k) s (if r = 0 then 100 + (s : Int) else 899 + (r : Int))
def Lr (k s r : Nat) : List Int := (Ls k).set s ((s : Int) + 512 * ((r : Int) + 1))
theorem Tr_zero (s : Nat) : Tr s 0 = fun _ => 0 := by funext i; simp [Tr, put]
theorem Tr_succ (s r : Nat) : put (Tr s r) s (Tr s r s + 1) = Tr s (r + 1) := by
  funext i
  by_cases h : i = s
  · subst h; simp [Tr, put]
  · simp [Tr, put, h]
theorem Tr_at (s r : Nat) : Tr s r s = r := by simp [Tr, put]
theorem Tr_other {s r i : Nat} (h : i ≠ s) : Tr s r i = 0 := by simp [Tr, put, h]
theorem Ar_zero {k s : Nat} (h : s < k) : Ar k s 0 = As k := by
  funext i
  by_cases hi : i = s
  · subst hi; simp [Ar, put, As_lt h]
  · simp [Ar, put, hi]
theorem Ar_succ (k s r : Nat) : put (put (Ar k s r) s 0) s (900 + (r : Int)) = Ar k s (r + 1) := by
  funext i
  by_cases h : i = s
  · subst h; simp [Ar, put]; omega
  · simp [Ar, put, h]
theorem Lr_zero {k s : Nat} (h : s < k) : Lr k s 0 = Ls k := by
  unfold Lr
  apply List.ext_getElem?
  intro i
  by_cases hi : i = s
  · subst hi
    rw [List.getElem?_set_self (by rw [Ls_len]; exact h), Ls_at h]
    congr 1
  · rw [List.getElem?_set_ne (fun e => hi e.symm)]
theorem Lr_succ (k s r : Nat) : (Lr k s r).set s ((s : Int) + 512 * ((r : Int) + 1 + 1)) = Lr k s (r + 1) := by
  unfold Lr
  rw [List.set_set]
  congr 1
theorem Lr_len (k s r : Nat) : (Lr k s r).length = k := by simp [Lr, Ls_len]
theorem Lr_at {k s r : Nat} (h : s < k) : (Lr k s r)[s]? = some (tell (Tr s r) s) := by
  unfold Lr
  rw [List.getElem?_set_self (by rw [Ls_len]; exact h)]
  simp [tell, Tr_at]
theorem Lr_any {k s r i : Nat} (h : i < k) (hs : s < k) : (Lr k s r)[i]? = some (tell (Tr s r) i) := by
  by_cases e : i = s
  · subst e; exact Lr_at h
  · unfold Lr
    rw [List.getElem?_set_ne (fun e2 => e e2.symm), Ls_at h]
    simp [tell, Tr_other e]
theorem Ar_ne {k s r i : Nat} (h : i < k) (hs : s < k) : Ar k s r i ≠ 0 := by
  unfold Ar
  by_cases e : i = s
  · subst e; rw [put_same]; split <;> omega
  · rw [put_other _ _ _ _ e, As_lt h]; omega
theorem Ar_ge {k s r i : Nat} (h : k ≤ i) (hs : s < k) : Ar k s r i = 0 := by
  unfold Ar
  rw [put_other _ _ _ _ (by omega), As_ge h]
theorem Tr_nonneg (s r i : Nat) : 0 ≤ Tr s r i := by
  unfold Tr put
  split
  · omega
  · exact Int.le_refl _
theorem Tr_le (s r i : Nat) : Tr s r i ≤ (r : Int) := by
  unfold Tr put
  split
  · exact Int.le_refl _
  · exact Int.natCast_nonneg r
theorem St.formN {w wr : World} {g : Nat} {T A : Nat → Int} {v : Value} {xs : List Int} (h : St w wr g T A v xs) (n : Nat) (hn : xs.length = n) : ∃ B c, v = .slice B n c := by subst hn; exact h.form

theorem Tr_tell (s r : Nat) : tell (Tr s r) s = (s : Int) + 512 * ((r : Int) + 1) := by simp [tell, Tr_at]
theorem Tr_old (k s r : Nat) (hs : s < 512) : fnd (Tr s (r + 1)) (Ar k s (r + 1)) ((s : Int) + 512) = false := by
  have e : (((s : Int) + 512) % 512).toNat = s := by omega
  have e2 : ¬ (tell (Tr s (r + 1)) s = (s : Int) + 512) := by rw [Tr_tell]; omega
  unfold fnd
  rw [e]
  simp [e2]
set_option maxRecDepth 100000 in
set_option maxHeartbeats 20000000 in
theorem stale_law (n m a : Int) (w : World) (hn : (Lit.int .u8 n).wf = true) (hm : (Lit.int .u8 m).wf = true) (ha : (Lit.int .u8 a).wf = true) :
    Calls Try.prog 4 #[.int .u8 n, .int .u8 m, .int .u8 a] w fun e w' => e = .returned (.bool true) ∧ Below w.heap.size w w' := by
  obtain ⟨n0, n1⟩ := bounds_u8 hn
  obtain ⟨m0, m1⟩ := bounds_u8 hm
  obtain ⟨a0, a1⟩ := bounds_u8 ha
  clear hn hm ha
  obtain ⟨i0, hi0, hz0, hz1, hz2⟩ := info_parts info3
  have INFO := Lib.hid (And.intro hi0 (And.intro hz0 (And.intro hz1 hz2)))
  clear hi0 hz0 hz1 hz2
  obtain ⟨k, hk⟩ : ∃ k : Nat, 1 + n % 40 = (k : Int) := ⟨(1 + n % 40).toNat, by omega⟩
  have hk1 : 1 ≤ k := by omega
  have hk40 : k ≤ 40 := by omega
  go_enter Try.func4, Try.ntmps4
  go_wp2_with (first
    | (go_at_call 8; refine (new_h _).mono ?_; rintro e w1 ⟨rfl, hh, hb⟩; have HS := Lib.hid (St.start hh hb); clear hh hb))
  go_loopw [9, 10, 11, 12, 13] (fun lv i xv ev qv wr => ∃ (j : Nat), j ≤ k ∧ i = .int .i64 (j : Int) ∧ St w wr w.heap.size (fun _ => 0) (As j) lv (Ls j)) (fun _ i _ _ _ _ => k - (intOf i).toNat)
  case atStart => exact ⟨0, by omega, rfl, by have : As 0 = fun _ => 0 := by funext i; simp [As]
                                              rw [this]; exact HS.out⟩
  case round =>
    obtain ⟨j, hj, rfl, hs⟩ := hrel
    have HS2 := Lib.hid hs
    obtain ⟨B2, c2, rfl⟩ := hs.formN j (Ls_len j)
    clear hs
    by_cases hlt : j < k
    · have dj : decide ((j : Int) < (k : Int)) = true := by simp; omega
      have dj2 : decide (j < k) = true := by simp; omega
      go_wp2_with (first
        | (go_at_call 12; refine (hold_ok _ HS2.out.so.h (100 + (j : Int)) (by omega) j (by omega) (fun i hi => by rw [As_lt hi]; omega) (As_ge (Nat.le_refl _)) ((j : Int) + 512) (by simp [tell])).mono ?_; rintro e w3 ⟨rfl, hh, hf⟩; rw [As_put] at hh; have HS3 := Lib.hid (HS2.out.step hh hf); clear hh hf)
        | (go_at_call 14; refine (err_c _ _).mono ?_; rintro e w' ⟨rfl, rfl⟩))
      go_loopw [13] (fun qv wr' => ∃ (q : Nat), q ≤ j ∧ qv = .int .i64 (q : Int) ∧ wr' = w3) (fun qv _ => j - (intOf qv).toNat)
      case atStart => exact ⟨0, by omega, rfl, rfl⟩
      case round =>
        obtain ⟨q, hq, rfl, rfl⟩ := hrel
        have HS4 := Lib.hid HS3.out
        by_cases hql : q < j
        · have dq : decide ((q : Int) < (j : Int)) = true := by simp; omega
          have dq2 : decide (q < j) = true := by simp; omega
          obtain ⟨b, rfl⟩ := HS2.out.block (by omega)
          have kc := HS4.out.get q _ (Ls_at hql)
          have e0 : ((q : Int) + 512 == (j : Int) + 512) = false := by simp; omega
          have e1 : ((q : Int) == (j : Int)) = false := by simp; omega
          have e2 : (q == j) = false := by simp; omega
          have g1 : (0 : Int) ≤ (q : Int) := by omega
          have g2 : (q : Int) < (j : Int) := by omega
          go_wp2
          go_roundw
          case rel => exact ⟨q + 1, by omega, by first | go_num | trivial, by first | rfl | trivial⟩
          case measure => simp [intOf]; omega
        · obtain rfl : q = j := by omega
          have dq : decide ((q : Int) < (q : Int)) = false := by simp
          go_wp2_with (at_builtin; refine wpList_push _ rfl (.tmp 58) (.tmp 60) 46 rfl w.heap.size 3 i0 Try.underlying46 INFO.out.1 INFO.out.2.1 INFO.out.2.2.1 INFO.out.2.2.2 (.slice B2 q c2) q ((Ls q).map (Value.int .i64)) (by simp [Act.eval]) (by have h := HS4.out.ow.alloc (.cells #[.int .i64 ((q : Int) + 512)] 3); rw [Ls_len] at h; exact h) (wr.heap.size + 1) (some ⟨wr.heap.size, 0, none⟩) 1 1 _ rfl (ints_one wr _) (by omega) (Nat.le_trans HS4.out.so.old.size (by simp)) ?_; intro v2 w4 ho hg _; have HS5 := Lib.hid (HS4.out.push ho (by rw [Ls_len]) hg); rw [Ls_succ] at HS5; clear ho hg)
          go_roundw
          case rel => exact ⟨q + 1, by omega, by go_num, HS5.out⟩
          case measure => simp [intOf]; omega
    · obtain rfl : j = k := by omega
      have dj : decide ((j : Int) < (j : Int)) = false := by simp
      obtain ⟨s, hs⟩ : ∃ s : Nat, m % (j : Int) = (s : Int) := ⟨(m % (j : Int)).toNat, by have := Int.emod_nonneg m (show (j : Int) ≠ 0 by omega); omega⟩
      have hsj : s < j := by have := Int.emod_lt_of_pos m (show (0 : Int) < (j : Int) by omega); omega
      obtain ⟨b, rfl⟩ := HS2.out.block (by omega)
      have kc := HS2.out.get s _ (Ls_at hsj)
      have g1 : (0 : Int) ≤ (s : Int) := by omega
      have g2 : (s : Int) < (j : Int) := by omega
      have z0 : ((j : Int) == 0) = false := by simp; omega
      obtain ⟨R, hR⟩ : ∃ R : Nat, 1 + a % 20 = (R : Int) := ⟨(1 + a % 20).toNat, by omega⟩
      have hR1 : 1 ≤ R := by omega
      have hR2 : R ≤ 20 := by omega
      go_wp2
      rw [hs]
      go_loopw [16, 17, 18, 19, 20] (fun i xv ev tv fv wr => ∃ (r : Nat), r ≤ R ∧ i = .int .i64 (r : Int) ∧ St w wr w.heap.size (Tr s r) (Ar j s r) (.slice (some ⟨b, 0, none⟩) j c2) (Lr j s r)) (fun i _ _ _ _ _ => R - (intOf i).toNat)
      case atStart => exact ⟨0, by omega, rfl, by rw [Tr_zero, Ar_zero hsj, Lr_zero hsj]; exact HS2.out⟩
      case round =>
        obtain ⟨r, hr, rfl, hst⟩ := hrel
        have HS3 := Lib.hid hst
        clear hst kc
        by_cases hrl : r < R
        · have dr : decide ((r : Int) < (R : Int)) = true := by simp; omega
          have dr2 : decide (r < R) = true := by simp; omega
          have kc := HS3.out.get s _ (Lr_at hsj)
          obtain ⟨X, hX⟩ : ∃ X, X = tell (Tr s r) s := ⟨_, rfl⟩
          obtain ⟨Y, hY⟩ : ∃ Y, Y = tell (Tr s (r + 1)) s := ⟨_, rfl⟩
          have hX2 : X = (s : Int) + 512 * ((r : Int) + 1) := by rw [hX, Tr_tell]
          have hY2 : Y = (s : Int) + 512 * ((r : Int) + 1 + 1) := by rw [hY, Tr_tell]; simp
          rw [← hX] at kc
          have HX := Lib.hid hX
          have HY := Lib.hid hY
          have HY2 := Lib.hid hY2
          have hXs : X % 512 = (s : Int) := by omega
          have HXS := Lib.hid hXs
          have hXm : X ≤ 9223372036854775807 := by omega
          have y0 : (Y == (s : Int) + 512) = false := by simp; omega
          have sm : (s : Int) + 512 ≤ 9223372036854775807 := by omega
          have HAT := Lib.hid (fnd_at (Tr s r) (Ar j s r) s (by omega) (Ar_ne hsj hsj) (Tr_nonneg _ _ _))
          clear hX hY hX2 hY2 hXs
          go_wp2_with (first
            | (go_at_call 15; have _ := HS5; refine (drop_no _ HS5.out.so.h ((s : Int) + 512) sm (Tr_old j s r (by omega))).mono ?_; rintro e w' ⟨rfl, rfl⟩)
            | (go_at_call 15; refine (drop_yes _ HS3.out.so.h X hXm (by rw [HX.out]; exact HAT.out) s HXS.out (by rw [Tr_at]; omega)).mono ?_; rintro e w4 ⟨rfl, hh, hf⟩; rw [Tr_succ] at hh; have HS4 := Lib.hid (HS3.out.step hh hf); clear hh hf)
            | (go_at_call 12; refine (hold_ok _ HS4.out.so.h (900 + (r : Int)) (by omega) s (by omega) (fun i hi => by rw [put_other _ _ _ _ (by omega)]; exact Ar_ne (by omega) hsj) (put_same _ _ _) Y HY.out.symm).mono ?_; rintro e w5 ⟨rfl, hh, hf⟩; rw [Ar_succ] at hh; have HS5 := Lib.hid (HS4.out.step hh hf); have kc5 := HS5.out.get s _ (Lr_at hsj); rw [← HX.out] at kc5; have kf5 := HS5.out.fr s; clear hh hf)
            | (go_at_call 17; refine (held_no _ HS5.out.so.h ((s : Int) + 512) sm (Tr_old j s r (by omega))).mono ?_; rintro e w' ⟨rfl, rfl⟩)
            | (go_at_call 14; refine (err_c _ _).mono ?_; rintro e w' ⟨rfl, rfl⟩))
          have HS6 := Lib.hid (HS5.out.set s Y)
          rw [HY2.out, Lr_succ, ← HY2.out] at HS6
          go_roundw
          case rel => exact ⟨r + 1, by omega, by go_num, HS6.out⟩
          case measure => simp [intOf]; omega
        · obtain rfl : r = R := by omega
          have dr : decide ((r : Int) < (r : Int)) = false := by simp
          go_wp2
          go_loopw [21, 22, 23] (fun i av ev wr' => ∃ (q : Nat), q ≤ j ∧ i = .int .i64 (q : Int) ∧ wr' = wr) (fun i _ _ _ => j - (intOf i).toNat)
          case atStart => exact ⟨0, by omega, rfl, rfl⟩
          case round =>
            obtain ⟨q, hq, rfl, rfl⟩ := hrel
            by_cases hql : q < j
            · have dq : decide ((q : Int) < (j : Int)) = true := by simp; omega
              have dq2 : decide (q < j) = true := by simp; omega
              have kc := HS3.out.get q _ (Lr_any hql hsj)
              obtain ⟨X, hX⟩ : ∃ X, X = tell (Tr s r) q := ⟨_, rfl⟩
              have HX := Lib.hid hX
              have HAT := Lib.hid (fnd_at (Tr s r) (Ar j s r) q (by omega) (Ar_ne hql hsj) (Tr_nonneg _ _ _))
              have HMD := Lib.hid (tell_mod (Tr s r) q (by omega))
              rw [← hX] at kc
              have hXm : X ≤ 9223372036854775807 := by
                rw [hX]; unfold tell; have := Tr_le s r q; omega
              have g3 : (0 : Int) ≤ (q : Int) := by omega
              have g4 : (q : Int) < (j : Int) := by omega
              clear hX
              by_cases hqs : q = s
              · subst hqs
                have t1 : ((q : Int) == (q : Int)) = true := by simp
                have t2 : ((q : Int) != (q : Int)) = false := by simp
                have t3 : decide (899 + (r : Int) < 900) = false := by simp; omega
                go_wp2_with (first
                  | (go_at_call 17; refine (held_yes _ HS3.out.so.h X hXm (by rw [HX.out]; exact HAT.out) (899 + (r : Int)) (by rw [HX.out, HMD.out, Int.toNat_natCast]; unfold Ar; rw [put_same, if_neg (by omega)])).mono ?_; rintro e w' ⟨rfl, rfl⟩)
                  | (go_at_call 14; refine (err_c _ _).mono ?_; rintro e w' ⟨rfl, rfl⟩))
                go_roundw
                case rel => exact ⟨q + 1, by omega, by first | go_num | trivial, by first | rfl | trivial⟩
                case measure => simp [intOf]; omega
              · have t1 : ((q : Int) == (s : Int)) = false := by simp; omega
                have t2 : ((q : Int) != (s : Int)) = true := by simp; omega
                have t4 : (q == s) = false := by simp; omega
                go_wp2_with (first
                  | (go_at_call 17; refine (held_yes _ HS3.out.so.h X hXm (by rw [HX.out]; exact HAT.out) (100 + (q : Int)) (by rw [HX.out, HMD.out, Int.toNat_natCast]; unfold Ar; rw [put_other _ _ _ _ hqs, As_lt hql])).mono ?_; rintro e w' ⟨rfl, rfl⟩)
                  | (go_at_call 14; refine (err_c _ _).mono ?_; rintro e w' ⟨rfl, rfl⟩))
                go_roundw
                case rel => exact ⟨q + 1, by omega, by first | go_num | trivial, by first | rfl | trivial⟩
                case measure => simp [intOf]; omega
            · obtain rfl : q = j := by omega
              have dq : decide ((q : Int) < (q : Int)) = false := by simp
              have HCN := Lib.hid (show (allL (Tr s r) (Ar q s r) 512).length = q by rw [allL_count _ _ q (fun i hi => Ar_ne hi hsj) (fun i hi => Ar_ge hi hsj) 512, if_neg (by omega)])
              go_wp2_with (first
                | (go_at_call 22; refine (all_c _ HS3.out.so.h).mono ?_; rintro e w5 ⟨v, rfl, ho, hb⟩; obtain ⟨A5, c5, rfl⟩ := form33 ho; rw [HCN.out]; have HS5 := Lib.hid (HS3.out.below hb); clear ho hb)
                | (go_at_call 9; refine (awake_c _).mono ?_; rintro e w6 ⟨rfl, hb⟩; have HS6 := Lib.hid (HS5.out.below hb); clear hb))
              go_ret
              exact ⟨rfl, HS6.out.so.old⟩
end Go.Proofs.Ytembjpfgoogbgaa.Fns
