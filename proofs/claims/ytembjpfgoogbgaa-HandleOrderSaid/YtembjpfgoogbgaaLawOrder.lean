/- HandleOrder: the walk. -/
import Derived.Test.YtembjpfgoogbgaaOd
namespace Go.Proofs.Ytembjpfgoogbgaa.Fns
open Go Go.RowKit

theorem Ad_gone {k s : Nat} {F : Nat → Bool} (hs : s < 512) (h : F s = true) : fnd (Td F) (Ad k F) ((s : Int) + 512) = false := by
  have e : (((s : Int) + 512) % 512).toNat = s := by omega
  unfold fnd
  rw [e]
  simp [Ad, h]
theorem Ad_here {k s : Nat} {F : Nat → Bool} (hs : s < k) (hk : k ≤ 512) (h : F s = false) : fnd (Td F) (Ad k F) ((s : Int) + 512) = true := by
  have e : (s : Int) + 512 = tell (Td F) s := by simp [tell, Td, h]
  rw [e]
  exact fnd_at _ _ s (by omega) (by simp [Ad, hs, h]; omega) (by simp [Td, h])
theorem Le_at {k q : Nat} {F : Nat → Bool} (h : q < k) : (Le k F q)[q]? = some ((q : Int) + 512) := by simp [Le, h]
theorem all_form {w8 : World} {B : Nat} {v : Value} {T A : Nat → Int} {L : List (Int × Int)} {j : Nat} (hj : 0 < j) (hA : allL T A 512 = L) (hL : L.length = j) (h : w8.ownsRow B 33 2 v (allL T A 512).length (heldCells (allL T A 512))) :
    ∃ b c, v = .slice (some ⟨b, 0, none⟩) j c ∧ w8.ownsRow B 33 2 (.slice (some ⟨b, 0, none⟩) j c) j (heldCells L) := by
  rw [hA, hL] at h
  rcases h.2 with ⟨h1, h2⟩ | ⟨b, c, _, h1, _⟩
  · omega
  · exact ⟨b, c, h1, h1 ▸ h⟩
theorem held_get {w8 : World} {B b c j q : Nat} {L : List (Int × Int)} {p : Int × Int} (h : w8.ownsRow B 33 2 (.slice (some ⟨b, 0, none⟩) j c) j (heldCells L)) (hq : q < j) (hp : L[q]? = some p) :
    w8.cell? ⟨b, q * 2, none⟩ = some (.int .i64 p.1) ∧ w8.cell? ⟨b, q * 2 + 1, none⟩ = some (.int .i64 p.2) :=
  ⟨(h.cellAt (q * 2) (by omega)).trans (heldCells_at L q p hp).1, (h.cellAt (q * 2 + 1) (by omega)).trans (heldCells_at L q p hp).2⟩
set_option maxRecDepth 100000 in
set_option maxHeartbeats 20000000 in
theorem order_law (x : Int) (D : Option Addr) (n c : Nat) (bs : List Int) (w : World) (hx : (Lit.int .u8 x).wf = true) (hbs : Bytes w D n bs ∧ n ≤ c ∧ c ≤ maxLen) :
    Calls Try.prog 6 #[.int .u8 x, .slice D n c] w fun e w' => e = .returned (.bool true) ∧ Below w.heap.size w w' := by
  obtain ⟨x0, x1⟩ := bounds_u8 hx
  obtain ⟨hbs, hn1, hn2⟩ := hbs
  have HBS := Lib.hid hbs
  clear hx hbs
  have hn3 : n ≤ 9223372036854775807 := by unfold maxLen at hn2; omega
  clear hn2
  obtain ⟨i0, hi0, hz0, hz1, hz2⟩ := info_parts info3
  have INFO := Lib.hid (And.intro hi0 (And.intro hz0 (And.intro hz1 hz2)))
  clear hi0 hz0 hz1 hz2
  obtain ⟨i4, hi0, hz0, hz1, hz2⟩ := info_parts info4
  have INFO4 := Lib.hid (And.intro hi0 (And.intro hz0 (And.intro hz1 hz2)))
  clear hi0 hz0 hz1 hz2
  obtain ⟨k, hk⟩ : ∃ k : Nat, 1 + x % 60 = (k : Int) := ⟨(1 + x % 60).toNat, by omega⟩
  have hk1 : 1 ≤ k := by omega
  have hk60 : k ≤ 60 := by omega
  go_enter Try.func6, Try.ntmps6
  go_wp2_with (first
    | (go_at_call 8; refine (new_h _).mono ?_; rintro e w1 ⟨rfl, hh, hb⟩; have HS := Lib.hid (St.start hh hb); clear hh hb))
  go_loopw [7, 8, 9, 10] (fun lv i xv ev wr => ∃ (j : Nat), j ≤ k ∧ i = .int .i64 (j : Int) ∧ St w wr w.heap.size (fun _ => 0) (Ad j (fun _ => false)) lv (Ls j)) (fun _ i _ _ _ => k - (intOf i).toNat)
  case atStart => exact ⟨0, by omega, rfl, by rw [Ad_zero]; exact HS.out⟩
  case round =>
    obtain ⟨j, hj, rfl, hs⟩ := hrel
    have HS2 := Lib.hid hs
    obtain ⟨B2, c2, rfl⟩ := hs.formN j (Ls_len j)
    clear hs
    by_cases hlt : j < k
    · have dj : decide ((j : Int) < (k : Int)) = true := by simp; omega
      have dj2 : decide (j < k) = true := by simp; omega
      have em : ((j : Int) + 512) % 512 = (j : Int) := by omega
      go_wp2_with (first
        | (go_at_call 12; refine (hold_ok _ HS2.out.so.h ((j : Int) + 1) (by omega) j (by omega) (fun i hi => by simp [Ad, hi]; omega) (by simp [Ad]) ((j : Int) + 512) (by simp [tell])).mono ?_; rintro e w3 ⟨rfl, hh, hf⟩; rw [Ad_succ] at hh; have HS3 := Lib.hid (HS2.out.step hh hf); clear hh hf)
        | (go_at_call 14; refine (err_c _ _).mono ?_; rintro e w' ⟨rfl, rfl⟩)
        | (at_builtin; refine wpList_push _ rfl (.tmp 48) (.tmp 50) 46 rfl w.heap.size 3 i0 Try.underlying46 INFO.out.1 INFO.out.2.1 INFO.out.2.2.1 INFO.out.2.2.2 (.slice B2 j c2) j ((Ls j).map (Value.int .i64)) (by simp [Act.eval]) (by have h := HS3.out.ow.alloc (.cells #[.int .i64 ((j : Int) + 512)] 3); rw [Ls_len] at h; exact h) (w3.heap.size + 1) (some ⟨w3.heap.size, 0, none⟩) 1 1 _ rfl (ints_one w3 _) (by omega) (Nat.le_trans HS3.out.so.old.size (by simp)) ?_; intro v2 w4 ho hg _; have HS5 := Lib.hid (HS3.out.push ho (by rw [Ls_len]) hg); rw [Ls_succ] at HS5; clear ho hg))
      go_roundw
      case rel => exact ⟨j + 1, by omega, by go_num, HS5.out⟩
      case measure => simp [intOf]; omega
    · obtain rfl : j = k := by omega
      have dj : decide ((j : Int) < (j : Int)) = false := by simp
      obtain ⟨b, rfl⟩ := HS2.out.block (by omega)
      go_wp2_with (refine wpList_make_full _ rfl (.tmp 52) (.tmp 52) 51 rfl w.heap.size 4 i4 (.bool false) 1 Try.underlying51 INFO4.out.1 INFO4.out.2.1 INFO4.out.2.2.1 .i64 .i64 (j : Int) (j : Int) j rfl rfl rfl rfl (by rw [INFO4.out.2.2.2]; omega) (by unfold maxLen; omega) HS2.out.so.old.size ?_; intro w5 ho hg; have HO := Lib.hid (Od.make HS2.out ho hg); clear ho hg)
      obtain ⟨f, hf⟩ : ∃ f, f = wr.heap.size := ⟨_, rfl⟩
      rw [← hf] at HO ⊢
      clear hf
      go_loopw [12, 13, 14] (fun i sv ev wq => ∃ (p : Nat) (F : Nat → Bool), p ≤ n ∧ p ≤ 30 ∧ i = .int .i64 (p : Int) ∧ Od w wq w.heap.size (Td F) (Ad j F) (.slice (some ⟨b, 0, none⟩) j c2) (Ls j) f j F) (fun i _ _ _ => n - (intOf i).toNat)
      case atStart => exact ⟨0, fun _ => false, by omega, by omega, rfl, by rw [Td_none]; exact HO.out⟩
      case round =>
        obtain ⟨p, F, hp, hp3, rfl, hod⟩ := hrel
        have HO2 := Lib.hid hod
        clear hod
        by_cases hin : p < n ∧ p < 30
        · obtain ⟨hpn, hp30⟩ := hin
          have dp : decide ((p : Int) < (n : Int)) = true := by simp; omega
          have dp2 : decide (p < n) = true := by simp; omega
          have dp3 : decide ((p : Int) < 30) = true := by simp; omega
          have dp4 : decide (p < 30) = true := by simp; omega
          obtain ⟨ad, rfl, _, hc⟩ := (HBS.out.below HO2.out.st.so.old).2.1 (by omega)
          have hcj := hc p hpn
          obtain ⟨y, hy⟩ : ∃ y, y = bs.getD p 0 := ⟨_, rfl⟩
          have hy2 : 0 ≤ y ∧ y ≤ 255 := by
            rw [hy]
            refine HBS.out.2.2 _ ?_
            rw [List.getD_eq_getElem?_getD, List.getElem?_eq_getElem (by have := HBS.out.1; omega)]
            simp
          rw [← hy] at hcj
          obtain ⟨y0, y1⟩ := hy2
          clear hc hy
          obtain ⟨s, hs⟩ : ∃ s : Nat, y % (j : Int) = (s : Int) := ⟨(y % (j : Int)).toNat, by have := Int.emod_nonneg y (show (j : Int) ≠ 0 by omega); omega⟩
          have hsj : s < j := by have := Int.emod_lt_of_pos y (show (0 : Int) < (j : Int) by omega); omega
          have z0 : ((j : Int) == 0) = false := by simp; omega
          have g1 : (0 : Int) ≤ (p : Int) := by omega
          have g2 : (p : Int) < (n : Int) := by omega
          have g3 : (0 : Int) ≤ (s : Int) := by omega
          have g4 : (s : Int) < (j : Int) := by omega
          have kl := HO2.out.st.get s _ (Ls_at hsj)
          have kf := HO2.out.get s hsj
          have ff := HO2.out.fr s
          have sm : (s : Int) + 512 ≤ 9223372036854775807 := by omega
          have sm2 : ((s : Int) + 512) % 512 = (s : Int) := by omega
          have SM2 := Lib.hid sm2
          clear sm2
          by_cases hF : F s = true
          · have HF := Lib.hid hF
            rw [hF] at kf
            clear hF
            go_wp2_with (first
              | (go_at_call 15; refine (drop_no _ HO2.out.st.so.h ((s : Int) + 512) sm (Ad_gone (by omega) HF.out)).mono ?_; rintro e w' ⟨rfl, rfl⟩)
              | (go_at_call 14; refine (err_c _ _).mono ?_; rintro e w' ⟨rfl, rfl⟩))
            have HO3 := Lib.hid (HO2.out.setF s hsj)
            go_roundw
            case rel => exact ⟨p + 1, F, by omega, by omega, by go_num, by have h := HO3.out; rw [put_true HF.out] at h; exact h⟩
            case measure => simp [intOf]; omega
          · have hF' : F s = false := by simpa using hF
            have HF := Lib.hid hF'
            rw [hF'] at kf
            clear hF hF'
            go_wp2_with (first
              | (go_at_call 15; refine (drop_yes _ HO2.out.st.so.h ((s : Int) + 512) sm (Ad_here hsj (by omega) HF.out) s SM2.out (by simp [Td, HF.out])).mono ?_; rintro e w6 ⟨rfl, hh, hf⟩; rw [Td_put HF.out, Ad_put] at hh; have HO3 := Lib.hid (HO2.out.step hh hf); have kf6 := HO3.out.get s hsj; rw [HF.out] at kf6; have ff6 := HO3.out.fr s; clear hh hf)
              | (go_at_call 14; refine (err_c _ _).mono ?_; rintro e w' ⟨rfl, rfl⟩))
            have HO4 := Lib.hid (HO3.out.setF s hsj)
            go_roundw
            case rel => exact ⟨p + 1, _, by omega, by omega, by go_num, HO4.out⟩
            case measure => simp [intOf]; omega
        · have ex : (decide ((p : Int) < (n : Int)) = false ∧ decide (p < n) = false) ∨ (decide ((p : Int) < (n : Int)) = true ∧ decide (p < n) = true ∧ decide ((p : Int) < 30) = false ∧ decide (p < 30) = false) := by
            by_cases h1 : p < n
            · right; simp; omega
            · left; simp; omega
          rcases ex with ⟨dj, dj2⟩ | ⟨dj, dj2, djf, djg⟩
          all_goals
            go_wp2
            go_loopw [15, 16, 17] (fun i xv ev wq => ∃ (q : Nat), q ≤ j ∧ i = .int .i64 (q : Int) ∧ Od w wq w.heap.size (Td F) (Ae j F q) (.slice (some ⟨b, 0, none⟩) j c2) (Le j F q) f j F) (fun i _ _ _ => j - (intOf i).toNat)
            case atStart => exact ⟨0, by omega, rfl, by rw [Ae_zero, Le_zero]; exact HO2.out⟩
            case round =>
              obtain ⟨q, hq, rfl, hod⟩ := hrel
              have HO3 := Lib.hid hod
              clear hod
              by_cases hql : q < j
              · have dq : decide ((q : Int) < (j : Int)) = true := by simp; omega
                have dq2 : decide (q < j) = true := by simp; omega
                have g1 : (0 : Int) ≤ (q : Int) := by omega
                have g2 : (q : Int) < (j : Int) := by omega
                have kf := HO3.out.get q hql
                by_cases hF : F q = true
                · have HF := Lib.hid hF
                  rw [hF] at kf
                  clear hF
                  have em : ((q : Int) + 1024) % 512 = (q : Int) := by omega
                  go_wp2_with (first
                    | (go_at_call 12; refine (hold_ok _ HO3.out.st.so.h (700 + (q : Int)) (by omega) q (by omega) (fun i hi => Ae_lt (by omega) hi) (Ae_at HF.out) ((q : Int) + 1024) (by simp [tell, Td, HF.out])).mono ?_; rintro e w6 ⟨rfl, hh, hf⟩; rw [Ae_yes hql HF.out] at hh; have HO4 := Lib.hid (HO3.out.step hh hf); have kl := HO4.out.st.get q _ (Le_at hql); have fl := HO4.out.st.fr q; clear hh hf)
                    | (go_at_call 14; refine (err_c _ _).mono ?_; rintro e w' ⟨rfl, rfl⟩))
                  have HO5 := Lib.hid (HO4.out.setL q ((q : Int) + 1024))
                  rw [Le_yes hql HF.out] at HO5
                  go_roundw
                  case rel => exact ⟨q + 1, by omega, by go_num, HO5.out⟩
                  case measure => simp [intOf]; omega
                · have hF' : F q = false := by simpa using hF
                  have HF := Lib.hid hF'
                  rw [hF'] at kf
                  clear hF hF'
                  go_wp2
                  go_roundw
                  case rel => exact ⟨q + 1, by omega, by go_num, by rw [← Ae_no HF.out, ← Le_no HF.out]; exact HO3.out⟩
                  case measure => simp [intOf]; omega
              · obtain rfl : q = j := by omega
                have dq : decide ((q : Int) < (q : Int)) = false := by simp
                have HAL := Lib.hid (show allL (Td F) (Ae q F q) 512 = (List.range q).map fun i => (tell (Td F) i, Ae q F q i) by rw [allL_all _ _ q (fun i hi => Ae_lt (Nat.le_refl _) hi) (fun i hi => Ae_ge hi) 512, if_neg (by omega)])
                have q0 : ((q : Int) != (q : Int)) = false := by simp
                have q1 : ((512 : Int) - (q : Int) != 512 - (q : Int)) = false := by simp
                go_wp2_with (first
                  | (go_at_call 22; refine (all_c _ HO3.out.st.so.h).mono ?_; rintro e w8 ⟨v, rfl, ho, hb⟩; obtain ⟨b8, c8, rfl, ho8⟩ := all_form (j := q) (by omega) HAL.out (by simp) ho; have HV8 := Lib.hid ho8; have HO8 := Lib.hid (HO3.out.below hb); clear ho ho8 hb)
                  | (go_at_call 19; refine (room_c _ HO8.out.st.so.h (512 - (q : Int)) (by rw [HAL.out]; simp)).mono ?_; rintro e w9 ⟨rfl, hb⟩; have HV9 := Lib.hid ((Frame.of_below (F := fun _ => False) hb).owns HV8.out (fun _ _ e => e)); have HO9 := Lib.hid (HO8.out.below hb); clear hb))
                go_loopw [19] (fun i wq => ∃ (t nq : Nat), t ≤ q ∧ i = .int .i64 (t : Int) ∧ wq = w9.drewN nq) (fun i _ => q - (intOf i).toNat)
                case atStart => exact ⟨0, 0, by omega, rfl, rfl⟩
                case round =>
                  obtain ⟨t, nq, ht, rfl, rfl⟩ := hrel
                  by_cases htl : t < q
                  · have dt : decide ((t : Int) < (q : Int)) = true := by simp; omega
                    have dt2 : decide (t < q) = true := by simp; omega
                    have g1 : (0 : Int) ≤ (t : Int) := by omega
                    have g2 : (t : Int) < (q : Int) := by omega
                    have kf := HO9.out.get t htl
                    have kl := HO9.out.st.get t _ (Le_end htl)
                    obtain ⟨ka, kb⟩ := held_get HV9.out htl (p := (tell (Td F) t, Ae q F q t)) (by simp [htl])
                    simp only at ka kb
                    generalize tell (Td F) t = X at kl ka
                    have x1' : (X != X) = false := by simp
                    have w1' : IntKind.i64.wrap (700 + (t : Int)) = 700 + (t : Int) := IntWalk.i64_in _ (by omega)
                    have w2' : IntKind.i64.wrap ((t : Int) + 1) = (t : Int) + 1 := IntWalk.i64_in _ (by omega)
                    by_cases hF : F t = true
                    · have hA : Ae q F q t = 700 + (t : Int) := by simp [Ae, htl, hF]
                      rw [hF] at kf
                      rw [hA] at kb
                      clear hF hA
                      go_wp2
                      go_quiet (fail)
                      clear w1' w2'
                      go_wp2
                      go_roundw
                      case rel => exact ⟨t + 1, _, by omega, by go_num, rfl⟩
                      case measure => simp [intOf]; omega
                    · have hF' : F t = false := by simpa using hF
                      have hA : Ae q F q t = (t : Int) + 1 := by simp [Ae, htl, hF']
                      have e7 : ((t : Int) + 1 == 700 + (t : Int)) = false := by simp; omega
                      rw [hF'] at kf
                      rw [hA] at kb
                      clear hF hF' hA
                      go_wp2
                      go_quiet (fail)
                      clear w1' w2'
                      go_wp2
                      go_roundw
                      case rel => exact ⟨t + 1, _, by omega, by go_num, rfl⟩
                      case measure => simp [intOf]; omega
                  · obtain rfl : t = q := by omega
                    have dt : decide ((t : Int) < (t : Int)) = false := by simp
                    go_wp2_with (go_at_call 9; refine (awake_c _).mono ?_; rintro e w10 ⟨rfl, hb⟩; have HB := Lib.hid hb; clear hb)
                    go_ret
                    exact ⟨rfl, ((HO9.out.below (w' := w9.drewN nq) ⟨rfl, rfl, rfl, Nat.le_refl _, fun _ _ => rfl⟩).below HB.out).st.so.old⟩
end Go.Proofs.Ytembjpfgoogbgaa.Fns
