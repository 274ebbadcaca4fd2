/- StackRuns answers true: whatever is pushed and popped, how many went, what comes, whether it is over, is as it must be; for every int and every list of lists within the form's reach. -/
import Derived.Test.YtlnpngjdpalkdaaInv
namespace Go.Proofs.Ytlnpngjdpalkdaa.Fns
open Go Go.RowKit

set_option maxRecDepth 100000 in
set_option maxHeartbeats 40000000 in
theorem runs_law (n : Int) (A : Option Addr) (m cap : Nat) (R : Nat → Row) (w : World) (hn : (Lit.int .i64 n).wf = true) (hr : (∀ i, i < m → RowAt w w.heap.size A i (R i)) ∧ m ≤ cap ∧ cap ≤ maxLen) :
    Calls Try.prog 4 #[.int .i64 n, .slice A m cap] w fun e w' => e = .returned (.bool true) ∧ Below w.heap.size w w' := by
  obtain ⟨n0, n1⟩ := bounds_i64 hn
  obtain ⟨hr, hm1, hm2⟩ := hr
  have HR := Lib.hid hr
  unfold maxLen at hm2
  obtain ⟨i0, hi0, hz0, hz1, hz2⟩ := info_parts info3
  have INFO := Lib.hid (And.intro hi0 (And.intro hz0 (And.intro hz1 hz2)))
  clear hr hn hi0 hz0 hz1 hz2
  rcases (show n < 1 ∨ 4096 < n ∨ (1 ≤ n ∧ n ≤ 4096) by omega) with h | h | ⟨h, h'⟩
  · go_enter Try.func4, Try.ntmps4
    go_wp2_with (first | (go_at_call 6; refine (new_bad _ _ (by omega)).mono ?_; rintro e w' ⟨rfl, rfl⟩) | (go_at_call 7; refine (err_c _ _).mono ?_; rintro e w' ⟨rfl, rfl⟩) | (go_at_call 8; refine (awake_s w _ (Below.refl _ _)).mono ?_; rintro e w' ⟨rfl, hb⟩; have HB := Lib.hid hb; clear hb))
    go_ret
    exact ⟨rfl, HB.out⟩
  · have h2 : ¬ n < 1 := by omega
    go_enter Try.func4, Try.ntmps4
    go_wp2_with (first | (go_at_call 6; refine (new_bad _ _ (by omega)).mono ?_; rintro e w' ⟨rfl, rfl⟩) | (go_at_call 7; refine (err_c _ _).mono ?_; rintro e w' ⟨rfl, rfl⟩) | (go_at_call 8; refine (awake_s w _ (Below.refl _ _)).mono ?_; rintro e w' ⟨rfl, hb⟩; have HB := Lib.hid hb; clear hb))
    go_ret
    exact ⟨rfl, HB.out⟩
  · obtain ⟨room, rfl⟩ := Int.eq_ofNat_of_zero_le (show 0 ≤ n by omega)
    by_cases hbig : 60 < m
    · go_enter Try.func4, Try.ntmps4
      go_wp2_with fail
      refine (new_n room w w (Below.refl _ _) (by omega) (by omega)).mono ?_
      rintro e w1 ⟨rfl, h1⟩
      have H1 := Lib.hid h1
      clear h1
      go_wp2_with (first | (go_at_call 7; refine (err_c _ _).mono ?_; rintro e w' ⟨rfl, rfl⟩) | (go_at_call 8; refine (awake_s w _ H1.out.old).mono ?_; rintro e w' ⟨rfl, hb⟩; have HB := Lib.hid hb; clear hb))
      go_ret
      exact ⟨rfl, HB.out⟩
    · have d1 : decide ((60 : Int) < (m : Int)) = false := by simp; omega
      go_enter Try.func4, Try.ntmps4
      go_wp2_with fail
      refine (new_n room w w (Below.refl _ _) (by omega) (by omega)).mono ?_
      rintro e w1 ⟨rfl, h1⟩
      have H1 := Lib.hid h1
      clear h1
      go_wp2_with (first | (go_at_call 7; refine (err_c _ _).mono ?_; rintro e w' ⟨rfl, rfl⟩))
      go_loopw [7, 8, 9] (fun vw ov i wr => ∃ (k : Nat) (l : List Int) (v : Value) (b : Bool), k ≤ m ∧ i = .int .i64 k ∧ ov = .bool b ∧ Inv w wr w.heap.size v vw l l room b) (fun _ _ i _ => m - (intOf i).toNat)
      case atStart => exact ⟨0, [], _, false, Nat.zero_le _, rfl, rfl, H1.out, World.ownsRow_nil _ _ _ _, fun b hb => by simp [Value.ownBlock] at hb⟩
      case round =>
        obtain ⟨k, l, v, ov, hk, rfl, rfl, hi⟩ := hrel
        by_cases hlt : k < m
        · have hra := HR.out k hlt
          generalize R k = r at hra
          obtain ⟨ra, rl, rc, rx⟩ := r
          have hra2 := hra
          obtain ⟨ad, rfl, had, _, _, hrc, hrm⟩ := hra
          have HRA := Lib.hid hra2
          clear hra2
          have CF : Hid (∀ w', Below w.heap.size w w' → w'.cell? (ad.add k) = some (.slice ra rl rc)) := fun w' hb => by
            obtain ⟨ad', e, _, hc, _⟩ := HRA.out.below hb
            injection e with e
            subst e
            exact hc
          have RI : Hid (∀ w', Below w.heap.size w w' → Ints w' w.heap.size ra rl rx) := fun w' hb => by
            obtain ⟨_, _, _, _, hi, _⟩ := HRA.out.below hb
            exact hi
          have RM := Lib.hid hrm
          simp only at hrc
          have hrc2 : rc ≤ 9223372036854775807 := hrm
          clear hrm had
          have cr := CF.out _ hi.sy.old
          by_cases h30 : 30 < rl
          · have HI := Lib.hid hi
            clear hi
            go_wp2_with (first | (go_at_call 8; refine (awake_s w _ HI.out.sy.old).mono ?_; rintro e w' ⟨rfl, hb⟩; have HB := Lib.hid hb; clear hb))
            go_ret
            exact ⟨rfl, HB.out⟩
          · obtain ⟨L, hL⟩ : ∃ L, L = l.length := ⟨_, rfl⟩
            obtain ⟨WA, wc, hvw, hcells⟩ := hi.form
            rw [← hL] at hvw hcells
            subst hvw
            have HL : Hid (l.length = L) := hL.symm
            have HI := Lib.hid hi
            have HC := Lib.hid hcells
            clear hi hL hcells
            rcases (show (((k : Int) % 4 == 2) = true) ∨ (((k : Int) % 4 == 2) = false ∧ ((k : Int) % 4 == 3) = true) ∨ (((k : Int) % 4 == 2) = false ∧ ((k : Int) % 4 == 3) = false) by
              rcases (show (k : Int) % 4 = 2 ∨ (k : Int) % 4 = 3 ∨ ((k : Int) % 4 ≠ 2 ∧ (k : Int) % 4 ≠ 3) by omega) with e | e | ⟨e, e'⟩
              · exact .inl (by simp [e])
              · exact .inr (.inl ⟨by simp [e], by simp [e]⟩)
              · exact .inr (.inr ⟨by simpa using e, by simpa using e'⟩)) with t2 | ⟨t2, t3⟩ | ⟨t2, t3⟩
            · skip
              rcases Nat.eq_zero_or_pos L with hz | hz
              · have d0 : decide ((0 : Int) < (L : Int)) = false := by simp; omega
                have d00 : decide (0 < L) = false := by simp; omega
                have HZ := Lib.hid hz
                clear hz
                have HLx := HL
                have FIT : Hid (L ≤ room) := by have := HI.out.sy.st.fits; rw [HL.out] at this; exact this
                have MOST := Lib.hid HI.out.sy.st.most
                cases ov
                · skip
                  by_cases hk : (room : Int) - L < rl
                  · have q0 : 0 ≤ (room : Int) - L := by have := FIT.out; omega
                    have q1 : ((room : Int) - L).toNat = room - L := by omega
                    have q2 : (room : Int) - L ≤ rc := by omega
                    have q3 : room - L ≤ rc := by omega
                    obtain ⟨ys, hys⟩ : ∃ ys, ys = rx.take (room - L) := ⟨_, rfl⟩
                    have YS := Lib.hid hys
                    have hyl : ys.length = room - L := by rw [hys]; exact ((RI.out _ (Below.refl _ _)).take (k := room - L) (by omega)).1
                    have YL := Lib.hid hyl
                    clear hys hyl
                    go_wp2_with (go_at_call 12; refine (pop_zero HI.out (by rw [HL.out, HZ.out])).mono ?_; rintro e w2 ⟨rfl, rfl⟩)
                    refine (push_i HI.out _ ra rl rc rx (RI.out _ HI.out.sy.old) hrc RM.out ((room : Int) - L) ys true (by rw [HLx.out]; have := FIT.out; omega) (by rw [HLx.out, YS.out]) (by rw [HLx.out]; simp; try omega)).mono ?_
                    rintro e w3 ⟨rfl, v3, hi3⟩
                    have HI3 := Lib.hid hi3
                    have cw3 := CF.out _ HI3.out.sy.old
                    clear hi3
                    go_wp2_with (at_builtin; refine wpList_push _ rfl (.tmp 135) (.tmp 141) 22 rfl w.heap.size 3 i0 Try.underlying22 INFO.out.1 INFO.out.2.1 INFO.out.2.2.1 INFO.out.2.2.2 _ L _ rfl (by have h := HI3.out.own; rw [HLx.out] at h; exact h) w.heap.size ra (room - L) rc ys rfl (by rw [YS.out]; exact (RI.out _ HI3.out.sy.old).take (by omega)) (by have := FIT.out; have := MOST.out; omega) HI3.out.sy.old.size ?_; intro v4 w4 ho hg hat; have HI4 := Lib.hid (HI3.out.append HLx.out.symm YL.out ho hg hat); obtain ⟨WA4, wc4, rfl⟩ := own_form ho; have cw4 := CF.out _ HI4.out.sy.old; clear ho hg hat cw3)
                    go_wp2_with (first | (go_at_call 10; refine (over_c _ HI4.out.sy.st).mono ?_; rintro e w' ⟨rfl, rfl⟩) | (go_at_call 11; refine (depth_v HI4.out ((L : Int) + (room - L : Nat)) (by rw [List.length_append, YL.out, HLx.out]; omega)).mono ?_; rintro e w' ⟨rfl, rfl⟩))
                    go_roundw
                    case rel => exact ⟨k + 1, l ++ ys, v3, true, by omega, by go_num, rfl, HI4.out⟩
                    case measure => simp [intOf]; omega
                  · obtain ⟨ys, hys⟩ : ∃ ys, ys = rx := ⟨_, rfl⟩
                    have YS := Lib.hid hys
                    have hyl : ys.length = rl := by rw [hys]; exact (RI.out _ (Below.refl _ _)).1
                    have YL := Lib.hid hyl
                    clear hys hyl
                    go_wp2_with (go_at_call 12; refine (pop_zero HI.out (by rw [HL.out, HZ.out])).mono ?_; rintro e w2 ⟨rfl, rfl⟩)
                    refine (push_i HI.out _ ra rl rc rx (RI.out _ HI.out.sy.old) hrc RM.out (rl : Int) ys false (by rw [HLx.out]; omega) (by rw [HLx.out, YS.out]; exact List.take_of_length_le (by rw [← YS.out, YL.out]; omega)) (by rw [HLx.out]; simp; try omega)).mono ?_
                    rintro e w3 ⟨rfl, v3, hi3⟩
                    have HI3 := Lib.hid hi3
                    have cw3 := CF.out _ HI3.out.sy.old
                    clear hi3
                    go_wp2_with (at_builtin; refine wpList_push _ rfl (.tmp 135) (.tmp 141) 22 rfl w.heap.size 3 i0 Try.underlying22 INFO.out.1 INFO.out.2.1 INFO.out.2.2.1 INFO.out.2.2.2 _ L _ rfl (by have h := HI3.out.own; rw [HLx.out] at h; exact h) w.heap.size ra rl rc ys rfl (by rw [YS.out]; exact RI.out _ HI3.out.sy.old) (by have := FIT.out; have := MOST.out; omega) HI3.out.sy.old.size ?_; intro v4 w4 ho hg hat; have HI4 := Lib.hid (HI3.out.append HLx.out.symm YL.out ho hg hat); obtain ⟨WA4, wc4, rfl⟩ := own_form ho; have cw4 := CF.out _ HI4.out.sy.old; clear ho hg hat cw3)
                    go_wp2_with (first | (go_at_call 10; refine (over_c _ HI4.out.sy.st).mono ?_; rintro e w' ⟨rfl, rfl⟩) | (go_at_call 11; refine (depth_v HI4.out ((L : Int) + rl) (by rw [List.length_append, YL.out, HLx.out]; omega)).mono ?_; rintro e w' ⟨rfl, rfl⟩))
                    go_roundw
                    case rel => exact ⟨k + 1, l ++ ys, v3, false, by omega, by go_num, rfl, HI4.out⟩
                    case measure => simp [intOf]; omega
                · skip
                  by_cases hk : (room : Int) - L < rl
                  · have q0 : 0 ≤ (room : Int) - L := by have := FIT.out; omega
                    have q1 : ((room : Int) - L).toNat = room - L := by omega
                    have q2 : (room : Int) - L ≤ rc := by omega
                    have q3 : room - L ≤ rc := by omega
                    obtain ⟨ys, hys⟩ : ∃ ys, ys = rx.take (room - L) := ⟨_, rfl⟩
                    have YS := Lib.hid hys
                    have hyl : ys.length = room - L := by rw [hys]; exact ((RI.out _ (Below.refl _ _)).take (k := room - L) (by omega)).1
                    have YL := Lib.hid hyl
                    clear hys hyl
                    go_wp2_with (go_at_call 12; refine (pop_zero HI.out (by rw [HL.out, HZ.out])).mono ?_; rintro e w2 ⟨rfl, rfl⟩)
                    refine (push_i HI.out _ ra rl rc rx (RI.out _ HI.out.sy.old) hrc RM.out ((room : Int) - L) ys true (by rw [HLx.out]; have := FIT.out; omega) (by rw [HLx.out, YS.out]) (by rw [HLx.out]; simp; try omega)).mono ?_
                    rintro e w3 ⟨rfl, v3, hi3⟩
                    have HI3 := Lib.hid hi3
                    have cw3 := CF.out _ HI3.out.sy.old
                    clear hi3
                    go_wp2_with (at_builtin; refine wpList_push _ rfl (.tmp 135) (.tmp 141) 22 rfl w.heap.size 3 i0 Try.underlying22 INFO.out.1 INFO.out.2.1 INFO.out.2.2.1 INFO.out.2.2.2 _ L _ rfl (by have h := HI3.out.own; rw [HLx.out] at h; exact h) w.heap.size ra (room - L) rc ys rfl (by rw [YS.out]; exact (RI.out _ HI3.out.sy.old).take (by omega)) (by have := FIT.out; have := MOST.out; omega) HI3.out.sy.old.size ?_; intro v4 w4 ho hg hat; have HI4 := Lib.hid (HI3.out.append HLx.out.symm YL.out ho hg hat); obtain ⟨WA4, wc4, rfl⟩ := own_form ho; have cw4 := CF.out _ HI4.out.sy.old; clear ho hg hat cw3)
                    go_wp2_with (first | (go_at_call 10; refine (over_c _ HI4.out.sy.st).mono ?_; rintro e w' ⟨rfl, rfl⟩) | (go_at_call 11; refine (depth_v HI4.out ((L : Int) + (room - L : Nat)) (by rw [List.length_append, YL.out, HLx.out]; omega)).mono ?_; rintro e w' ⟨rfl, rfl⟩))
                    go_roundw
                    case rel => exact ⟨k + 1, l ++ ys, v3, true, by omega, by go_num, rfl, HI4.out⟩
                    case measure => simp [intOf]; omega
                  · obtain ⟨ys, hys⟩ : ∃ ys, ys = rx := ⟨_, rfl⟩
                    have YS := Lib.hid hys
                    have hyl : ys.length = rl := by rw [hys]; exact (RI.out _ (Below.refl _ _)).1
                    have YL := Lib.hid hyl
                    clear hys hyl
                    go_wp2_with (go_at_call 12; refine (pop_zero HI.out (by rw [HL.out, HZ.out])).mono ?_; rintro e w2 ⟨rfl, rfl⟩)
                    refine (push_i HI.out _ ra rl rc rx (RI.out _ HI.out.sy.old) hrc RM.out (rl : Int) ys true (by rw [HLx.out]; omega) (by rw [HLx.out, YS.out]; exact List.take_of_length_le (by rw [← YS.out, YL.out]; omega)) (by rw [HLx.out]; simp; try omega)).mono ?_
                    rintro e w3 ⟨rfl, v3, hi3⟩
                    have HI3 := Lib.hid hi3
                    have cw3 := CF.out _ HI3.out.sy.old
                    clear hi3
                    go_wp2_with (at_builtin; refine wpList_push _ rfl (.tmp 135) (.tmp 141) 22 rfl w.heap.size 3 i0 Try.underlying22 INFO.out.1 INFO.out.2.1 INFO.out.2.2.1 INFO.out.2.2.2 _ L _ rfl (by have h := HI3.out.own; rw [HLx.out] at h; exact h) w.heap.size ra rl rc ys rfl (by rw [YS.out]; exact RI.out _ HI3.out.sy.old) (by have := FIT.out; have := MOST.out; omega) HI3.out.sy.old.size ?_; intro v4 w4 ho hg hat; have HI4 := Lib.hid (HI3.out.append HLx.out.symm YL.out ho hg hat); obtain ⟨WA4, wc4, rfl⟩ := own_form ho; have cw4 := CF.out _ HI4.out.sy.old; clear ho hg hat cw3)
                    go_wp2_with (first | (go_at_call 10; refine (over_c _ HI4.out.sy.st).mono ?_; rintro e w' ⟨rfl, rfl⟩) | (go_at_call 11; refine (depth_v HI4.out ((L : Int) + rl) (by rw [List.length_append, YL.out, HLx.out]; omega)).mono ?_; rintro e w' ⟨rfl, rfl⟩))
                    go_roundw
                    case rel => exact ⟨k + 1, l ++ ys, v3, true, by omega, by go_num, rfl, HI4.out⟩
                    case measure => simp [intOf]; omega
              · obtain ⟨M, rfl⟩ : ∃ M, L = M + 1 := ⟨L - 1, by omega⟩
                obtain ⟨b, rfl, hbc, _⟩ := HC.out hz
                clear hz
                have FIT : Hid (M ≤ room) := by have := HI.out.sy.st.fits; rw [HL.out] at this; show M ≤ room; omega
                have MOST := Lib.hid HI.out.sy.st.most
                obtain ⟨l2, hl2⟩ : ∃ l2, l2 = l.take M := ⟨_, rfl⟩
                obtain ⟨y, hy⟩ : ∃ y, y = l.getD M 0 := ⟨_, rfl⟩
                have HLx : Hid (l2.length = M) := by show l2.length = M; rw [hl2, List.length_take, HL.out]; omega
                have L2 := Lib.hid hl2
                have HY := Lib.hid hy
                clear hl2 hy
                have hM : (0 : Int) ≤ M := by omega
                cases ov
                · skip
                  by_cases hk : (room : Int) - M < rl
                  · have q0 : 0 ≤ (room : Int) - M := by have := FIT.out; omega
                    have q1 : ((room : Int) - M).toNat = room - M := by omega
                    have q2 : (room : Int) - M ≤ rc := by omega
                    have q3 : room - M ≤ rc := by omega
                    obtain ⟨ys, hys⟩ : ∃ ys, ys = rx.take (room - M) := ⟨_, rfl⟩
                    have YS := Lib.hid hys
                    have hyl : ys.length = room - M := by rw [hys]; exact ((RI.out _ (Below.refl _ _)).take (k := room - M) (by omega)).1
                    have YL := Lib.hid hyl
                    clear hys hyl
                    go_wp2_with (go_at_call 12; refine (pop_i HI.out (by rw [HL.out]; omega) y l2 (by rw [HL.out, HY.out]; rfl) (by rw [HL.out, L2.out]; rfl)).mono ?_; rintro e w2 ⟨rfl, v2, hi2⟩; have cy := hi2.cell (j := M) HL.out (by omega); rw [← HY.out] at cy; have HI2 := Lib.hid hi2; have cw2 := CF.out _ HI2.out.sy.old; clear hi2)
                    have HI5 := Lib.hid (HI2.out.cut (m := M) (by omega) HL.out.symm)
                    rw [← L2.out] at HI5
                    refine (push_i HI5.out _ ra rl rc rx (RI.out _ HI5.out.sy.old) hrc RM.out ((room : Int) - M) ys true (by rw [HLx.out]; have := FIT.out; omega) (by rw [HLx.out, YS.out]) (by rw [HLx.out]; simp; try omega)).mono ?_
                    rintro e w3 ⟨rfl, v3, hi3⟩
                    have HI3 := Lib.hid hi3
                    have cw3 := CF.out _ HI3.out.sy.old
                    clear hi3
                    go_wp2_with (at_builtin; refine wpList_push _ rfl (.tmp 135) (.tmp 141) 22 rfl w.heap.size 3 i0 Try.underlying22 INFO.out.1 INFO.out.2.1 INFO.out.2.2.1 INFO.out.2.2.2 _ M _ rfl (by have h := HI3.out.own; rw [HLx.out] at h; exact h) w.heap.size ra (room - M) rc ys rfl (by rw [YS.out]; exact (RI.out _ HI3.out.sy.old).take (by omega)) (by have := FIT.out; have := MOST.out; omega) HI3.out.sy.old.size ?_; intro v4 w4 ho hg hat; have HI4 := Lib.hid (HI3.out.append HLx.out.symm YL.out ho hg hat); obtain ⟨WA4, wc4, rfl⟩ := own_form ho; have cw4 := CF.out _ HI4.out.sy.old; clear ho hg hat cw3)
                    go_wp2_with (first | (go_at_call 10; refine (over_c _ HI4.out.sy.st).mono ?_; rintro e w' ⟨rfl, rfl⟩) | (go_at_call 11; refine (depth_v HI4.out ((M : Int) + (room - M : Nat)) (by rw [List.length_append, YL.out, HLx.out]; omega)).mono ?_; rintro e w' ⟨rfl, rfl⟩))
                    go_roundw
                    case rel => exact ⟨k + 1, l2 ++ ys, v3, true, by omega, by go_num, rfl, HI4.out⟩
                    case measure => simp [intOf]; omega
                  · obtain ⟨ys, hys⟩ : ∃ ys, ys = rx := ⟨_, rfl⟩
                    have YS := Lib.hid hys
                    have hyl : ys.length = rl := by rw [hys]; exact (RI.out _ (Below.refl _ _)).1
                    have YL := Lib.hid hyl
                    clear hys hyl
                    go_wp2_with (go_at_call 12; refine (pop_i HI.out (by rw [HL.out]; omega) y l2 (by rw [HL.out, HY.out]; rfl) (by rw [HL.out, L2.out]; rfl)).mono ?_; rintro e w2 ⟨rfl, v2, hi2⟩; have cy := hi2.cell (j := M) HL.out (by omega); rw [← HY.out] at cy; have HI2 := Lib.hid hi2; have cw2 := CF.out _ HI2.out.sy.old; clear hi2)
                    have HI5 := Lib.hid (HI2.out.cut (m := M) (by omega) HL.out.symm)
                    rw [← L2.out] at HI5
                    refine (push_i HI5.out _ ra rl rc rx (RI.out _ HI5.out.sy.old) hrc RM.out (rl : Int) ys false (by rw [HLx.out]; omega) (by rw [HLx.out, YS.out]; exact List.take_of_length_le (by rw [← YS.out, YL.out]; omega)) (by rw [HLx.out]; simp; try omega)).mono ?_
                    rintro e w3 ⟨rfl, v3, hi3⟩
                    have HI3 := Lib.hid hi3
                    have cw3 := CF.out _ HI3.out.sy.old
                    clear hi3
                    go_wp2_with (at_builtin; refine wpList_push _ rfl (.tmp 135) (.tmp 141) 22 rfl w.heap.size 3 i0 Try.underlying22 INFO.out.1 INFO.out.2.1 INFO.out.2.2.1 INFO.out.2.2.2 _ M _ rfl (by have h := HI3.out.own; rw [HLx.out] at h; exact h) w.heap.size ra rl rc ys rfl (by rw [YS.out]; exact RI.out _ HI3.out.sy.old) (by have := FIT.out; have := MOST.out; omega) HI3.out.sy.old.size ?_; intro v4 w4 ho hg hat; have HI4 := Lib.hid (HI3.out.append HLx.out.symm YL.out ho hg hat); obtain ⟨WA4, wc4, rfl⟩ := own_form ho; have cw4 := CF.out _ HI4.out.sy.old; clear ho hg hat cw3)
                    go_wp2_with (first | (go_at_call 10; refine (over_c _ HI4.out.sy.st).mono ?_; rintro e w' ⟨rfl, rfl⟩) | (go_at_call 11; refine (depth_v HI4.out ((M : Int) + rl) (by rw [List.length_append, YL.out, HLx.out]; omega)).mono ?_; rintro e w' ⟨rfl, rfl⟩))
                    go_roundw
                    case rel => exact ⟨k + 1, l2 ++ ys, v3, false, by omega, by go_num, rfl, HI4.out⟩
                    case measure => simp [intOf]; omega
                · skip
                  by_cases hk : (room : Int) - M < rl
                  · have q0 : 0 ≤ (room : Int) - M := by have := FIT.out; omega
                    have q1 : ((room : Int) - M).toNat = room - M := by omega
                    have q2 : (room : Int) - M ≤ rc := by omega
                    have q3 : room - M ≤ rc := by omega
                    obtain ⟨ys, hys⟩ : ∃ ys, ys = rx.take (room - M) := ⟨_, rfl⟩
                    have YS := Lib.hid hys
                    have hyl : ys.length = room - M := by rw [hys]; exact ((RI.out _ (Below.refl _ _)).take (k := room - M) (by omega)).1
                    have YL := Lib.hid hyl
                    clear hys hyl
                    go_wp2_with (go_at_call 12; refine (pop_i HI.out (by rw [HL.out]; omega) y l2 (by rw [HL.out, HY.out]; rfl) (by rw [HL.out, L2.out]; rfl)).mono ?_; rintro e w2 ⟨rfl, v2, hi2⟩; have cy := hi2.cell (j := M) HL.out (by omega); rw [← HY.out] at cy; have HI2 := Lib.hid hi2; have cw2 := CF.out _ HI2.out.sy.old; clear hi2)
                    have HI5 := Lib.hid (HI2.out.cut (m := M) (by omega) HL.out.symm)
                    rw [← L2.out] at HI5
                    refine (push_i HI5.out _ ra rl rc rx (RI.out _ HI5.out.sy.old) hrc RM.out ((room : Int) - M) ys true (by rw [HLx.out]; have := FIT.out; omega) (by rw [HLx.out, YS.out]) (by rw [HLx.out]; simp; try omega)).mono ?_
                    rintro e w3 ⟨rfl, v3, hi3⟩
                    have HI3 := Lib.hid hi3
                    have cw3 := CF.out _ HI3.out.sy.old
                    clear hi3
                    go_wp2_with (at_builtin; refine wpList_push _ rfl (.tmp 135) (.tmp 141) 22 rfl w.heap.size 3 i0 Try.underlying22 INFO.out.1 INFO.out.2.1 INFO.out.2.2.1 INFO.out.2.2.2 _ M _ rfl (by have h := HI3.out.own; rw [HLx.out] at h; exact h) w.heap.size ra (room - M) rc ys rfl (by rw [YS.out]; exact (RI.out _ HI3.out.sy.old).take (by omega)) (by have := FIT.out; have := MOST.out; omega) HI3.out.sy.old.size ?_; intro v4 w4 ho hg hat; have HI4 := Lib.hid (HI3.out.append HLx.out.symm YL.out ho hg hat); obtain ⟨WA4, wc4, rfl⟩ := own_form ho; have cw4 := CF.out _ HI4.out.sy.old; clear ho hg hat cw3)
                    go_wp2_with (first | (go_at_call 10; refine (over_c _ HI4.out.sy.st).mono ?_; rintro e w' ⟨rfl, rfl⟩) | (go_at_call 11; refine (depth_v HI4.out ((M : Int) + (room - M : Nat)) (by rw [List.length_append, YL.out, HLx.out]; omega)).mono ?_; rintro e w' ⟨rfl, rfl⟩))
                    go_roundw
                    case rel => exact ⟨k + 1, l2 ++ ys, v3, true, by omega, by go_num, rfl, HI4.out⟩
                    case measure => simp [intOf]; omega
                  · obtain ⟨ys, hys⟩ : ∃ ys, ys = rx := ⟨_, rfl⟩
                    have YS := Lib.hid hys
                    have hyl : ys.length = rl := by rw [hys]; exact (RI.out _ (Below.refl _ _)).1
                    have YL := Lib.hid hyl
                    clear hys hyl
                    go_wp2_with (go_at_call 12; refine (pop_i HI.out (by rw [HL.out]; omega) y l2 (by rw [HL.out, HY.out]; rfl) (by rw [HL.out, L2.out]; rfl)).mono ?_; rintro e w2 ⟨rfl, v2, hi2⟩; have cy := hi2.cell (j := M) HL.out (by omega); rw [← HY.out] at cy; have HI2 := Lib.hid hi2; have cw2 := CF.out _ HI2.out.sy.old; clear hi2)
                    have HI5 := Lib.hid (HI2.out.cut (m := M) (by omega) HL.out.symm)
                    rw [← L2.out] at HI5
                    refine (push_i HI5.out _ ra rl rc rx (RI.out _ HI5.out.sy.old) hrc RM.out (rl : Int) ys true (by rw [HLx.out]; omega) (by rw [HLx.out, YS.out]; exact List.take_of_length_le (by rw [← YS.out, YL.out]; omega)) (by rw [HLx.out]; simp; try omega)).mono ?_
                    rintro e w3 ⟨rfl, v3, hi3⟩
                    have HI3 := Lib.hid hi3
                    have cw3 := CF.out _ HI3.out.sy.old
                    clear hi3
                    go_wp2_with (at_builtin; refine wpList_push _ rfl (.tmp 135) (.tmp 141) 22 rfl w.heap.size 3 i0 Try.underlying22 INFO.out.1 INFO.out.2.1 INFO.out.2.2.1 INFO.out.2.2.2 _ M _ rfl (by have h := HI3.out.own; rw [HLx.out] at h; exact h) w.heap.size ra rl rc ys rfl (by rw [YS.out]; exact RI.out _ HI3.out.sy.old) (by have := FIT.out; have := MOST.out; omega) HI3.out.sy.old.size ?_; intro v4 w4 ho hg hat; have HI4 := Lib.hid (HI3.out.append HLx.out.symm YL.out ho hg hat); obtain ⟨WA4, wc4, rfl⟩ := own_form ho; have cw4 := CF.out _ HI4.out.sy.old; clear ho hg hat cw3)
                    go_wp2_with (first | (go_at_call 10; refine (over_c _ HI4.out.sy.st).mono ?_; rintro e w' ⟨rfl, rfl⟩) | (go_at_call 11; refine (depth_v HI4.out ((M : Int) + rl) (by rw [List.length_append, YL.out, HLx.out]; omega)).mono ?_; rintro e w' ⟨rfl, rfl⟩))
                    go_roundw
                    case rel => exact ⟨k + 1, l2 ++ ys, v3, true, by omega, by go_num, rfl, HI4.out⟩
                    case measure => simp [intOf]; omega
            · skip
              have HLx := HL
              have FIT : Hid (L ≤ room) := by have := HI.out.sy.st.fits; rw [HL.out] at this; exact this
              have MOST := Lib.hid HI.out.sy.st.most
              by_cases g3 : 3 < rl
              · skip
                by_cases hk : (room : Int) - L < rl
                · have q0 : 0 ≤ (room : Int) - L := by have := FIT.out; omega
                  have q1 : ((room : Int) - L).toNat = room - L := by omega
                  have q2 : (room : Int) - L ≤ rc := by omega
                  have q3 : room - L ≤ rc := by omega
                  obtain ⟨ys, hys⟩ : ∃ ys, ys = rx.take (room - L) := ⟨_, rfl⟩
                  have YS := Lib.hid hys
                  have hyl : ys.length = room - L := by rw [hys]; exact ((RI.out _ (Below.refl _ _)).take (k := room - L) (by omega)).1
                  have YL := Lib.hid hyl
                  clear hys hyl
                  go_wp2_with (go_at_call 13; refine (reset_i HI.out).mono ?_; rintro e w2 ⟨rfl, hi2⟩; have HI2 := Lib.hid hi2; have cw2 := CF.out _ HI2.out.sy.old; clear hi2)
                  refine (push_i HI2.out _ ra rl rc rx (RI.out _ HI2.out.sy.old) hrc RM.out ((room : Int) - L) ys true (by rw [HLx.out]; have := FIT.out; omega) (by rw [HLx.out, YS.out]) (by rw [HLx.out]; simp; try omega)).mono ?_
                  rintro e w3 ⟨rfl, v3, hi3⟩
                  have HI3 := Lib.hid hi3
                  have cw3 := CF.out _ HI3.out.sy.old
                  clear hi3
                  go_wp2_with (at_builtin; refine wpList_push _ rfl (.tmp 135) (.tmp 141) 22 rfl w.heap.size 3 i0 Try.underlying22 INFO.out.1 INFO.out.2.1 INFO.out.2.2.1 INFO.out.2.2.2 _ L _ rfl (by have h := HI3.out.own; rw [HLx.out] at h; exact h) w.heap.size ra (room - L) rc ys rfl (by rw [YS.out]; exact (RI.out _ HI3.out.sy.old).take (by omega)) (by have := FIT.out; have := MOST.out; omega) HI3.out.sy.old.size ?_; intro v4 w4 ho hg hat; have HI4 := Lib.hid (HI3.out.append HLx.out.symm YL.out ho hg hat); obtain ⟨WA4, wc4, rfl⟩ := own_form ho; have cw4 := CF.out _ HI4.out.sy.old; clear ho hg hat cw3)
                  go_wp2_with (first | (go_at_call 10; refine (over_c _ HI4.out.sy.st).mono ?_; rintro e w' ⟨rfl, rfl⟩) | (go_at_call 11; refine (depth_v HI4.out ((L : Int) + (room - L : Nat)) (by rw [List.length_append, YL.out, HLx.out]; omega)).mono ?_; rintro e w' ⟨rfl, rfl⟩))
                  go_roundw
                  case rel => exact ⟨k + 1, l ++ ys, v3, true, by omega, by go_num, rfl, HI4.out⟩
                  case measure => simp [intOf]; omega
                · obtain ⟨ys, hys⟩ : ∃ ys, ys = rx := ⟨_, rfl⟩
                  have YS := Lib.hid hys
                  have hyl : ys.length = rl := by rw [hys]; exact (RI.out _ (Below.refl _ _)).1
                  have YL := Lib.hid hyl
                  clear hys hyl
                  go_wp2_with (go_at_call 13; refine (reset_i HI.out).mono ?_; rintro e w2 ⟨rfl, hi2⟩; have HI2 := Lib.hid hi2; have cw2 := CF.out _ HI2.out.sy.old; clear hi2)
                  refine (push_i HI2.out _ ra rl rc rx (RI.out _ HI2.out.sy.old) hrc RM.out (rl : Int) ys false (by rw [HLx.out]; omega) (by rw [HLx.out, YS.out]; exact List.take_of_length_le (by rw [← YS.out, YL.out]; omega)) (by rw [HLx.out]; simp; try omega)).mono ?_
                  rintro e w3 ⟨rfl, v3, hi3⟩
                  have HI3 := Lib.hid hi3
                  have cw3 := CF.out _ HI3.out.sy.old
                  clear hi3
                  go_wp2_with (at_builtin; refine wpList_push _ rfl (.tmp 135) (.tmp 141) 22 rfl w.heap.size 3 i0 Try.underlying22 INFO.out.1 INFO.out.2.1 INFO.out.2.2.1 INFO.out.2.2.2 _ L _ rfl (by have h := HI3.out.own; rw [HLx.out] at h; exact h) w.heap.size ra rl rc ys rfl (by rw [YS.out]; exact RI.out _ HI3.out.sy.old) (by have := FIT.out; have := MOST.out; omega) HI3.out.sy.old.size ?_; intro v4 w4 ho hg hat; have HI4 := Lib.hid (HI3.out.append HLx.out.symm YL.out ho hg hat); obtain ⟨WA4, wc4, rfl⟩ := own_form ho; have cw4 := CF.out _ HI4.out.sy.old; clear ho hg hat cw3)
                  go_wp2_with (first | (go_at_call 10; refine (over_c _ HI4.out.sy.st).mono ?_; rintro e w' ⟨rfl, rfl⟩) | (go_at_call 11; refine (depth_v HI4.out ((L : Int) + rl) (by rw [List.length_append, YL.out, HLx.out]; omega)).mono ?_; rintro e w' ⟨rfl, rfl⟩))
                  go_roundw
                  case rel => exact ⟨k + 1, l ++ ys, v3, false, by omega, by go_num, rfl, HI4.out⟩
                  case measure => simp [intOf]; omega
              · cases ov
                · skip
                  by_cases hk : (room : Int) - L < rl
                  · have q0 : 0 ≤ (room : Int) - L := by have := FIT.out; omega
                    have q1 : ((room : Int) - L).toNat = room - L := by omega
                    have q2 : (room : Int) - L ≤ rc := by omega
                    have q3 : room - L ≤ rc := by omega
                    obtain ⟨ys, hys⟩ : ∃ ys, ys = rx.take (room - L) := ⟨_, rfl⟩
                    have YS := Lib.hid hys
                    have hyl : ys.length = room - L := by rw [hys]; exact ((RI.out _ (Below.refl _ _)).take (k := room - L) (by omega)).1
                    have YL := Lib.hid hyl
                    clear hys hyl
                    go_wp2_with fail
                    refine (push_i HI.out _ ra rl rc rx (RI.out _ HI.out.sy.old) hrc RM.out ((room : Int) - L) ys true (by rw [HLx.out]; have := FIT.out; omega) (by rw [HLx.out, YS.out]) (by rw [HLx.out]; simp; try omega)).mono ?_
                    rintro e w3 ⟨rfl, v3, hi3⟩
                    have HI3 := Lib.hid hi3
                    have cw3 := CF.out _ HI3.out.sy.old
                    clear hi3
                    go_wp2_with (at_builtin; refine wpList_push _ rfl (.tmp 135) (.tmp 141) 22 rfl w.heap.size 3 i0 Try.underlying22 INFO.out.1 INFO.out.2.1 INFO.out.2.2.1 INFO.out.2.2.2 _ L _ rfl (by have h := HI3.out.own; rw [HLx.out] at h; exact h) w.heap.size ra (room - L) rc ys rfl (by rw [YS.out]; exact (RI.out _ HI3.out.sy.old).take (by omega)) (by have := FIT.out; have := MOST.out; omega) HI3.out.sy.old.size ?_; intro v4 w4 ho hg hat; have HI4 := Lib.hid (HI3.out.append HLx.out.symm YL.out ho hg hat); obtain ⟨WA4, wc4, rfl⟩ := own_form ho; have cw4 := CF.out _ HI4.out.sy.old; clear ho hg hat cw3)
                    go_wp2_with (first | (go_at_call 10; refine (over_c _ HI4.out.sy.st).mono ?_; rintro e w' ⟨rfl, rfl⟩) | (go_at_call 11; refine (depth_v HI4.out ((L : Int) + (room - L : Nat)) (by rw [List.length_append, YL.out, HLx.out]; omega)).mono ?_; rintro e w' ⟨rfl, rfl⟩))
                    go_roundw
                    case rel => exact ⟨k + 1, l ++ ys, v3, true, by omega, by go_num, rfl, HI4.out⟩
                    case measure => simp [intOf]; omega
                  · obtain ⟨ys, hys⟩ : ∃ ys, ys = rx := ⟨_, rfl⟩
                    have YS := Lib.hid hys
                    have hyl : ys.length = rl := by rw [hys]; exact (RI.out _ (Below.refl _ _)).1
                    have YL := Lib.hid hyl
                    clear hys hyl
                    go_wp2_with fail
                    refine (push_i HI.out _ ra rl rc rx (RI.out _ HI.out.sy.old) hrc RM.out (rl : Int) ys false (by rw [HLx.out]; omega) (by rw [HLx.out, YS.out]; exact List.take_of_length_le (by rw [← YS.out, YL.out]; omega)) (by rw [HLx.out]; simp; try omega)).mono ?_
                    rintro e w3 ⟨rfl, v3, hi3⟩
                    have HI3 := Lib.hid hi3
                    have cw3 := CF.out _ HI3.out.sy.old
                    clear hi3
                    go_wp2_with (at_builtin; refine wpList_push _ rfl (.tmp 135) (.tmp 141) 22 rfl w.heap.size 3 i0 Try.underlying22 INFO.out.1 INFO.out.2.1 INFO.out.2.2.1 INFO.out.2.2.2 _ L _ rfl (by have h := HI3.out.own; rw [HLx.out] at h; exact h) w.heap.size ra rl rc ys rfl (by rw [YS.out]; exact RI.out _ HI3.out.sy.old) (by have := FIT.out; have := MOST.out; omega) HI3.out.sy.old.size ?_; intro v4 w4 ho hg hat; have HI4 := Lib.hid (HI3.out.append HLx.out.symm YL.out ho hg hat); obtain ⟨WA4, wc4, rfl⟩ := own_form ho; have cw4 := CF.out _ HI4.out.sy.old; clear ho hg hat cw3)
                    go_wp2_with (first | (go_at_call 10; refine (over_c _ HI4.out.sy.st).mono ?_; rintro e w' ⟨rfl, rfl⟩) | (go_at_call 11; refine (depth_v HI4.out ((L : Int) + rl) (by rw [List.length_append, YL.out, HLx.out]; omega)).mono ?_; rintro e w' ⟨rfl, rfl⟩))
                    go_roundw
                    case rel => exact ⟨k + 1, l ++ ys, v3, false, by omega, by go_num, rfl, HI4.out⟩
                    case measure => simp [intOf]; omega
                · skip
                  by_cases hk : (room : Int) - L < rl
                  · have q0 : 0 ≤ (room : Int) - L := by have := FIT.out; omega
                    have q1 : ((room : Int) - L).toNat = room - L := by omega
                    have q2 : (room : Int) - L ≤ rc := by omega
                    have q3 : room - L ≤ rc := by omega
                    obtain ⟨ys, hys⟩ : ∃ ys, ys = rx.take (room - L) := ⟨_, rfl⟩
                    have YS := Lib.hid hys
                    have hyl : ys.length = room - L := by rw [hys]; exact ((RI.out _ (Below.refl _ _)).take (k := room - L) (by omega)).1
                    have YL := Lib.hid hyl
                    clear hys hyl
                    go_wp2_with fail
                    refine (push_i HI.out _ ra rl rc rx (RI.out _ HI.out.sy.old) hrc RM.out ((room : Int) - L) ys true (by rw [HLx.out]; have := FIT.out; omega) (by rw [HLx.out, YS.out]) (by rw [HLx.out]; simp; try omega)).mono ?_
                    rintro e w3 ⟨rfl, v3, hi3⟩
                    have HI3 := Lib.hid hi3
                    have cw3 := CF.out _ HI3.out.sy.old
                    clear hi3
                    go_wp2_with (at_builtin; refine wpList_push _ rfl (.tmp 135) (.tmp 141) 22 rfl w.heap.size 3 i0 Try.underlying22 INFO.out.1 INFO.out.2.1 INFO.out.2.2.1 INFO.out.2.2.2 _ L _ rfl (by have h := HI3.out.own; rw [HLx.out] at h; exact h) w.heap.size ra (room - L) rc ys rfl (by rw [YS.out]; exact (RI.out _ HI3.out.sy.old).take (by omega)) (by have := FIT.out; have := MOST.out; omega) HI3.out.sy.old.size ?_; intro v4 w4 ho hg hat; have HI4 := Lib.hid (HI3.out.append HLx.out.symm YL.out ho hg hat); obtain ⟨WA4, wc4, rfl⟩ := own_form ho; have cw4 := CF.out _ HI4.out.sy.old; clear ho hg hat cw3)
                    go_wp2_with (first | (go_at_call 10; refine (over_c _ HI4.out.sy.st).mono ?_; rintro e w' ⟨rfl, rfl⟩) | (go_at_call 11; refine (depth_v HI4.out ((L : Int) + (room - L : Nat)) (by rw [List.length_append, YL.out, HLx.out]; omega)).mono ?_; rintro e w' ⟨rfl, rfl⟩))
                    go_roundw
                    case rel => exact ⟨k + 1, l ++ ys, v3, true, by omega, by go_num, rfl, HI4.out⟩
                    case measure => simp [intOf]; omega
                  · obtain ⟨ys, hys⟩ : ∃ ys, ys = rx := ⟨_, rfl⟩
                    have YS := Lib.hid hys
                    have hyl : ys.length = rl := by rw [hys]; exact (RI.out _ (Below.refl _ _)).1
                    have YL := Lib.hid hyl
                    clear hys hyl
                    go_wp2_with fail
                    refine (push_i HI.out _ ra rl rc rx (RI.out _ HI.out.sy.old) hrc RM.out (rl : Int) ys true (by rw [HLx.out]; omega) (by rw [HLx.out, YS.out]; exact List.take_of_length_le (by rw [← YS.out, YL.out]; omega)) (by rw [HLx.out]; simp; try omega)).mono ?_
                    rintro e w3 ⟨rfl, v3, hi3⟩
                    have HI3 := Lib.hid hi3
                    have cw3 := CF.out _ HI3.out.sy.old
                    clear hi3
                    go_wp2_with (at_builtin; refine wpList_push _ rfl (.tmp 135) (.tmp 141) 22 rfl w.heap.size 3 i0 Try.underlying22 INFO.out.1 INFO.out.2.1 INFO.out.2.2.1 INFO.out.2.2.2 _ L _ rfl (by have h := HI3.out.own; rw [HLx.out] at h; exact h) w.heap.size ra rl rc ys rfl (by rw [YS.out]; exact RI.out _ HI3.out.sy.old) (by have := FIT.out; have := MOST.out; omega) HI3.out.sy.old.size ?_; intro v4 w4 ho hg hat; have HI4 := Lib.hid (HI3.out.append HLx.out.symm YL.out ho hg hat); obtain ⟨WA4, wc4, rfl⟩ := own_form ho; have cw4 := CF.out _ HI4.out.sy.old; clear ho hg hat cw3)
                    go_wp2_with (first | (go_at_call 10; refine (over_c _ HI4.out.sy.st).mono ?_; rintro e w' ⟨rfl, rfl⟩) | (go_at_call 11; refine (depth_v HI4.out ((L : Int) + rl) (by rw [List.length_append, YL.out, HLx.out]; omega)).mono ?_; rintro e w' ⟨rfl, rfl⟩))
                    go_roundw
                    case rel => exact ⟨k + 1, l ++ ys, v3, true, by omega, by go_num, rfl, HI4.out⟩
                    case measure => simp [intOf]; omega
            · skip
              have HLx := HL
              have FIT : Hid (L ≤ room) := by have := HI.out.sy.st.fits; rw [HL.out] at this; exact this
              have MOST := Lib.hid HI.out.sy.st.most
              cases ov
              · skip
                by_cases hk : (room : Int) - L < rl
                · have q0 : 0 ≤ (room : Int) - L := by have := FIT.out; omega
                  have q1 : ((room : Int) - L).toNat = room - L := by omega
                  have q2 : (room : Int) - L ≤ rc := by omega
                  have q3 : room - L ≤ rc := by omega
                  obtain ⟨ys, hys⟩ : ∃ ys, ys = rx.take (room - L) := ⟨_, rfl⟩
                  have YS := Lib.hid hys
                  have hyl : ys.length = room - L := by rw [hys]; exact ((RI.out _ (Below.refl _ _)).take (k := room - L) (by omega)).1
                  have YL := Lib.hid hyl
                  clear hys hyl
                  go_wp2_with fail
                  refine (push_i HI.out _ ra rl rc rx (RI.out _ HI.out.sy.old) hrc RM.out ((room : Int) - L) ys true (by rw [HLx.out]; have := FIT.out; omega) (by rw [HLx.out, YS.out]) (by rw [HLx.out]; simp; try omega)).mono ?_
                  rintro e w3 ⟨rfl, v3, hi3⟩
                  have HI3 := Lib.hid hi3
                  have cw3 := CF.out _ HI3.out.sy.old
                  clear hi3
                  go_wp2_with (at_builtin; refine wpList_push _ rfl (.tmp 135) (.tmp 141) 22 rfl w.heap.size 3 i0 Try.underlying22 INFO.out.1 INFO.out.2.1 INFO.out.2.2.1 INFO.out.2.2.2 _ L _ rfl (by have h := HI3.out.own; rw [HLx.out] at h; exact h) w.heap.size ra (room - L) rc ys rfl (by rw [YS.out]; exact (RI.out _ HI3.out.sy.old).take (by omega)) (by have := FIT.out; have := MOST.out; omega) HI3.out.sy.old.size ?_; intro v4 w4 ho hg hat; have HI4 := Lib.hid (HI3.out.append HLx.out.symm YL.out ho hg hat); obtain ⟨WA4, wc4, rfl⟩ := own_form ho; have cw4 := CF.out _ HI4.out.sy.old; clear ho hg hat cw3)
                  go_wp2_with (first | (go_at_call 10; refine (over_c _ HI4.out.sy.st).mono ?_; rintro e w' ⟨rfl, rfl⟩) | (go_at_call 11; refine (depth_v HI4.out ((L : Int) + (room - L : Nat)) (by rw [List.length_append, YL.out, HLx.out]; omega)).mono ?_; rintro e w' ⟨rfl, rfl⟩))
                  go_roundw
                  case rel => exact ⟨k + 1, l ++ ys, v3, true, by omega, by go_num, rfl, HI4.out⟩
                  case measure => simp [intOf]; omega
                · obtain ⟨ys, hys⟩ : ∃ ys, ys = rx := ⟨_, rfl⟩
                  have YS := Lib.hid hys
                  have hyl : ys.length = rl := by rw [hys]; exact (RI.out _ (Below.refl _ _)).1
                  have YL := Lib.hid hyl
                  clear hys hyl
                  go_wp2_with fail
                  refine (push_i HI.out _ ra rl rc rx (RI.out _ HI.out.sy.old) hrc RM.out (rl : Int) ys false (by rw [HLx.out]; omega) (by rw [HLx.out, YS.out]; exact List.take_of_length_le (by rw [← YS.out, YL.out]; omega)) (by rw [HLx.out]; simp; try omega)).mono ?_
                  rintro e w3 ⟨rfl, v3, hi3⟩
                  have HI3 := Lib.hid hi3
                  have cw3 := CF.out _ HI3.out.sy.old
                  clear hi3
                  go_wp2_with (at_builtin; refine wpList_push _ rfl (.tmp 135) (.tmp 141) 22 rfl w.heap.size 3 i0 Try.underlying22 INFO.out.1 INFO.out.2.1 INFO.out.2.2.1 INFO.out.2.2.2 _ L _ rfl (by have h := HI3.out.own; rw [HLx.out] at h; exact h) w.heap.size ra rl rc ys rfl (by rw [YS.out]; exact RI.out _ HI3.out.sy.old) (by have := FIT.out; have := MOST.out; omega) HI3.out.sy.old.size ?_; intro v4 w4 ho hg hat; have HI4 := Lib.hid (HI3.out.append HLx.out.symm YL.out ho hg hat); obtain ⟨WA4, wc4, rfl⟩ := own_form ho; have cw4 := CF.out _ HI4.out.sy.old; clear ho hg hat cw3)
                  go_wp2_with (first | (go_at_call 10; refine (over_c _ HI4.out.sy.st).mono ?_; rintro e w' ⟨rfl, rfl⟩) | (go_at_call 11; refine (depth_v HI4.out ((L : Int) + rl) (by rw [List.length_append, YL.out, HLx.out]; omega)).mono ?_; rintro e w' ⟨rfl, rfl⟩))
                  go_roundw
                  case rel => exact ⟨k + 1, l ++ ys, v3, false, by omega, by go_num, rfl, HI4.out⟩
                  case measure => simp [intOf]; omega
              · skip
                by_cases hk : (room : Int) - L < rl
                · have q0 : 0 ≤ (room : Int) - L := by have := FIT.out; omega
                  have q1 : ((room : Int) - L).toNat = room - L := by omega
                  have q2 : (room : Int) - L ≤ rc := by omega
                  have q3 : room - L ≤ rc := by omega
                  obtain ⟨ys, hys⟩ : ∃ ys, ys = rx.take (room - L) := ⟨_, rfl⟩
                  have YS := Lib.hid hys
                  have hyl : ys.length = room - L := by rw [hys]; exact ((RI.out _ (Below.refl _ _)).take (k := room - L) (by omega)).1
                  have YL := Lib.hid hyl
                  clear hys hyl
                  go_wp2_with fail
                  refine (push_i HI.out _ ra rl rc rx (RI.out _ HI.out.sy.old) hrc RM.out ((room : Int) - L) ys true (by rw [HLx.out]; have := FIT.out; omega) (by rw [HLx.out, YS.out]) (by rw [HLx.out]; simp; try omega)).mono ?_
                  rintro e w3 ⟨rfl, v3, hi3⟩
                  have HI3 := Lib.hid hi3
                  have cw3 := CF.out _ HI3.out.sy.old
                  clear hi3
                  go_wp2_with (at_builtin; refine wpList_push _ rfl (.tmp 135) (.tmp 141) 22 rfl w.heap.size 3 i0 Try.underlying22 INFO.out.1 INFO.out.2.1 INFO.out.2.2.1 INFO.out.2.2.2 _ L _ rfl (by have h := HI3.out.own; rw [HLx.out] at h; exact h) w.heap.size ra (room - L) rc ys rfl (by rw [YS.out]; exact (RI.out _ HI3.out.sy.old).take (by omega)) (by have := FIT.out; have := MOST.out; omega) HI3.out.sy.old.size ?_; intro v4 w4 ho hg hat; have HI4 := Lib.hid (HI3.out.append HLx.out.symm YL.out ho hg hat); obtain ⟨WA4, wc4, rfl⟩ := own_form ho; have cw4 := CF.out _ HI4.out.sy.old; clear ho hg hat cw3)
                  go_wp2_with (first | (go_at_call 10; refine (over_c _ HI4.out.sy.st).mono ?_; rintro e w' ⟨rfl, rfl⟩) | (go_at_call 11; refine (depth_v HI4.out ((L : Int) + (room - L : Nat)) (by rw [List.length_append, YL.out, HLx.out]; omega)).mono ?_; rintro e w' ⟨rfl, rfl⟩))
                  go_roundw
                  case rel => exact ⟨k + 1, l ++ ys, v3, true, by omega, by go_num, rfl, HI4.out⟩
                  case measure => simp [intOf]; omega
                · obtain ⟨ys, hys⟩ : ∃ ys, ys = rx := ⟨_, rfl⟩
                  have YS := Lib.hid hys
                  have hyl : ys.length = rl := by rw [hys]; exact (RI.out _ (Below.refl _ _)).1
                  have YL := Lib.hid hyl
                  clear hys hyl
                  go_wp2_with fail
                  refine (push_i HI.out _ ra rl rc rx (RI.out _ HI.out.sy.old) hrc RM.out (rl : Int) ys true (by rw [HLx.out]; omega) (by rw [HLx.out, YS.out]; exact List.take_of_length_le (by rw [← YS.out, YL.out]; omega)) (by rw [HLx.out]; simp; try omega)).mono ?_
                  rintro e w3 ⟨rfl, v3, hi3⟩
                  have HI3 := Lib.hid hi3
                  have cw3 := CF.out _ HI3.out.sy.old
                  clear hi3
                  go_wp2_with (at_builtin; refine wpList_push _ rfl (.tmp 135) (.tmp 141) 22 rfl w.heap.size 3 i0 Try.underlying22 INFO.out.1 INFO.out.2.1 INFO.out.2.2.1 INFO.out.2.2.2 _ L _ rfl (by have h := HI3.out.own; rw [HLx.out] at h; exact h) w.heap.size ra rl rc ys rfl (by rw [YS.out]; exact RI.out _ HI3.out.sy.old) (by have := FIT.out; have := MOST.out; omega) HI3.out.sy.old.size ?_; intro v4 w4 ho hg hat; have HI4 := Lib.hid (HI3.out.append HLx.out.symm YL.out ho hg hat); obtain ⟨WA4, wc4, rfl⟩ := own_form ho; have cw4 := CF.out _ HI4.out.sy.old; clear ho hg hat cw3)
                  go_wp2_with (first | (go_at_call 10; refine (over_c _ HI4.out.sy.st).mono ?_; rintro e w' ⟨rfl, rfl⟩) | (go_at_call 11; refine (depth_v HI4.out ((L : Int) + rl) (by rw [List.length_append, YL.out, HLx.out]; omega)).mono ?_; rintro e w' ⟨rfl, rfl⟩))
                  go_roundw
                  case rel => exact ⟨k + 1, l ++ ys, v3, true, by omega, by go_num, rfl, HI4.out⟩
                  case measure => simp [intOf]; omega
        · obtain rfl : k = m := by omega
          obtain ⟨L, hL⟩ : ∃ L, L = l.length := ⟨_, rfl⟩
          obtain ⟨WA, wc, hvw, hcells⟩ := hi.form
          rw [← hL] at hvw hcells
          subst hvw
          have HL : Hid (l.length = L) := hL.symm
          have hLm : L ≤ 4096 := by have := hi.sy.st.fits; have := hi.sy.st.most; omega
          have hi' : Inv w wr w.heap.size v (.slice WA L wc) (l.take L) l room ov := by rw [List.take_of_length_le (by omega)]; exact hi
          have HI := Lib.hid hi'
          have hwa : 0 < L → ∃ b, WA = some ⟨b, 0, none⟩ ∧ L ≤ wc := fun h => by
            obtain ⟨b, e, hc, _⟩ := hcells h
            exact ⟨b, e, hc⟩
          have HWA := Lib.hid hwa
          clear hi hi' hL hcells hwa
          go_wp2_with fail
          go_loopw [13] (fun i wx => ∃ (j : Nat) (v : Value), j ≤ L ∧ i = .int .i64 ((j : Int) - 1) ∧ Inv w wx w.heap.size v (.slice WA L wc) (l.take j) l room ov) (fun i _ => (intOf i + 1).toNat)
          case atStart => exact ⟨L, v, Nat.le_refl _, rfl, HI.out⟩
          case round =>
            obtain ⟨j, v, hj, rfl, hs⟩ := hrel
            have HS := Lib.hid hs
            clear hs
            by_cases hlt : 0 < j
            · have q0 : 0 ≤ (j : Int) - 1 := by omega
              have q1 : ((j : Int) - 1).toNat = j - 1 := by omega
              have q2 : (j : Int) - 1 < L := by omega
              have q3 : j - 1 < L := by omega
              obtain ⟨b, rfl, hwc⟩ := HWA.out (by omega)
              obtain ⟨y, hy⟩ : ∃ y, y = l.getD (j - 1) 0 := ⟨_, rfl⟩
              have hl : l.length = L := HL.out
              have y1 : (l.take j).getD ((l.take j).length - 1) 0 = y := by
                rw [hy, List.length_take, Nat.min_eq_left (by omega)]
                simp [List.getD_eq_getElem?_getD, show j - 1 < j by omega]
              have y2 : (l.take j).take ((l.take j).length - 1) = l.take (j - 1) := by
                rw [List.length_take, Nat.min_eq_left (by omega), List.take_take, Nat.min_eq_left (by omega)]
              have y3 : 0 < (l.take j).length := by simp; omega
              have Y1 := Lib.hid y1
              have Y2 := Lib.hid y2
              have HY := Lib.hid hy
              clear hy hl y1 y2
              go_wp2_with (go_at_call 12; refine (pop_i HS.out y3 _ _ Y1.out Y2.out).mono ?_; rintro e w' ⟨rfl, v', hs'⟩; have hcell := hs'.cell (j := j - 1) HL.out (by omega); rw [← HY.out] at hcell; have HS' := Lib.hid hs'; clear hs')
              go_roundw
              case rel => exact ⟨j - 1, v', by omega, by rw [show ((j - 1 : Nat) : Int) = (j : Int) - 1 by omega], HS'.out⟩
              case measure => simp [intOf]; omega
            · obtain rfl : j = 0 := by omega
              have HZ0 : Hid ((l.take 0).length = 0) := by show (l.take 0).length = 0; rfl
              go_wp2_with (first | (go_at_call 12; with_reducible (first | refine (pop_zero HS.out HZ0.out).mono ?_ | refine (pop_nil _).mono ?_); rintro e w' ⟨rfl, rfl⟩) | (go_at_call 13; refine (reset_nil _).mono ?_; rintro e w' ⟨rfl, rfl⟩) | (go_at_call 9; refine (push_nil _ _ _ _).mono ?_; rintro e w' ⟨rfl, rfl⟩) | (go_at_call 10; refine (over_nil _).mono ?_; rintro e w' ⟨rfl, rfl⟩) | (go_at_call 11; refine (depth_nil _).mono ?_; rintro e w' ⟨rfl, rfl⟩) | (go_at_call 8; refine (awake_s w _ (HS.out.sy.old.alloc HS.out.sy.size _)).mono ?_; rintro e w' ⟨rfl, hb⟩; have HB := Lib.hid hb; clear hb))
              go_ret
              exact ⟨rfl, HB.out⟩
end Go.Proofs.Ytlnpngjdpalkdaa.Fns
