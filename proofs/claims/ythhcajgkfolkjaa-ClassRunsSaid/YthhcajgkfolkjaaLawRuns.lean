/- ClassRuns: the walk. -/
import Derived.Test.YthhcajgkfolkjaaSame
namespace Go.Proofs.Ythhcajgkfolkjaa.Fns
open Go Go.RowKit

theorem Run.drewN {w wr : World} {g : Nat} {va vw : Value} {la : List Cl} {lw : List Arg} (h : Run w wr g va la vw lw) (n : Nat) : Run w (wr.drewN n) g va la vw lw := h.below ⟨rfl, rfl, rfl, Nat.le_refl _, fun _ _ => rfl⟩
theorem add_field (ad : Addr) (i : Nat) : ad.add (i * 2 + 1) = ⟨(ad.add (i * 2)).block, (ad.add (i * 2)).off + 1, none⟩ := by
  unfold Addr.add
  by_cases h : i * 2 = 0
  · simp [h]
  · simp [h]; omega
set_option maxRecDepth 100000 in
set_option maxHeartbeats 20000000 in
theorem runs_law (A : Option Addr) (m c : Nat) (R : Nat → Arg) (x : Int) (w : World) (hr : (∀ i, i < m → ∃ ad, A = some ad ∧ ArgAt w w.heap.size ad i (R i)) ∧ m ≤ c ∧ c ≤ maxLen) (hx : (Lit.int .i64 x).wf = true) :
    Calls Try.prog 4 #[.slice A m c, .int .i64 x] w fun e w' => e = .returned (.bool true) ∧ Below w.heap.size w w' := by
  obtain ⟨x0, x1⟩ := bounds_i64 hx
  obtain ⟨hr, hm1, hm2⟩ := hr
  have HR := Lib.hid hr
  clear hr hx
  have hm3 : m ≤ 9223372036854775807 := by unfold maxLen at hm2; omega
  clear hm2
  by_cases hbig : 40 < m
  · have db : decide ((40 : Int) < (m : Int)) = true := by simp; omega
    have db2 : decide (40 < m) = true := by simp; omega
    go_enter Try.func4, Try.ntmps4
    go_wp2_with (first
      | (go_at_call 7; refine (new_c _).mono ?_; rintro e w1 ⟨rfl, ht, hb⟩; have HB1 := Lib.hid hb; clear ht hb)
      | (go_at_call 11; refine (awake_c _).mono ?_; rintro e w5 ⟨rfl, hb⟩; have HB5 := Lib.hid hb; clear hb))
    go_ret
    exact ⟨rfl, HB1.out.trans (HB5.out.mono HB1.out.size)⟩
  · have db : decide ((40 : Int) < (m : Int)) = false := by simp; omega
    have db2 : decide (40 < m) = false := by simp; omega
    obtain ⟨i0, hi0, hz0, hz1, hz2⟩ := info_parts info26
    have INFO := Lib.hid (And.intro hi0 (And.intro hz0 (And.intro hz1 hz2)))
    clear hi0 hz0 hz1 hz2
    go_enter Try.func4, Try.ntmps4
    go_wp2_with (first
      | (go_at_call 7; refine (new_c _).mono ?_; rintro e w1 ⟨rfl, ht, hb⟩; have HS := Lib.hid (Run.start ht hb); clear ht hb))
    go_loopw [6, 7, 8, 9] (fun vw i nv ev wr => ∃ (k : Nat) (va : Value) (la : List Cl) (lw : List Arg), k ≤ m ∧ i = .int .i64 (k : Int) ∧ lw.length ≤ k ∧ Run w wr w.heap.size va la vw lw) (fun _ i _ _ _ => m - (intOf i).toNat)
    case atStart => exact ⟨0, _, [], [], Nat.zero_le _, rfl, Nat.le_refl _, HS.out⟩
    case round =>
      obtain ⟨k, va, la, lw, hk, rfl, hlw, hs⟩ := hrel
      have HS2 := Lib.hid hs
      have HLW := Lib.hid hlw
      obtain ⟨W2, wc, rfl⟩ := hs.form
      clear hs
      by_cases hlt : k < m
      · have dj : decide ((k : Int) < (m : Int)) = true := by simp; omega
        have dj2 : decide (k < m) = true := by simp; omega
        obtain ⟨ad, rfl, ha⟩ := HR.out k hlt
        generalize R k = r at ha
        have HA := Lib.hid ha
        have hc0 := (ha.below HS2.out.old).c0
        have hc1 := (ha.below HS2.out.old).c1
        obtain ⟨rf, ra, rn, rc, rx⟩ := r
        simp only at hc0 hc1
        rw [add_field] at hc1
        have hcap : rn ≤ rc := ha.cap
        have hmost : rc ≤ 9223372036854775807 := ha.most
        clear ha
        have g1 : (0 : Int) ≤ (k : Int) := by omega
        have g2 : (k : Int) < (m : Int) := by omega
        by_cases h40 : 40 < rn
        · have e40 : decide ((40 : Int) < (rn : Int)) = true := by simp; omega
          have e402 : decide (40 < rn) = true := by simp; omega
          go_wp2_with (go_at_call 11; refine (awake_c _).mono ?_; rintro e w5 ⟨rfl, hb⟩; have HS5 := Lib.hid (HS2.out.below hb); clear hb)
          go_ret
          exact ⟨rfl, HS5.out.old⟩
        · have e40 : decide ((40 : Int) < (rn : Int)) = false := by simp; omega
          have e402 : decide (40 < rn) = false := by simp; omega
          by_cases hm : mayB rf rx = true
          · have HM := Lib.hid hm
            clear hm
            go_wp2_with (first
              | (go_at_call 8; refine (add_run wr HS2.out.ta HS2.out.old.size rf w.heap.size ra rn rc rx ((HA.out.below HS2.out.old).ints) HS2.out.old.size (by omega) HM.out (by have := HS2.out.len; omega) ((lw.length : Int) + 1) (by have := HS2.out.len; omega)).mono ?_; rintro e w3 ⟨rfl, va3, u3, ht, hfr, ho⟩; have HH3 := Lib.hid (HS2.out.add (r := ⟨rf, ra, rn, rc, rx⟩) rfl rfl ht hfr ho); have hc0 := (HA.out.below HH3.out.old).c0; have hc1 := (HA.out.below HH3.out.old).c1; rw [add_field] at hc1; simp only at hc0 hc1; clear ht hfr ho)
              | (go_at_call 12; refine (mayc_c w3 rf w.heap.size ra rn rc rx true ((HA.out.below HH3.out.old).ints) HH3.out.old.size (by omega) HM.out).mono ?_; rintro e w4 ⟨rfl, hb⟩; have HH4 := Lib.hid (HH3.out.below hb); have hc0 := (HA.out.below HH4.out.old).c0; have hc1 := (HA.out.below HH4.out.old).c1; rw [add_field] at hc1; simp only at hc0 hc1; clear hb)
              | (at_builtin; refine wpList_app _ rfl (.tmp 57) (.tmp 62) 27 rfl w.heap.size 26 i0 _ 2 32 Try.underlying27 INFO.out.1 INFO.out.2.1 INFO.out.2.2.1 INFO.out.2.2.2 rfl (by omega) _ lw.length (argCells lw) rfl (HH4.out.ow.alloc _) ⟨w4.heap.size, 0, none⟩ 1 1 [.int .i64 rf, .slice ra rn rc] rfl rfl (two_cells _ _ _ _) (by simp [Value.oneCell']) (by unfold maxLen; omega) (by omega) (Nat.le_trans HH4.out.old.size (by simp)) ?_
                 intro v5 w5 ho hg hw
                 obtain ⟨A5, c5, rfl⟩ := form2 ho
                 have HR5 := Lib.hid (HH4.out.push ho rfl hg hw ⟨HA.out.ints, by simp only; omega⟩)
                 clear ho hg hw)
              | (go_at_call 9; refine (err_c _ _).mono ?_; rintro e w' ⟨rfl, rfl⟩))
            go_roundw
            case rel => exact ⟨k + 1, va3, _, _, by omega, by go_num, by simp; omega, HR5.out⟩
            case measure => simp [intOf]; omega
          · have hm' : mayB rf rx = false := by simpa using hm
            have HM := Lib.hid hm'
            clear hm hm'
            go_wp2_with (first
              | (go_at_call 8; refine (add_bad wr _ rf w.heap.size ra rn rc rx ((HA.out.below HS2.out.old).ints) HS2.out.old.size (by omega) HM.out).mono ?_; rintro e w3 ⟨rfl, hb⟩; have HH3 := Lib.hid (HS2.out.below hb); have hc0 := (HA.out.below HH3.out.old).c0; have hc1 := (HA.out.below HH3.out.old).c1; rw [add_field] at hc1; simp only at hc0 hc1; clear hb)
              | (go_at_call 12; refine (mayc_c w3 rf w.heap.size ra rn rc rx false ((HA.out.below HH3.out.old).ints) HH3.out.old.size (by omega) HM.out).mono ?_; rintro e w4 ⟨rfl, hb⟩; have HH4 := Lib.hid (HH3.out.below hb); clear hb)
              | (go_at_call 9; refine (err_c _ _).mono ?_; rintro e w' ⟨rfl, rfl⟩))
            go_roundw
            case rel => exact ⟨k + 1, va, _, _, by omega, by go_num, by omega, HH4.out⟩
            case measure => simp [intOf]; omega
      · obtain rfl : k = m := by omega
        have dj : decide ((k : Int) < (k : Int)) = false := by simp
        go_wp2
        go_loopw [10, 11, 12] (fun i cv ev wr => ∃ (q : Nat), q ≤ lw.length ∧ i = .int .i64 (q : Int) ∧ Run w wr w.heap.size va la (.slice W2 lw.length wc) lw) (fun i _ _ _ => lw.length - (intOf i).toNat)
        case atStart => exact ⟨0, Nat.zero_le _, rfl, HS2.out⟩
        case round =>
          obtain ⟨q, hq, rfl, hs⟩ := hrel
          have HS3 := Lib.hid hs
          clear hs
          by_cases hq2 : q < lw.length
          · have dq : decide ((q : Int) < (lw.length : Int)) = true := by simp; omega
            have dq2 : decide (q < lw.length) = true := by simp; omega
            obtain ⟨b, rfl⟩ := HS3.out.block (by omega)
            obtain ⟨r, hr⟩ : ∃ r, lw[q]? = some r := ⟨lw[q], List.getElem?_eq_getElem hq2⟩
            obtain ⟨cl, hcl, hclf, hclx⟩ := HS3.out.at q r hr
            obtain ⟨hri, hrn⟩ := HS3.out.args r (List.mem_of_getElem? hr)
            obtain ⟨rf, ra, rn, rc, rx⟩ := r
            obtain ⟨cf, cv, cx⟩ := cl
            simp only at hclf hclx hri hrn
            subst hclf
            subst hclx
            have HRI := Lib.hid hri
            have HRR := Lib.hid hr
            have HCL := Lib.hid hcl
            have hcn : cx.length = rn := hri.1
            subst hcn
            clear hri hr hcl
            have g1 : (0 : Int) ≤ (q : Int) := by omega
            have g2 : (q : Int) < (lw.length : Int) := by omega
            go_wp2_with (first
              | (go_at_call 13; refine (class_ok wr HS3.out.ta q _ HCL.out (by have := HS3.out.len; omega) (by simp only; omega) _ rfl).mono ?_; rintro e w7 ⟨u7, rfl, ho, hb⟩; obtain ⟨A7, c7, rfl⟩ := own_form ho; have HG7 := Lib.hid (got_new w7 _ _ c7 A7 cf cx ho); have HS7 := Lib.hid ((HS3.out.below hb).below HG7.out.2); have k0 := HG7.out.1.c0; have k1 := HG7.out.1.c1; have e0 := (HS7.out.elem q _ HRR.out).1; have e1 := (HS7.out.elem q _ HRR.out).2; clear ho hb))
            have HQ := Lib.hid (fun n => Calls.quiet_of (n := n) (same_q ((w7.alloc (.cells #[.int .i64 cf, .slice A7 cx.length c7] 26)).drewN n) _ _ A7 ra _ _ c7 rc cx cx true (HG7.out.1.ints.drewN n) ((HRI.out.below HS7.out.old (Nat.le_refl _)).drewN n) (by omega) (by omega) (by simp)))
            go_quiet (first
              | (go_at_call 9; exact Calls.quiet_of_same ((err_c _ _).mono fun _ _ h => ⟨h.1, h.2.symm⟩))
              | (go_at_call 14; exact HQ.out _))
            go_wp2
            go_roundw
            case rel => exact ⟨q + 1, by omega, by go_num, HS7.out.drewN _⟩
            case measure => simp [intOf]; omega
          · obtain rfl : q = lw.length := by omega
            have dq : decide ((lw.length : Int) < (lw.length : Int)) = false := by simp
            have HLL := Lib.hid HS3.out.len
            have ex : (decide (x < 1) = true) ∨ (decide (x < 1) = false ∧ decide ((lw.length : Int) < x) = true) ∨ (decide (x < 1) = false ∧ decide ((lw.length : Int) < x) = false) := by
              by_cases h1 : x < 1
              · left; simpa using h1
              · by_cases h2 : (lw.length : Int) < x
                · right; left; exact ⟨by simpa using h1, by simpa using h2⟩
                · right; right; exact ⟨by simpa using h1, by simpa using h2⟩
            rcases ex with d1 | ⟨d1, d2⟩ | ⟨d1, d2⟩
            · go_wp2_with (first
                | (go_at_call 13; refine (class_none wr HS3.out.ta x (Or.inl (of_decide_eq_true d1))).mono ?_; rintro e w7 ⟨rfl, hb⟩; have HS7 := Lib.hid ((HS3.out.below hb).below (w' := w7.alloc (.cells #[.int .i64 0, .slice none 0 0] 26)) ((Below.refl _ _).alloc (Nat.le_refl _) _)); have k0 := cell_of_row _ _ 0 _ _ _ (heap_alloc_new w7 (.cells #[.int .i64 0, .slice none 0 0] 26)); have k1 := cell_of_row _ _ 1 _ _ _ (heap_alloc_new w7 (.cells #[.int .i64 0, .slice none 0 0] 26)); clear hb)
                | (go_at_call 9; refine (err_c _ _).mono ?_; rintro e w' ⟨rfl, rfl⟩)
                | (go_at_call 10; refine (classes_c _ HS7.out.ta (lw.length : Int) (by rw [HLL.out])).mono ?_; rintro e w' ⟨rfl, rfl⟩)
                | (go_at_call 11; refine (awake_c _).mono ?_; rintro e w11 ⟨rfl, hb⟩; have HS11 := Lib.hid (HS7.out.below hb); clear hb))
              go_ret
              exact ⟨rfl, HS11.out.old⟩
            · go_wp2_with (first
                | (go_at_call 13; refine (class_none wr HS3.out.ta x (Or.inr (by rw [HLL.out]; exact of_decide_eq_true d2))).mono ?_; rintro e w7 ⟨rfl, hb⟩; have HS7 := Lib.hid ((HS3.out.below hb).below (w' := w7.alloc (.cells #[.int .i64 0, .slice none 0 0] 26)) ((Below.refl _ _).alloc (Nat.le_refl _) _)); have k0 := cell_of_row _ _ 0 _ _ _ (heap_alloc_new w7 (.cells #[.int .i64 0, .slice none 0 0] 26)); have k1 := cell_of_row _ _ 1 _ _ _ (heap_alloc_new w7 (.cells #[.int .i64 0, .slice none 0 0] 26)); clear hb)
                | (go_at_call 9; refine (err_c _ _).mono ?_; rintro e w' ⟨rfl, rfl⟩)
                | (go_at_call 10; refine (classes_c _ HS7.out.ta (lw.length : Int) (by rw [HLL.out])).mono ?_; rintro e w' ⟨rfl, rfl⟩)
                | (go_at_call 11; refine (awake_c _).mono ?_; rintro e w11 ⟨rfl, hb⟩; have HS11 := Lib.hid (HS7.out.below hb); clear hb))
              go_ret
              exact ⟨rfl, HS11.out.old⟩
            · have h1 := of_decide_eq_false d1
              have h2 := of_decide_eq_false d2
              obtain ⟨r, hr⟩ : ∃ r, lw[(x - 1).toNat]? = some r := ⟨lw[(x - 1).toNat]'(by omega), List.getElem?_eq_getElem _⟩
              obtain ⟨cl, hcl, hclf, hclx⟩ := HS3.out.at _ r hr
              obtain ⟨hri, hrn⟩ := HS3.out.args r (List.mem_of_getElem? hr)
              have hxn : cl.xs.length ≤ 100000 := by rw [hclx, hri.1]; omega
              have HCL := Lib.hid hcl
              have HXN := Lib.hid hxn
              have HX1 := Lib.hid (show x = (((x - 1).toNat : Nat) : Int) + 1 by omega)
              clear hr hcl hclf hclx hri hrn hxn
              go_wp2_with (first
                | (go_at_call 13; refine (class_ok wr HS3.out.ta (x - 1).toNat cl HCL.out (by have := HLL.out; omega) HXN.out x HX1.out).mono ?_; rintro e w7 ⟨u7, rfl, ho, hb⟩; obtain ⟨A7, c7, rfl⟩ := own_form ho; have HS7 := Lib.hid ((HS3.out.below hb).below (w' := w7.alloc (.cells #[.int .i64 cl.f, .slice A7 cl.xs.length c7] 26)) ((Below.refl _ _).alloc (Nat.le_refl _) _)); clear ho hb)
                | (go_at_call 9; refine (err_c _ _).mono ?_; rintro e w' ⟨rfl, rfl⟩)
                | (go_at_call 10; refine (classes_c _ HS7.out.ta (lw.length : Int) (by rw [HLL.out])).mono ?_; rintro e w' ⟨rfl, rfl⟩)
                | (go_at_call 11; refine (awake_c _).mono ?_; rintro e w11 ⟨rfl, hb⟩; have HS11 := Lib.hid (HS7.out.below hb); clear hb))
              go_ret
              exact ⟨rfl, HS11.out.old⟩
end Go.Proofs.Ythhcajgkfolkjaa.Fns
