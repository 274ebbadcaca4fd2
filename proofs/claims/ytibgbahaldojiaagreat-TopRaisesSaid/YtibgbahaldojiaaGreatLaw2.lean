/- The law's walk. -/
import Derived.Test.YtibgbahaldojiaaGreatLaw
namespace Go.Proofs.YtibgbahaldojiaaGreat.Fns
open Go Go.RowKit
set_option maxRecDepth 100000 in
set_option maxHeartbeats 16000000 in
theorem raises_core [Base] (n x : Int) (w : World) (hB : Base.B ≤ w.heap.size) (n0 : 0 ≤ n) (n1 : n ≤ 255) :
    Calls Tryz.prog 3 #[.int .u8 n, .int .i64 x] w fun e w' => e = .returned (.bool true) ∧ Below Base.B w w' := by
  obtain ⟨k, hk, k1, k2⟩ : ∃ k : Nat, 1 + n % 12 = (k : Int) ∧ 1 ≤ k ∧ k ≤ 12 := ⟨(1 + n % 12).toNat, by omega, by omega, by omega⟩
  go_enter Tryz.func3, Tryz.ntmps3
  go_upto_region 5 with (first
    | (go_at_call 4; refine (rtNew_c _ hB 30 1 1 (by decide) (by decide) (by decide) (by decide) (by decide)).mono ?_; rintro e w1 ⟨b, rfl, hh, hb⟩; have HR := Lib.hid hh; have HA1 := Lib.hid (show At w1 b.r (s0 30 1 ((1 : Nat) : Int)) from ⟨b, rfl, hh⟩); have HK1 := Lib.hid (Keep.of_below hb); clear hh hb)
    | (go_at_call 5; refine (whole21_c _ b _ HR.out).mono ?_; rintro e w' ⟨rfl, rfl⟩)
    | (go_at_call 6; refine (err_c _ _).mono ?_; rintro e w' ⟨rfl, rfl⟩))
  clear HR hk n0 n1
  generalize b.r = r at HA1 ⊢
  have DA := Lib.hid (first_do r)
  have DB := Lib.hid (put_do r x)
  go_upto_region 6 with (go_at_call 7; refine (DA.out _ HA1.out).mono ?_; rintro e v2 ⟨rfl, ha, hkp⟩; have HA2 := Lib.hid (ha.below (below31 v2 (.int .i64 0) (.int .i64 512))); have HG8 := Lib.hid (HK1.out.trans hkp).1; have HK2 := Lib.hid ((HK1.out.trans hkp).trans (keep31 v2 (.int .i64 0) (.int .i64 512))); have Rg8_2 := Lib.hid (row31 v2 (.int .i64 0) (.int .i64 512)); clear ha hkp)
  generalize v2.alloc (.cells #[(.int .i64 0), (.int .i64 512)] 31) = W2 at HA2 HK2 Rg8_2 ⊢
  generalize v2.heap.size = g8 at HG8 Rg8_2 ⊢
  clear HA1 HK1
  obtain ⟨cg80, cg81, xg80, xg81⟩ := row_in Rg8_2.out
  go_upto_region 7 with (go_at_call 7; refine (DB.out _ HA2.out).mono ?_; rintro e v3 ⟨rfl, ha, hkp⟩; have HA3 := Lib.hid ha; have HK3 := Lib.hid (HK2.out.trans hkp); have Rg8_3 := Lib.hid (hkp.row31 Rg8_2.out); clear ha hkp)
  clear HA2 HK2 Rg8_2
  clear cg80 cg81 xg80 xg81
  clear DA DB
  go_wp2_with fail
  go_loopw [10, 11, 12, 9] (fun _ _ _ iv wr => ∃ j q s z, j ≤ k ∧ iv = .int .i64 ((j : Nat) : Int) ∧ Li s j q x ∧ tell s.T q = z ∧ At wr r s ∧ wr.heap[g8]? = some (.cells #[.int .i64 0, .int .i64 z] 31 (0, 0)) ∧ Keep w wr) (fun _ _ _ iv _ => k - (intOf iv).toNat)
  case atStart => exact ⟨0, 0, a2 x, 512, Nat.zero_le _, rfl, Li.first x, by show ((0 : Nat) : Int) + 512 * (0 + 1) = 512; decide, HA3.out, Rg8_3.out, HK3.out⟩
  case round =>
    obtain ⟨j, q, s, z, hj, rfl, L, hz, ha, hr, hkp⟩ := hrel
    have HA4 := Lib.hid ha
    have Rg8_4 := Lib.hid hr
    have HK4 := Lib.hid hkp
    clear ha hr hkp HA3 HK3 Rg8_3
    by_cases hlt : j < k
    · have d1 : decide ((j : Int) < (k : Int)) = true := by simp; omega
      obtain ⟨z2, sA, sB, sC, D1, D2, D3, L2, hz2⟩ := round_do r L (by omega) z hz
      have D1 := Lib.hid D1
      have D2 := Lib.hid D2
      have D3 := Lib.hid D3
      have L2 := Lib.hid L2
      have HZ2 := Lib.hid hz2
      clear L hz hz2
      go_upto_region 11 with (go_at_call 7; refine (D1.out _ HA4.out).mono ?_; rintro e v5 ⟨rfl, ha, hkp⟩; have HA5 := Lib.hid (ha.below (below31 v5 (.int .i64 0) (.int .i64 z2))); have HK5 := Lib.hid ((HK4.out.trans hkp).trans (keep31 v5 (.int .i64 0) (.int .i64 z2))); have Rg10_5 := Lib.hid (row31 v5 (.int .i64 0) (.int .i64 z2)); have Rg8_5 := Lib.hid ((keep31 v5 (.int .i64 0) (.int .i64 z2)).row31 (hkp.row31 Rg8_4.out)); clear ha hkp)
      generalize v5.alloc (.cells #[(.int .i64 0), (.int .i64 z2)] 31) = W5 at HA5 HK5 Rg10_5 Rg8_5 ⊢
      generalize v5.heap.size = g10 at Rg10_5 ⊢
      clear HA4 HK4 Rg8_4
      obtain ⟨cg80, cg81, xg80, xg81⟩ := row_in Rg8_5.out
      obtain ⟨cg100, cg101, xg100, xg101⟩ := row_in Rg10_5.out
      go_upto_region 12 with (go_at_call 7; refine (D2.out _ HA5.out).mono ?_; rintro e v6 ⟨rfl, ha, hkp⟩; have HA6 := Lib.hid (ha.below (below31 v6 (.int .i64 0) (.int .i64 0))); have HK6 := Lib.hid ((HK5.out.trans hkp).trans (keep31 v6 (.int .i64 0) (.int .i64 0))); have Rg11_6 := Lib.hid (row31 v6 (.int .i64 0) (.int .i64 0)); have Rg8_6 := Lib.hid ((keep31 v6 (.int .i64 0) (.int .i64 0)).row31 (hkp.row31 Rg8_5.out)); have Rg10_6 := Lib.hid ((keep31 v6 (.int .i64 0) (.int .i64 0)).row31 (hkp.row31 Rg10_5.out)); clear ha hkp)
      generalize v6.alloc (.cells #[(.int .i64 0), (.int .i64 0)] 31) = W6 at HA6 HK6 Rg11_6 Rg8_6 Rg10_6 ⊢
      generalize v6.heap.size = g11 at Rg11_6 ⊢
      clear HA5 HK5 Rg8_5 Rg10_5
      clear cg80 cg81 xg80 xg81
      clear cg100 cg101 xg100 xg101
      obtain ⟨cg80, cg81, xg80, xg81⟩ := row_in Rg8_6.out
      go_upto_region 13 with (go_at_call 7; refine (D3.out _ HA6.out).mono ?_; rintro e v7 ⟨rfl, ha, hkp⟩; have HA7 := Lib.hid (ha.below (below31 v7 (.int .i64 0) (.int .i64 0))); have HK7 := Lib.hid ((HK6.out.trans hkp).trans (keep31 v7 (.int .i64 0) (.int .i64 0))); have Rg12_7 := Lib.hid (row31 v7 (.int .i64 0) (.int .i64 0)); have Rg8_7 := Lib.hid ((keep31 v7 (.int .i64 0) (.int .i64 0)).row31 (hkp.row31 Rg8_6.out)); have Rg10_7 := Lib.hid ((keep31 v7 (.int .i64 0) (.int .i64 0)).row31 (hkp.row31 Rg10_6.out)); have Rg11_7 := Lib.hid ((keep31 v7 (.int .i64 0) (.int .i64 0)).row31 (hkp.row31 Rg11_6.out)); clear ha hkp)
      generalize v7.alloc (.cells #[(.int .i64 0), (.int .i64 0)] 31) = W7 at HA7 HK7 Rg12_7 Rg8_7 Rg10_7 Rg11_7 ⊢
      generalize v7.heap.size = g12 at Rg12_7 ⊢
      clear HA6 HK6 Rg8_6 Rg10_6 Rg11_6
      clear cg80 cg81 xg80 xg81
      obtain ⟨cg80, cg81, xg80, xg81⟩ := row_in Rg8_7.out
      obtain ⟨cg100, cg101, xg100, xg101⟩ := row_in Rg10_7.out
      obtain ⟨cg110, cg111, xg110, xg111⟩ := row_in Rg11_7.out
      obtain ⟨cg120, cg121, xg120, xg121⟩ := row_in Rg12_7.out
      go_quiet ((go_at_call 6; exact Calls.quiet_of_same ((err_c _ _).mono fun _ _ ⟨h1, h2⟩ => ⟨h1, h2.symm⟩)))
      go_wp2_with fail
      obtain ⟨t1, t2, t3⟩ := turn31 (HA7.out.drewN nq) (HK7.out.drewN nq) HG8.out Rg8_7.out (.int .i64 0) (.int .i64 z2)
      refine ⟨⟨j + 1, 1 - q, sC, z2, by omega, by go_num, L2.out, HZ2.out, t1, t3, t2⟩, by simp [intOf]; omega⟩
    · obtain rfl : j = k := by omega
      have d1 : decide ((j : Int) < (j : Int)) = false := by simp
      obtain ⟨z2, t1, t2, t3, t4, t5, D1, D2, D3, D4, D5, D6, y, t, hy0, ht0, DG, hy, DL⟩ := rest_do r L k1 z hz
      subst hy0 ht0
      have D1 := Lib.hid D1
      have D2 := Lib.hid D2
      have D3 := Lib.hid D3
      have D4 := Lib.hid D4
      have D5 := Lib.hid D5
      have D6 := Lib.hid D6
      have DG := Lib.hid DG
      have DL := Lib.hid DL
      have HY := Lib.hid hy
      clear L hz hy
      obtain ⟨cg80, cg81, xg80, xg81⟩ := row_in Rg8_4.out
      go_upto_region 17 with (go_at_call 7; refine (D1.out _ HA4.out).mono ?_; rintro e v5 ⟨rfl, ha, hkp⟩; have HA5 := Lib.hid (ha.below (below31 v5 (.int .i64 0) (.int .i64 0))); have HK5 := Lib.hid ((HK4.out.trans hkp).trans (keep31 v5 (.int .i64 0) (.int .i64 0))); have Rg13_5 := Lib.hid (row31 v5 (.int .i64 0) (.int .i64 0)); have Rg8_5 := Lib.hid ((keep31 v5 (.int .i64 0) (.int .i64 0)).row31 (hkp.row31 Rg8_4.out)); clear ha hkp)
      generalize v5.alloc (.cells #[(.int .i64 0), (.int .i64 0)] 31) = W5 at HA5 HK5 Rg13_5 Rg8_5 ⊢
      generalize v5.heap.size = g13 at Rg13_5 ⊢
      clear HA4 HK4 Rg8_4
      clear cg80 cg81 xg80 xg81
      obtain ⟨cg80, cg81, xg80, xg81⟩ := row_in Rg8_5.out
      go_upto_region 18 with (go_at_call 7; refine (D2.out _ HA5.out).mono ?_; rintro e v6 ⟨rfl, ha, hkp⟩; have HA6 := Lib.hid ha; have HK6 := Lib.hid (HK5.out.trans hkp); have Rg13_6 := Lib.hid (hkp.row31 Rg13_5.out); clear ha hkp)
      clear HA5 HK5 Rg13_5
      clear cg80 cg81 xg80 xg81
      go_upto_region 19 with (go_at_call 7; refine (D3.out _ HA6.out).mono ?_; rintro e v7 ⟨rfl, ha, hkp⟩; have HA7 := Lib.hid (ha.below (below31 v7 (.int .i64 0) (.int .i64 0))); have HK7 := Lib.hid ((HK6.out.trans hkp).trans (keep31 v7 (.int .i64 0) (.int .i64 0))); have Rg14_7 := Lib.hid (row31 v7 (.int .i64 0) (.int .i64 0)); have Rg13_7 := Lib.hid ((keep31 v7 (.int .i64 0) (.int .i64 0)).row31 (hkp.row31 Rg13_6.out)); clear ha hkp)
      generalize v7.alloc (.cells #[(.int .i64 0), (.int .i64 0)] 31) = W7 at HA7 HK7 Rg14_7 Rg13_7 ⊢
      generalize v7.heap.size = g14 at Rg14_7 ⊢
      clear HA6 HK6 Rg13_6
      go_upto_region 20 with (go_at_call 7; refine (D4.out _ HA7.out).mono ?_; rintro e v8 ⟨rfl, ha, hkp⟩; have HA8 := Lib.hid (ha.below (below31 v8 (.int .i64 0) (.int .i64 (y 0)))); have HK8 := Lib.hid ((HK7.out.trans hkp).trans (keep31 v8 (.int .i64 0) (.int .i64 (y 0)))); have Rg15_8 := Lib.hid (row31 v8 (.int .i64 0) (.int .i64 (y 0))); have Rg13_8 := Lib.hid ((keep31 v8 (.int .i64 0) (.int .i64 (y 0))).row31 (hkp.row31 Rg13_7.out)); have Rg14_8 := Lib.hid ((keep31 v8 (.int .i64 0) (.int .i64 (y 0))).row31 (hkp.row31 Rg14_7.out)); clear ha hkp)
      generalize v8.alloc (.cells #[(.int .i64 0), (.int .i64 (y 0))] 31) = W8 at HA8 HK8 Rg15_8 Rg13_8 Rg14_8 ⊢
      generalize v8.heap.size = g15 at Rg15_8 ⊢
      clear HA7 HK7 Rg13_7 Rg14_7
      obtain ⟨cg150, cg151, xg150, xg151⟩ := row_in Rg15_8.out
      go_upto_region 21 with (go_at_call 7; refine (D5.out _ HA8.out).mono ?_; rintro e v9 ⟨rfl, ha, hkp⟩; have HA9 := Lib.hid (ha.below (below31 v9 (.int .i64 4) (.int .i64 0))); have HK9 := Lib.hid ((HK8.out.trans hkp).trans (keep31 v9 (.int .i64 4) (.int .i64 0))); have Rg16_9 := Lib.hid (row31 v9 (.int .i64 4) (.int .i64 0)); have Rg13_9 := Lib.hid ((keep31 v9 (.int .i64 4) (.int .i64 0)).row31 (hkp.row31 Rg13_8.out)); have Rg14_9 := Lib.hid ((keep31 v9 (.int .i64 4) (.int .i64 0)).row31 (hkp.row31 Rg14_8.out)); have Rg15_9 := Lib.hid ((keep31 v9 (.int .i64 4) (.int .i64 0)).row31 (hkp.row31 Rg15_8.out)); clear ha hkp)
      generalize v9.alloc (.cells #[(.int .i64 4), (.int .i64 0)] 31) = W9 at HA9 HK9 Rg16_9 Rg13_9 Rg14_9 Rg15_9 ⊢
      generalize v9.heap.size = g16 at Rg16_9 ⊢
      clear HA8 HK8 Rg13_8 Rg14_8 Rg15_8
      clear cg150 cg151 xg150 xg151
      go_upto_region 22 with (go_at_call 7; refine (D6.out _ HA9.out).mono ?_; rintro e v10 ⟨rfl, ha, hkp⟩; have HA10 := Lib.hid (ha.below (below31 v10 (.int .i64 0) (.int .i64 0))); have HK10 := Lib.hid ((HK9.out.trans hkp).trans (keep31 v10 (.int .i64 0) (.int .i64 0))); have Rg17_10 := Lib.hid (row31 v10 (.int .i64 0) (.int .i64 0)); have Rg13_10 := Lib.hid ((keep31 v10 (.int .i64 0) (.int .i64 0)).row31 (hkp.row31 Rg13_9.out)); have Rg14_10 := Lib.hid ((keep31 v10 (.int .i64 0) (.int .i64 0)).row31 (hkp.row31 Rg14_9.out)); have Rg15_10 := Lib.hid ((keep31 v10 (.int .i64 0) (.int .i64 0)).row31 (hkp.row31 Rg15_9.out)); have Rg16_10 := Lib.hid ((keep31 v10 (.int .i64 0) (.int .i64 0)).row31 (hkp.row31 Rg16_9.out)); clear ha hkp)
      generalize v10.alloc (.cells #[(.int .i64 0), (.int .i64 0)] 31) = W10 at HA10 HK10 Rg17_10 Rg13_10 Rg14_10 Rg15_10 Rg16_10 ⊢
      generalize v10.heap.size = g17 at Rg17_10 ⊢
      clear HA9 HK9 Rg13_9 Rg14_9 Rg15_9 Rg16_9
      obtain ⟨cg130, cg131, xg130, xg131⟩ := row_in Rg13_10.out
      obtain ⟨cg140, cg141, xg140, xg141⟩ := row_in Rg14_10.out
      obtain ⟨cg150, cg151, xg150, xg151⟩ := row_in Rg15_10.out
      obtain ⟨cg160, cg161, xg160, xg161⟩ := row_in Rg16_10.out
      obtain ⟨cg170, cg171, xg170, xg171⟩ := row_in Rg17_10.out
      go_quiet ((go_at_call 6; exact Calls.quiet_of_same ((err_c _ _).mono fun _ _ ⟨h1, h2⟩ => ⟨h1, h2.symm⟩)))
      have HA11 := Lib.hid (HA10.out.drewN nq)
      have HK11 := Lib.hid (HK10.out.drewN nq)
      have Rg15_11 := Lib.hid (show (W10.drewN nq).heap[g15]? = _ from Rg15_10.out)
      clear cg130 cg131 xg130 xg131
      clear cg140 cg141 xg140 xg141
      clear cg150 cg151 xg150 xg151
      clear cg160 cg161 xg160 xg161
      clear cg170 cg171 xg170 xg171
      generalize W10.drewN nq = W11 at HA11 HK11 Rg15_11 ⊢
      clear HA10 HK10 Rg13_10 Rg14_10 Rg15_10 Rg16_10
      have HG18 := Lib.hid HK11.out.1
      have HA12 := Lib.hid (HA11.out.below (below31 W11 (.int .i64 0) (.int .i64 (y 0))))
      have HK12 := Lib.hid (HK11.out.trans (keep31 W11 (.int .i64 0) (.int .i64 (y 0))))
      have Rg18_12 := Lib.hid (row31 W11 (.int .i64 0) (.int .i64 (y 0)))
      obtain ⟨cg150, cg151, xg150, xg151⟩ := row_in Rg15_11.out
      go_upto_region 25 with fail
      clear cg150 cg151 xg150 xg151
      generalize W11.alloc (.cells #[(.int .i64 0), (.int .i64 (y 0))] 31) = W12 at HA12 HK12 Rg18_12 ⊢
      generalize W11.heap.size = g18 at HG18 Rg18_12 ⊢
      clear HA11 HK11 Rg15_11
      go_wp2_with fail
      go_loopw [19] (fun iv wx => ∃ i : Nat, i ≤ j ∧ iv = .int .i64 (i : Int) ∧ At wx r (t i) ∧ wx.heap[g18]? = some (.cells #[.int .i64 0, .int .i64 (y i)] 31 (0, 0)) ∧ Keep w wx) (fun iv _ => j - (intOf iv).toNat)
      case atStart => exact ⟨0, Nat.zero_le _, rfl, HA12.out, Rg18_12.out, HK12.out⟩
      case round =>
        obtain ⟨i, hi, rfl, ha, hr, hkp⟩ := hrel
        have HA13 := Lib.hid ha
        have Rg18_13 := Lib.hid hr
        have HK13 := Lib.hid hkp
        clear ha hr hkp HA12 HK12 Rg18_12
        by_cases hlt : i < j
        · have d2 : decide ((i : Int) < (j : Int)) = true := by simp; omega
          have D := Lib.hid (DG.out i hlt)
          have d3 : (y (i + 1) == 0) = false := by simpa using HY.out (i + 1)
          have d4 : decide (y (i + 1) = 0) = false := by simpa using HY.out (i + 1)
          obtain ⟨cg180, cg181, xg180, xg181⟩ := row_in Rg18_13.out
          go_upto_region 29 with (go_at_call 7; refine (D.out _ HA13.out).mono ?_; rintro e v14 ⟨rfl, ha, hkp⟩; have Rg18_14 := Lib.hid (hkp.row31 Rg18_13.out); obtain ⟨p0, p1, p2, p3⟩ := row_in Rg18_14.out; have HT := Lib.hid (turn31 ha (HK13.out.trans hkp) HG18.out Rg18_14.out (.int .i64 0) (.int .i64 (y (i + 1)))); clear ha hkp)
          clear p0 p1 p2 p3
          generalize (v14.setCell ⟨g18, 0, none⟩ (.int .i64 0)).setCell ⟨g18, 1, none⟩ (.int .i64 (y (i + 1))) = W15 at HT ⊢
          clear cg180 cg181 xg180 xg181
          obtain ⟨p0, p1, p2, p3⟩ := row_in HT.out.2.2
          go_wp2_with (go_at_call 6; refine (err_c _ _).mono ?_; rintro e w' ⟨rfl, rfl⟩)
          refine ⟨⟨i + 1, by omega, by go_num, HT.out.1, HT.out.2.2, HT.out.2.1⟩, by simp [intOf]; omega⟩
        · obtain rfl : i = j := by omega
          have d2 : decide ((i : Int) < (i : Int)) = false := by simp
          obtain ⟨cg180, cg181, xg180, xg181⟩ := row_in Rg18_13.out
          go_upto_region 32 with (go_at_call 7; refine (DL.out _ HA13.out).mono ?_; rintro e v14 ⟨rfl, ha, hkp⟩; have HA14 := Lib.hid (ha.below (below31 v14 (.int .i64 0) (.int .i64 x))); have HK14 := Lib.hid ((HK13.out.trans hkp).trans (keep31 v14 (.int .i64 0) (.int .i64 x))); have Rg20_14 := Lib.hid (row31 v14 (.int .i64 0) (.int .i64 x)); clear ha hkp)
          generalize v14.alloc (.cells #[(.int .i64 0), (.int .i64 x)] 31) = W14 at HA14 HK14 Rg20_14  ⊢
          generalize v14.heap.size = g20 at Rg20_14 ⊢
          clear HA13 HK13 
          obtain ⟨cg200, cg201, xg200, xg201⟩ := row_in Rg20_14.out
          go_wp2_with (first
            | (go_at_call 6; refine (err_c _ _).mono ?_; rintro e w' ⟨rfl, rfl⟩)
            | (go_at_call 8; refine (awake_c _).mono ?_; rintro e w' ⟨rfl, hb⟩; have HBZ := Lib.hid hb; clear hb))
          go_ret
          exact ⟨rfl, (HK14.out.3 hB).trans (HBZ.out.mono (Nat.le_trans hB HK14.out.1))⟩
theorem raises_law (n x : Int) (w : World) (hn : (Lit.int .u8 n).wf = true) (_ : (Lit.int .i64 x).wf = true) :
    Calls Tryz.prog 3 #[.int .u8 n, .int .i64 x] w fun e w' => e = .returned (.bool true) ∧ Below w.heap.size w w' :=
  @raises_core ⟨w.heap.size⟩ n x w (Nat.le_refl _) (bounds_u8 hn).1 (bounds_u8 hn).2
end Go.Proofs.YtibgbahaldojiaaGreat.Fns
