-- PRINTED BY print.sh 35421559b90ae4d0a3588c463048766b98c2df88dd9212a6774a882060cdf62d: not written by this session
import Derived.Test.YtkandpfaonlncaaPOpPartsx0
import Derived.Test.YtkandpfaonlncaaPOpPartsx1
namespace Go.Proofs.Ytkandpfaonlncaa.POpParts
open Go.RowKit Go.Proofs.YtkandpfaonlncaaW.PrintWords Go.Proofs.YtkandpfaonlncaaW.PrintLast Go.Proofs.YtkandpfaonlncaaW.PrintMore
attribute [local go_sem] max2_int min2_int max_two min_two max_three min_three max_four min_four   -- for this text's walks alone
set_option linter.unusedVariables false
set_option linter.unusedSimpArgs false

/-! ### gloaminglaw22_OpParts: function 6 -/
def gloaminglaw22_OpParts.l0 : Nat → List (S37) → Int → Int → ByteArray → Int → Option (Bool)
  | 0, _, _, _, _, _ => none
  | k + 1, x0, x1, x2, x7, x8 => if x8 < (x0.length : Int) then (if 0 ≤ x8 then ((op_Put.f k (([(⟨(rd_T37 x0 x8).f0, (rd_T37 x0 x8).f1, (rd_T37 x0 x8).f2, (rd_T37 x0 x8).f3⟩ : S37)] : List (S37)))).bind fun t139 => (if x7.size + t139.size ≤ 9223372036854775807 then (gloaminglaw22_OpParts.l0 k x0 x1 x2 (x7 ++ t139) (wrap64 (x8 + 1))) else (none))) else (none)) else ((op_Put.f k x0).bind fun t140 => (if x7.toList = t140.toList then (if (x0.length : Int) = 0 then (if x7.toList = ([] : List UInt8) then ((gloaminglaw22_awake.f k).bind fun t141 => (some t141)) else (some false)) else ((some (([] : List (S37)) : List (S37))).bind fun y142 => (if y142.length + x0.length < 4398046511104 then ((some (y142 ++ x0 : List (S37))).bind fun y145 => (if (y145.length : Int) = 0 then (none) else (if 0 ≤ (Int.tmod (wrap64 (x1)) (y145.length : Int)) then (if (Int.tmod (wrap64 (x1)) (y145.length : Int)) < (y145.length : Int) then ((op_Put.f k (y145.set ((Int.tmod (wrap64 (x1)) (y145.length : Int)) : Int).toNat (⟨(rd_T37 y145 (Int.tmod (wrap64 (x1)) (y145.length : Int))).f0, (rd_T37 y145 (Int.tmod (wrap64 (x1)) (y145.length : Int))).f1, Go.bits .xor .i64 ((rd_T37 y145 (Int.tmod (wrap64 (x1)) (y145.length : Int))).f2) x2, (rd_T37 y145 (Int.tmod (wrap64 (x1)) (y145.length : Int))).f3⟩ : S37))).bind fun t150 => (if ((t150.toList == x7.toList) == (x2 == 0)) = true then ((gloaminglaw22_awake.f k).bind fun t151 => (some t151)) else (some false))) else (none)) else (none)))) else (none)))) else (some false)))
def gloaminglaw22_OpParts.f (k : Nat) (l0 : List (S37)) (a1 : Int) (a2 : Int) : Option (Bool) := if (l0.length : Int) > 40 then ((gloaminglaw22_awake.f k).bind fun t134 => (some t134)) else (gloaminglaw22_OpParts.l0 k l0 a1 a2 (⟨#[]⟩ : ByteArray) 0)
theorem gloaminglaw22_OpParts.mono_l : ∀ k, (∀ y0 y1 y2 y3 y4, LeO (gloaminglaw22_OpParts.l0 k y0 y1 y2 y3 y4) (gloaminglaw22_OpParts.l0 (k + 1) y0 y1 y2 y3 y4))
  | 0 => fun _ _ _ _ _ r h => by simp [gloaminglaw22_OpParts.l0] at h
  | k + 1 => by
    have ih0 := gloaminglaw22_OpParts.mono_l k
    · intro y0 y1 y2 y3 y4
      unfold gloaminglaw22_OpParts.l0
      repeat' first
      | (with_reducible exact ih0 _ _ _ _ _)
      | (with_reducible exact gloaminglaw22_awake.mono _)
      | (with_reducible exact op_Put.mono _ _)
      | (with_reducible exact LeO.refl _)
      | (with_reducible exact LeO.none _)
      | (with_reducible refine LeO.ite ?_ ?_)
      | (with_reducible refine LeO.bind ?_ (fun _ => ?_))
      | exact ih0 _ _ _ _ _
      | exact gloaminglaw22_awake.mono _
      | exact op_Put.mono _ _
      | exact LeO.none _
      | refine LeO.ite ?_ ?_
      | refine LeO.bind ?_ (fun _ => ?_)
theorem gloaminglaw22_OpParts.mono : ∀ a0 a1 a2 k, LeO (gloaminglaw22_OpParts.f k a0 a1 a2) (gloaminglaw22_OpParts.f (k + 1) a0 a1 a2) := by
  intro a0 a1 a2 k
  have ih0 := gloaminglaw22_OpParts.mono_l k
  unfold gloaminglaw22_OpParts.f
  repeat' first
      | (with_reducible exact ih0 _ _ _ _ _)
      | (with_reducible exact gloaminglaw22_awake.mono _)
      | (with_reducible exact op_Put.mono _ _)
      | (with_reducible exact LeO.refl _)
      | (with_reducible exact LeO.none _)
      | (with_reducible refine LeO.ite ?_ ?_)
      | (with_reducible refine LeO.bind ?_ (fun _ => ?_))
      | exact ih0 _ _ _ _ _
      | exact gloaminglaw22_awake.mono _
      | exact op_Put.mono _ _
      | exact LeO.none _
      | refine LeO.ite ?_ ?_
      | refine LeO.bind ?_ (fun _ => ?_)
set_option maxHeartbeats 8000000 in
set_option maxRecDepth 100000 in
theorem gloaminglaw22_OpParts.calls (k : Nat) (A0 : Option Addr) (c0 : Nat) (l0 : List (S37)) (a1 : Int) (a2 : Int) (r : Bool) (w : World) (hr0 : Kd.C k37 w A0 l0.length l0) (hc0 : l0.length ≤ c0) (h : gloaminglaw22_OpParts.f k l0 a1 a2 = some r) :
    Calls Try.prog 6 #[.slice A0 l0.length c0, .int .u8 a1, .int .i64 a2] w fun e w' => e = .returned (.bool r) ∧ Below w.heap.size w w' := by
  have hu37 := Try.underlying37
  have HR0 := Aside0.mk hr0
  have HC0 := Aside0.mk hc0
  clear hr0 hc0
  have HB := Aside0.mk (Below.refl w.heap.size w)
  have H : (if (l0.length : Int) > 40 then ((gloaminglaw22_awake.f k).bind fun t134 => (some t134)) else (gloaminglaw22_OpParts.l0 k l0 a1 a2 (⟨#[]⟩ : ByteArray) 0)) = some r := h
  clear h
  by_cases c4 : (l0.length : Int) > 40
  · rw [if_pos c4] at H
    have c4b0 : decide (40 < (l0.length : Int)) = true := decide_eq_true c4
    have c4b1 : decide (40 < l0.length) = true := decide_eq_true (by omega)
    clear c4
    replace H := Option.bind_eq_some_iff.mp H
    obtain ⟨t134, A50, H⟩ := H
    replace H : (some t134) = some r := H
    have A5 := Aside0.mk A50
    clear A50
    obtain rfl := Option.some.inj H
    go_enter Try.func6, Try.ntmps6
    go_wp2_with (first | ((with_reducible refine gate_callee (f := 7) rfl ?_); refine goesL_ (some 14) rfl rfl Try.func7 (by kernel_rfl) rfl #[] rfl (by (try simp only [List.map_toArray, List.map_cons, List.map_nil]); first | done | rfl | (simp only [List.length_drop, List.length_take]; rfl)) ?_; (with_reducible refine (gloaminglaw22_awake.calls k  t134 _ A5.out).mono ?_); rintro e w6 ⟨rfl, hb⟩; refine ⟨_, rfl, ?_⟩; have n0_ := Aside0.mk (below_step (by repeat (first | (with_reducible first | exact HB.out | apply below_alloc | apply pw_below_drewN | apply below_drew1) | exact HB.out)) hb); clear HB; have HB := n0_; clear n0_; (try clear hb); (try clear hb2); (try clear hk); (try clear hi)))
    go_ret
    exact ⟨by first | rfl | (simp [errW_none, errW_some] <;> rfl) | (simp [*, errW_none, errW_some] <;> rfl), by repeat (first | (with_reducible first | exact HB.out | apply below_alloc | apply pw_below_drewN | apply below_drew1) | exact HB.out)⟩
  · rw [if_neg c4] at H
    have c4b0 : decide (40 < (l0.length : Int)) = false := decide_eq_false c4
    have c4b1 : decide (40 < l0.length) = false := decide_eq_false (by omega)
    clear c4
    have H' := Aside0.mk H
    clear H
    go_enter Try.func6, Try.ntmps6
    go_wp2
    go_loopg [7, 8] k (fun kq v7 v8 w' => ∃ (x7_1 : ByteArray) (x8_1 : Int), v7 = .string x7_1 ∧ v8 = .int .i64 x8_1 ∧ Aside0 (gloaminglaw22_OpParts.l0 kq l0 a1 a2 x7_1 x8_1 = some r) ∧ Aside0 (kq ≤ k) ∧ Aside0 (Below w.heap.size w w'))
    case atStart => exact ⟨((⟨#[]⟩ : ByteArray)), (0), (by first | rfl | (simp; done) | (simp [*]; done)), (by first | rfl | (simp; done) | (simp [*]; done)), H', ⟨Nat.le_refl _⟩, ⟨by repeat (first | (with_reducible first | exact HB.out | apply below_alloc | apply pw_below_drewN | apply below_drew1) | exact HB.out)⟩⟩
    case round =>
      clear H'
      try clear p2
      try clear c4
      try clear c4b0
      try clear c4b1
      try clear c6
      obtain ⟨x7_1, x8_1, rfl, rfl, HA, HK1, HB⟩ := hrel
      cases gk with
      | zero => exact absurd HA.out (by simp [gloaminglaw22_OpParts.l0])
      | succ k1 =>
        have H := HA.out
        clear HA
        simp only [gloaminglaw22_OpParts.l0] at H
        by_cases c7 : x8_1 < (l0.length : Int)
        · rw [if_pos c7] at H
          have c7b0 : decide (x8_1 < (l0.length : Int)) = true := decide_eq_true c7
          clear c7
          by_cases c8 : 0 ≤ x8_1
          · rw [if_pos c8] at H
            have c8b0 : decide (0 ≤ x8_1) = true := decide_eq_true c8
            clear c8
            obtain ⟨y136, hy136⟩ : ∃ y_ : List (S37), y_ = (([(⟨(rd_T37 l0 x8_1).f0, (rd_T37 l0 x8_1).f1, (rd_T37 l0 x8_1).f2, (rd_T37 l0 x8_1).f3⟩ : S37)] : List (S37))) := ⟨_, rfl⟩
            replace H : ((op_Put.f k1 y136).bind fun t139 => (if x7_1.size + t139.size ≤ 9223372036854775807 then (gloaminglaw22_OpParts.l0 k1 l0 a1 a2 (x7_1 ++ t139) (wrap64 (x8_1 + 1))) else (none))) = some r := by first | (rw [hy136]; with_reducible exact H) | (have H2_ := (Option.bind_some _ _).symm.trans H; rw [hy136]; with_reducible exact H2_) | (have H2_ := (Option.bind_some _ _).symm.trans H; with_reducible exact H2_) | with_reducible exact H | (rw [hy136]; exact H) | exact H
            have Ny136 := Aside0.mk hy136
            clear hy136
            replace H := Option.bind_eq_some_iff.mp H
            obtain ⟨t139, A90, H⟩ := H
            replace H : (if x7_1.size + t139.size ≤ 9223372036854775807 then (gloaminglaw22_OpParts.l0 k1 l0 a1 a2 (x7_1 ++ t139) (wrap64 (x8_1 + 1))) else (none)) = some r := H
            have A9 := Aside0.mk A90
            clear A90
            by_cases c10 : x7_1.size + t139.size ≤ 9223372036854775807
            · rw [if_pos c10] at H
              have c10b0 := eq_true c10
              have c10b1 : decide (x7_1.size + t139.size ≤ 9223372036854775807) = true := decide_eq_true c10
              try have c10b2 : (9223372036854775807 < x7_1.size + t139.size) = False := eq_false (Nat.not_lt.2 c10)
              have H' := Aside0.mk H
              clear H
              have p135 : 0 ≤ (x8_1 : Int) := of_decide_eq_true (by first | (with_reducible assumption) | assumption)
              have q135 : x8_1 < (l0.length : Int) := of_decide_eq_true (by first | (with_reducible assumption) | assumption)
              obtain ⟨ad135, e135, hx135_0, hx135_1, hx135_2, hx135_3⟩ := at_T37 HR0.out x8_1 p135 q135
              cases e135
              replace hx135_0 := (HB.out.cell (World.block_lt_of_cell? w _ hx135_0)).trans hx135_0
              replace hx135_1 := (HB.out.cell (World.block_lt_of_cell? w _ hx135_1)).trans hx135_1
              replace hx135_2 := (HB.out.cell (World.block_lt_of_cell? w _ hx135_2)).trans hx135_2
              replace hx135_3 := (HB.out.cell (World.block_lt_of_cell? w _ hx135_3)).trans hx135_3
              replace p135 := eq_true p135
              replace q135 := eq_true q135
              go_wp2_with (first | ((with_reducible refine gate_dst (N := 26) rfl ?_); refine Kd.R_lit k37 _ 37 ?hg (N := 26) ?hd (xs := ([(⟨(rd_T37 l0 x8_1).f0, (rd_T37 l0 x8_1).f1, (rd_T37 l0 x8_1).f2, (rd_T37 l0 x8_1).f3⟩ : S37)] : List (S37))) (inner := [.int .i64 ((rd_T37 l0 x8_1).f0), .int .i64 ((rd_T37 l0 x8_1).f1), .int .i64 ((rd_T37 l0 x8_1).f2), .int .i64 ((rd_T37 l0 x8_1).f3)]) (ok := fun _ => True) (okp := fun _ => True) ?hr ?hp (fun _ hk => hk) trivial (Below.refl _ _) (Nat.le_refl _) (by simp) ?_; (case hd => rfl); (case hg => rfl); (case hr => first | (go_simp; done) | (go_simp; rfl)); (case hp => exact (Reps.c4 (show Kd.M k37 _ _ _ (⟨(rd_T37 l0 x8_1).f0, (rd_T37 l0 x8_1).f1, (rd_T37 l0 x8_1).f2, (rd_T37 l0 x8_1).f3⟩ : S37) [.int .i64 ((rd_T37 l0 x8_1).f0), .int .i64 ((rd_T37 l0 x8_1).f1), .int .i64 ((rd_T37 l0 x8_1).f2), .int .i64 ((rd_T37 l0 x8_1).f3)] from (k37_mkM _ _ _ (⟨(rd_T37 l0 x8_1).f0, (rd_T37 l0 x8_1).f1, (rd_T37 l0 x8_1).f2, (rd_T37 l0 x8_1).f3⟩ : S37) )) (Reps.none _ _))); intro v137 w11 ho12 hb hg_ hnew_; clear hg_ hnew_; (first | rw [← Ny136.out] at ho12 | (simp only [Int.reduceToNat] at ho12; rw [← Ny136.out] at ho12)); have n0_ := Aside0.mk (Kd.R_lower ho12 (below_size (by repeat (first | (with_reducible first | exact HB.out | apply below_alloc | apply pw_below_drewN | apply below_drew1) | exact HB.out)))); have n1_ := Aside0.mk (below_step (by repeat (first | (with_reducible first | exact HB.out | apply below_alloc | apply pw_below_drewN | apply below_drew1) | exact HB.out)) hb); clear HB; have HO138 := n0_; have HB := n1_; clear n0_ n1_; clear hb ho12; obtain ⟨Ao13, co13, eo13⟩ := Kd.R_slice HO138.out; subst eo13) | ((with_reducible refine gate_callee (f := 10) rfl ?_); refine goesL_ (some 27) rfl rfl Try.func10 (by kernel_rfl) rfl #[.slice Ao13 y136.length co13] rfl (by (try simp only [List.map_toArray, List.map_cons, List.map_nil]); first | done | rfl | (simp only [List.length_drop, List.length_take]; rfl)) ?_; (with_reducible refine (op_Put.calls k1 _ _ y136 t139 _ ?side1 ?side2 A9.out).mono ?_); (case side1 => repeat (first | exact (Kd.R_reads' HO138.out).2.2 | (with_reducible refine Kd.C_alloc ?_ _) | (with_reducible refine Kd.C_drewN ?_ _) | (with_reducible refine Kd.C_drew ?_))); (case side2 => exact (Kd.R_reads' HO138.out).2.1); rintro e w14 ⟨rfl, hb⟩; refine ⟨_, rfl, ?_⟩; have n0_ := Aside0.mk (Kd.R_below (by (with_reducible repeat (first | apply Kd.R_alloc | apply Kd.R_drewN | apply Kd.R_drew)); exact HO138.out) hb); have n1_ := Aside0.mk (below_step (by repeat (first | (with_reducible first | exact HB.out | apply below_alloc | apply pw_below_drewN | apply below_drew1) | exact HB.out)) hb); clear HO138; clear HB; have HO138 := n0_; have HB := n1_; clear n0_ n1_; (try clear hb); (try clear hb2); (try clear hk); (try clear hi)))
              go_roundg k1
              case measure => have := HK1.out; omega
              case rel => exact ⟨(x7_1 ++ t139), (wrap64 (x8_1 + 1)), (by first | rfl | (simp; done) | (simp [*]; done)), (by first | rfl | (simp; done) | (simp [*]; done)), H', ⟨by have := HK1.out; omega⟩, ⟨by repeat (first | (with_reducible first | exact HB.out | apply below_alloc | apply pw_below_drewN | apply below_drew1) | exact HB.out)⟩⟩
            · rw [if_neg c10] at H
              exact absurd H (by simp)
          · rw [if_neg c8] at H
            exact absurd H (by simp)
        · rw [if_neg c7] at H
          have c7b0 : decide (x8_1 < (l0.length : Int)) = false := decide_eq_false c7
          clear c7
          replace H := Option.bind_eq_some_iff.mp H
          obtain ⟨t140, A150, H⟩ := H
          replace H : (if x7_1.toList = t140.toList then (if (l0.length : Int) = 0 then (if x7_1.toList = ([] : List UInt8) then ((gloaminglaw22_awake.f k1).bind fun t141 => (some t141)) else (some false)) else ((some (([] : List (S37)) : List (S37))).bind fun y142 => (if y142.length + l0.length < 4398046511104 then ((some (y142 ++ l0 : List (S37))).bind fun y145 => (if (y145.length : Int) = 0 then (none) else (if 0 ≤ (Int.tmod (wrap64 (a1)) (y145.length : Int)) then (if (Int.tmod (wrap64 (a1)) (y145.length : Int)) < (y145.length : Int) then ((op_Put.f k1 (y145.set ((Int.tmod (wrap64 (a1)) (y145.length : Int)) : Int).toNat (⟨(rd_T37 y145 (Int.tmod (wrap64 (a1)) (y145.length : Int))).f0, (rd_T37 y145 (Int.tmod (wrap64 (a1)) (y145.length : Int))).f1, Go.bits .xor .i64 ((rd_T37 y145 (Int.tmod (wrap64 (a1)) (y145.length : Int))).f2) a2, (rd_T37 y145 (Int.tmod (wrap64 (a1)) (y145.length : Int))).f3⟩ : S37))).bind fun t150 => (if ((t150.toList == x7_1.toList) == (a2 == 0)) = true then ((gloaminglaw22_awake.f k1).bind fun t151 => (some t151)) else (some false))) else (none)) else (none)))) else (none)))) else (some false)) = some r := H
          have A15 := Aside0.mk A150
          clear A150
          by_cases c16 : x7_1.toList = t140.toList
          · rw [if_pos c16] at H
            have c16b0 : (x7_1.toList == t140.toList) = true := beq_iff_eq.mpr c16
            have c16b1 : (x7_1.toList != t140.toList) = false := bne_eq_false_iff_eq.mpr c16
            clear c16
            by_cases c17 : (l0.length : Int) = 0
            · rw [if_pos c17] at H
              have c17b0 : ((l0.length : Int) == 0) = true := beq_iff_eq.mpr c17
              have c17b1 : ((l0.length : Int) != 0) = false := bne_eq_false_iff_eq.mpr c17
              clear c17
              by_cases c18 : x7_1.toList = ([] : List UInt8)
              · rw [if_pos c18] at H
                have c18b0 : (x7_1.toList == ([] : List UInt8)) = true := beq_iff_eq.mpr c18
                have c18b1 : (x7_1.toList != ([] : List UInt8)) = false := bne_eq_false_iff_eq.mpr c18
                clear c18
                replace H := Option.bind_eq_some_iff.mp H
                obtain ⟨t141, A190, H⟩ := H
                replace H : (some t141) = some r := H
                have A19 := Aside0.mk A190
                clear A190
                obtain rfl := Option.some.inj H
                go_wp2_with (first | ((with_reducible refine gate_callee (f := 10) rfl ?_); refine goesL_ (some 31) rfl rfl Try.func10 (by kernel_rfl) rfl #[.slice A0 l0.length c0] rfl (by (try simp only [List.map_toArray, List.map_cons, List.map_nil]); first | done | rfl | (simp only [List.length_drop, List.length_take]; rfl)) ?_; (with_reducible refine (op_Put.calls k1 _ _ l0 t140 _ ?side1 ?side2 A15.out).mono ?_); (case side1 => repeat (first | exact (Kd.C_below HR0.out HB.out) | (with_reducible refine Kd.C_alloc ?_ _) | (with_reducible refine Kd.C_drewN ?_ _) | (with_reducible refine Kd.C_drew ?_))); (case side2 => exact HC0.out); rintro e w20 ⟨rfl, hb⟩; refine ⟨_, rfl, ?_⟩; have n0_ := Aside0.mk (below_step (by repeat (first | (with_reducible first | exact HB.out | apply below_alloc | apply pw_below_drewN | apply below_drew1) | exact HB.out)) hb); clear HB; have HB := n0_; clear n0_; (try clear hb); (try clear hb2); (try clear hk); (try clear hi)) | (go_at_call 7; (with_reducible refine (gloaminglaw22_awake.calls k1  t141 _ A19.out).mono ?_); rintro e w21 ⟨rfl, hb⟩; have n0_ := Aside0.mk (below_step (by repeat (first | (with_reducible first | exact HB.out | apply below_alloc | apply pw_below_drewN | apply below_drew1) | exact HB.out)) hb); clear HB; have HB := n0_; clear n0_; (try clear hb); (try clear hb2); (try clear hk); (try clear hi)))
                go_ret
                exact ⟨by first | rfl | (simp [errW_none, errW_some] <;> rfl) | (simp [*, errW_none, errW_some] <;> rfl), by repeat (first | (with_reducible first | exact HB.out | apply below_alloc | apply pw_below_drewN | apply below_drew1) | exact HB.out)⟩
              · rw [if_neg c18] at H
                have c18b0 : (x7_1.toList == ([] : List UInt8)) = false := beq_eq_false_iff_ne.mpr c18
                have c18b1 : (x7_1.toList != ([] : List UInt8)) = true := bne_iff_ne.mpr c18
                obtain rfl := Option.some.inj H
                go_wp2_with (first | ((with_reducible refine gate_callee (f := 10) rfl ?_); refine goesL_ (some 31) rfl rfl Try.func10 (by kernel_rfl) rfl #[.slice A0 l0.length c0] rfl (by (try simp only [List.map_toArray, List.map_cons, List.map_nil]); first | done | rfl | (simp only [List.length_drop, List.length_take]; rfl)) ?_; (with_reducible refine (op_Put.calls k1 _ _ l0 t140 _ ?side1 ?side2 A15.out).mono ?_); (case side1 => repeat (first | exact (Kd.C_below HR0.out HB.out) | (with_reducible refine Kd.C_alloc ?_ _) | (with_reducible refine Kd.C_drewN ?_ _) | (with_reducible refine Kd.C_drew ?_))); (case side2 => exact HC0.out); rintro e w22 ⟨rfl, hb⟩; refine ⟨_, rfl, ?_⟩; have n0_ := Aside0.mk (below_step (by repeat (first | (with_reducible first | exact HB.out | apply below_alloc | apply pw_below_drewN | apply below_drew1) | exact HB.out)) hb); clear HB; have HB := n0_; clear n0_; (try clear hb); (try clear hb2); (try clear hk); (try clear hi)))
                go_ret
                exact ⟨by first | rfl | (simp [errW_none, errW_some] <;> rfl) | (simp [*, errW_none, errW_some] <;> rfl), by repeat (first | (with_reducible first | exact HB.out | apply below_alloc | apply pw_below_drewN | apply below_drew1) | exact HB.out)⟩
            · rw [if_neg c17] at H
              have c17b0 : ((l0.length : Int) == 0) = false := beq_eq_false_iff_ne.mpr c17
              have c17b1 : ((l0.length : Int) != 0) = true := bne_iff_ne.mpr c17
              have c17b2 : ¬ (l0 = []) := fun h_ => c17 (by rw [h_]; rfl)
              obtain ⟨y142, hy142⟩ : ∃ y_ : List (S37), y_ = (([] : List (S37))) := ⟨_, rfl⟩
              replace H : (if y142.length + l0.length < 4398046511104 then ((some (y142 ++ l0 : List (S37))).bind fun y145 => (if (y145.length : Int) = 0 then (none) else (if 0 ≤ (Int.tmod (wrap64 (a1)) (y145.length : Int)) then (if (Int.tmod (wrap64 (a1)) (y145.length : Int)) < (y145.length : Int) then ((op_Put.f k1 (y145.set ((Int.tmod (wrap64 (a1)) (y145.length : Int)) : Int).toNat (⟨(rd_T37 y145 (Int.tmod (wrap64 (a1)) (y145.length : Int))).f0, (rd_T37 y145 (Int.tmod (wrap64 (a1)) (y145.length : Int))).f1, Go.bits .xor .i64 ((rd_T37 y145 (Int.tmod (wrap64 (a1)) (y145.length : Int))).f2) a2, (rd_T37 y145 (Int.tmod (wrap64 (a1)) (y145.length : Int))).f3⟩ : S37))).bind fun t150 => (if ((t150.toList == x7_1.toList) == (a2 == 0)) = true then ((gloaminglaw22_awake.f k1).bind fun t151 => (some t151)) else (some false))) else (none)) else (none)))) else (none)) = some r := by first | (rw [hy142]; with_reducible exact H) | (have H2_ := (Option.bind_some _ _).symm.trans H; rw [hy142]; with_reducible exact H2_) | (have H2_ := (Option.bind_some _ _).symm.trans H; with_reducible exact H2_) | with_reducible exact H | (rw [hy142]; exact H) | exact H
              have Ny142 := Aside0.mk hy142
              clear hy142
              by_cases c23 : y142.length + l0.length < 4398046511104
              · rw [if_pos c23] at H
                have LMc23 := Aside0.mk c23
                clear c23
                obtain ⟨y145, hy145⟩ : ∃ y_ : List (S37), y_ = (y142 ++ l0) := ⟨_, rfl⟩
                replace H : (if (y145.length : Int) = 0 then (none) else (if 0 ≤ (Int.tmod (wrap64 (a1)) (y145.length : Int)) then (if (Int.tmod (wrap64 (a1)) (y145.length : Int)) < (y145.length : Int) then ((op_Put.f k1 (y145.set ((Int.tmod (wrap64 (a1)) (y145.length : Int)) : Int).toNat (⟨(rd_T37 y145 (Int.tmod (wrap64 (a1)) (y145.length : Int))).f0, (rd_T37 y145 (Int.tmod (wrap64 (a1)) (y145.length : Int))).f1, Go.bits .xor .i64 ((rd_T37 y145 (Int.tmod (wrap64 (a1)) (y145.length : Int))).f2) a2, (rd_T37 y145 (Int.tmod (wrap64 (a1)) (y145.length : Int))).f3⟩ : S37))).bind fun t150 => (if ((t150.toList == x7_1.toList) == (a2 == 0)) = true then ((gloaminglaw22_awake.f k1).bind fun t151 => (some t151)) else (some false))) else (none)) else (none))) = some r := by first | (rw [hy145]; with_reducible exact H) | (have H2_ := (Option.bind_some _ _).symm.trans H; rw [hy145]; with_reducible exact H2_) | (have H2_ := (Option.bind_some _ _).symm.trans H; with_reducible exact H2_) | with_reducible exact H | (rw [hy145]; exact H) | exact H
                have Ny145 := Aside0.mk hy145
                clear hy145
                by_cases c24 : (y145.length : Int) = 0
                · rw [if_pos c24] at H
                  exact absurd H (by simp)
                · rw [if_neg c24] at H
                  have c24b0 : ((y145.length : Int) == 0) = false := beq_eq_false_iff_ne.mpr c24
                  have c24b1 : ((y145.length : Int) != 0) = true := bne_iff_ne.mpr c24
                  have c24b2 : ¬ (y145 = []) := fun h_ => c24 (by rw [h_]; rfl)
                  obtain ⟨ji25, hji25⟩ : ∃ j_ : Int, (Int.tmod (wrap64 (a1)) (y145.length : Int)) = j_ := ⟨_, rfl⟩
                  replace H : (if 0 ≤ (ji25) then (if (ji25) < (y145.length : Int) then ((op_Put.f k1 (y145.set ((ji25) : Int).toNat (⟨(rd_T37 y145 (ji25)).f0, (rd_T37 y145 (ji25)).f1, Go.bits .xor .i64 ((rd_T37 y145 (ji25)).f2) a2, (rd_T37 y145 (ji25)).f3⟩ : S37))).bind fun t150 => (if ((t150.toList == x7_1.toList) == (a2 == 0)) = true then ((gloaminglaw22_awake.f k1).bind fun t151 => (some t151)) else (some false))) else (none)) else (none)) = some r := by first | (rw [hji25] at H; exact H) | (simp only [hji25] at H ⊢; exact H)
                  (try rw [hji25] at A15)
                  by_cases c26 : 0 ≤ (ji25)
                  · rw [if_pos c26] at H
                    have c26b0 : decide (0 ≤ (ji25)) = true := decide_eq_true c26
                    clear c26
                    by_cases c27 : (ji25) < (y145.length : Int)
                    · rw [if_pos c27] at H
                      have c27b0 : decide ((ji25) < (y145.length : Int)) = true := decide_eq_true c27
                      clear c27
                      obtain ⟨y149, hy149⟩ : ∃ y_ : List (S37), y_ = (y145.set ((ji25) : Int).toNat (⟨(rd_T37 y145 (ji25)).f0, (rd_T37 y145 (ji25)).f1, Go.bits .xor .i64 ((rd_T37 y145 (ji25)).f2) a2, (rd_T37 y145 (ji25)).f3⟩ : S37)) := ⟨_, rfl⟩
                      replace H : ((op_Put.f k1 y149).bind fun t150 => (if ((t150.toList == x7_1.toList) == (a2 == 0)) = true then ((gloaminglaw22_awake.f k1).bind fun t151 => (some t151)) else (some false))) = some r := by first | (rw [hy149]; with_reducible exact H) | (have H2_ := (Option.bind_some _ _).symm.trans H; rw [hy149]; with_reducible exact H2_) | (have H2_ := (Option.bind_some _ _).symm.trans H; with_reducible exact H2_) | with_reducible exact H | (rw [hy149]; exact H) | exact H
                      have Ny149 := Aside0.mk hy149
                      clear hy149
                      replace H := Option.bind_eq_some_iff.mp H
                      obtain ⟨t150, A290, H⟩ := H
                      replace H : (if ((t150.toList == x7_1.toList) == (a2 == 0)) = true then ((gloaminglaw22_awake.f k1).bind fun t151 => (some t151)) else (some false)) = some r := H
                      have A29 := Aside0.mk A290
                      clear A290
                      by_cases c30 : ((t150.toList == x7_1.toList) == (a2 == 0)) = true
                      · rw [if_pos c30] at H
                        have c30b0 : ((t150.toList == x7_1.toList) == (a2 == 0)) = true := c30
                        (try (have c30b1 : decide ((t150.toList == x7_1.toList) = (a2 == 0)) = true := by simpa using c30))
                        (try (have c30b2 : ((t150.toList == x7_1.toList) == (a2 == 0)) = true := by simpa using c30))
                        clear c30
                        replace H := Option.bind_eq_some_iff.mp H
                        obtain ⟨t151, A310, H⟩ := H
                        replace H : (some t151) = some r := H
                        have A31 := Aside0.mk A310
                        clear A310
                        obtain rfl := Option.some.inj H
                        go_wp2_with (first | ((with_reducible refine gate_callee (f := 10) rfl ?_); refine goesL_ (some 31) rfl rfl Try.func10 (by kernel_rfl) rfl #[.slice A0 l0.length c0] rfl (by (try simp only [List.map_toArray, List.map_cons, List.map_nil]); first | done | rfl | (simp only [List.length_drop, List.length_take]; rfl)) ?_; (with_reducible refine (op_Put.calls k1 _ _ l0 t140 _ ?side1 ?side2 A15.out).mono ?_); (case side1 => repeat (first | exact (Kd.C_below HR0.out HB.out) | (with_reducible refine Kd.C_alloc ?_ _) | (with_reducible refine Kd.C_drewN ?_ _) | (with_reducible refine Kd.C_drew ?_))); (case side2 => exact HC0.out); rintro e w32 ⟨rfl, hb⟩; refine ⟨_, rfl, ?_⟩; have n0_ := Aside0.mk (below_step (by repeat (first | (with_reducible first | exact HB.out | apply below_alloc | apply pw_below_drewN | apply below_drew1) | exact HB.out)) hb); clear HB; have HB := n0_; clear n0_; (try clear hb); (try clear hb2); (try clear hk); (try clear hi)) | ((with_reducible refine gate_dst (N := 41) rfl ?_); refine Kd.R_lit k37 _ 37 ?hg (N := 41) ?hd (xs := ([] : List (S37))) (inner := []) (ok := fun _ => True) (okp := fun _ => True) ?hr ?hp (fun _ hk => hk) trivial (Below.refl _ _) (Nat.le_refl _) (by simp) ?_; (case hd => rfl); (case hg => rfl); (case hr => first | (go_simp; done) | (go_simp; rfl)); (case hp => exact (Reps.none _ _)); intro v143 w33 ho34 hb hg_ hnew_; clear hg_ hnew_; (first | rw [← Ny142.out] at ho34 | (simp only [Int.reduceToNat] at ho34; rw [← Ny142.out] at ho34)); have n0_ := Aside0.mk (Kd.R_lower ho34 (below_size (by repeat (first | (with_reducible first | exact HB.out | apply below_alloc | apply pw_below_drewN | apply below_drew1) | exact HB.out)))); have n1_ := Aside0.mk (below_step (by repeat (first | (with_reducible first | exact HB.out | apply below_alloc | apply pw_below_drewN | apply below_drew1) | exact HB.out)) hb); clear HB; have HO144 := n0_; have HB := n1_; clear n0_ n1_; clear hb ho34) | ((with_reducible refine gate_builtin (b := .append) (xs := #[.tmp 41, .tmp 42]) rfl ?_); at_builtin; refine Kd.R_append_rows k37 (w0 := w) w.heap.size rfl (.tmp 41) (.tmp 42) 22 37 (.agg #[(.int .i64 0), (.int .i64 0), (.int .i64 0), (.int .i64 0)]) 32 rfl Try.underlying22 info37 rfl (by decide) (by omega) v143 y142 l0 _ _ _ (fun _ => True) (fun _ => False) rfl rfl ?aO ?aR (fun _ _ h => h) (fun _ h => h.elim) ?aF ?aB ?aS ?aL ?_; (case aR => repeat (first | exact (Kd.C_below HR0.out HB.out) | (with_reducible refine Kd.C_alloc ?_ _) | (with_reducible refine Kd.C_drewN ?_ _) | (with_reducible refine Kd.C_drew ?_))); (case aB => exact (by repeat (first | (with_reducible first | exact HB.out | apply below_alloc | apply pw_below_drewN | apply below_drew1) | exact HB.out))); (case aF => exact (fun _ _ => trivial)); (case aO => exact (by (with_reducible repeat (first | apply Kd.R_alloc | apply Kd.R_drewN | apply Kd.R_drew)); exact HO144.out)); (case aS => exact (below_size (by repeat (first | (with_reducible first | exact HB.out | apply below_alloc | apply pw_below_drewN | apply below_drew1) | exact HB.out)))); (case aL => have := LMc23.out; omega); intro v146 w35 ho hb hg hat; rw [← Ny145.out] at ho; have n0_ := Aside0.mk (hb); have n1_ := Aside0.mk (ho); clear HB; clear HO144; have HB := n0_; have HO147 := n1_; clear n0_ n1_; clear ho hb hg hat; obtain ⟨Ao36, co36, eo36⟩ := Kd.R_slice HO147.out; subst eo36; have p148 : 0 ≤ ((ji25) : Int) := of_decide_eq_true (by first | (with_reducible assumption) | assumption); have q148 : (ji25) < (y145.length : Int) := of_decide_eq_true (by first | (with_reducible assumption) | assumption); obtain ⟨ad148, e148, hx148_0, hx148_1, hx148_2, hx148_3⟩ := at_T37 (Kd.R_reads' HO147.out).2.2 (ji25) p148 q148; cases e148; replace p148 := eq_true p148; replace q148 := eq_true q148; have p28 : 0 ≤ ((ji25) : Int) := of_decide_eq_true (by first | (with_reducible assumption) | assumption); have q28 : ((ji25) : Int) < ((y145.length : Int) : Int) := of_decide_eq_true (by first | (with_reducible assumption) | assumption); obtain ⟨go28, co28, eo28, gb28, gl28, cl28, HG28⟩ := Kd.R_form HO147.out (by omega); (first | cases eo28 | (injection eo28 with ea_ en_ ec_; (first | subst ea_ | (injection ea_ with ea_; subst ea_)); subst ec_; clear en_)); have GB28 := Aside0.mk gb28; have GG28 := Aside0.mk HG28; clear gb28 gl28 HG28; (first | simp only [add_plain] at hx148_0 | skip); (first | simp only [add_plain] at hx148_1 | skip); (first | simp only [add_plain] at hx148_2 | skip); (first | simp only [add_plain] at hx148_3 | skip); obtain ⟨ce28, hcl28, hM28, hcc28, hfr28⟩ := Kd.R_elem HO147.out z37 ((ji25) : Int) p28 q28; obtain rfl := k37_openM hM28; have hx28_0 : w35.cell? ⟨go28, ((ji25) : Int).toNat * 4, none⟩ = some (.int .i64 ((rd_T37 y145 (ji25)).f0)) := hcc28 0 _ rfl; have hx28_1 : w35.cell? ⟨go28, ((ji25) : Int).toNat * 4 + 1, none⟩ = some (.int .i64 ((rd_T37 y145 (ji25)).f1)) := hcc28 1 _ rfl; have hx28_2 : w35.cell? ⟨go28, ((ji25) : Int).toNat * 4 + 2, none⟩ = some (.int .i64 ((rd_T37 y145 (ji25)).f2)) := hcc28 2 _ rfl; have hx28_3 : w35.cell? ⟨go28, ((ji25) : Int).toNat * 4 + 3, none⟩ = some (.int .i64 ((rd_T37 y145 (ji25)).f3)) := hcc28 3 _ rfl; have hf28_0 : w35.frozen? ⟨go28, ((ji25) : Int).toNat * 4, none⟩ = false := hfr28 0; have hf28_1 : w35.frozen? ⟨go28, ((ji25) : Int).toNat * 4 + 1, none⟩ = false := hfr28 1; have hf28_2 : w35.frozen? ⟨go28, ((ji25) : Int).toNat * 4 + 2, none⟩ = false := hfr28 2; have hf28_3 : w35.frozen? ⟨go28, ((ji25) : Int).toNat * 4 + 3, none⟩ = false := hfr28 3; clear hcl28 hcc28 hfr28 hM28; replace p28 := eq_true p28; replace q28 := eq_true q28; have HX37 := Aside0.mk (show Kd.R k37 37 w35 w.heap.size (fun _ => True) (.slice (some ⟨go28, 0, none⟩) y145.length co36) y145 from (by (with_reducible repeat (first | apply Kd.R_alloc | apply Kd.R_drewN | apply Kd.R_drew)); exact HO147.out)); obtain ⟨ce37, hcl37, hM37, hcc37, hfr37⟩ := Kd.R_elem HX37.out z37 ((ji25) : Int) (of_decide_eq_true (by first | (with_reducible assumption) | assumption)) (by have h_ : ((ji25) : Int) < ((y145.length : Int) : Int) := of_decide_eq_true (by first | (with_reducible assumption) | assumption); first | exact h_ | (have e_ := (Kd.R_reads' HO147.out).1; omega) | simpa using h_); obtain rfl := k37_openM hM37; have HP37 := Kd.R_seg HX37.out ((ji25) : Int) (of_decide_eq_true (by first | (with_reducible assumption) | assumption)) (by have h_ : ((ji25) : Int) < ((y145.length : Int) : Int) := of_decide_eq_true (by first | (with_reducible assumption) | assumption); first | exact h_ | (have e_ := (Kd.R_reads' HO147.out).1; omega) | simpa using h_) (seg := [.int .i64 (Go.bits .xor .i64 ((rd_T37 y145 (ji25)).f2) a2)]) (j := 2) hcl37 hcc37 (show 3 ≤ 4 from by decide) (x' := (⟨(rd_T37 y145 (ji25)).f0, (rd_T37 y145 (ji25)).f1, Go.bits .xor .i64 ((rd_T37 y145 (ji25)).f2) a2, (rd_T37 y145 (ji25)).f3⟩ : S37)) (k37_mkM _ _ _ (⟨(rd_T37 y145 (ji25)).f0, (rd_T37 y145 (ji25)).f1, Go.bits .xor .i64 ((rd_T37 y145 (ji25)).f2) a2, (rd_T37 y145 (ji25)).f3⟩ : S37) ) (fun _ hk => hk); have hx37_2 := hcc37 2 _ rfl; (try simp only [show (k37).sz = 4 from rfl, Nat.mul_one, Nat.add_zero] at hx37_2); have hf37_2 := hfr37 2; (try simp only [show (k37).sz = 4 from rfl, Nat.mul_one, Nat.add_zero] at hf37_2); clear hcl37 hcc37 hfr37 hM37) | ((with_reducible refine gate_store (t := 3) (p := 59) rfl ?_); refine store_event (t := 3) (p := 59) (v := ?vo_w38) (w1 := (w35.setCell ⟨go28, ((ji25) : Int).toNat * 4 + 2, none⟩ (.int .i64 (Go.bits .xor .i64 ((rd_T37 y145 (ji25)).f2) a2)))) ?hg ?ho ?hn ?hr ?_; (case ho => rfl); (case hg => rfl); (case hn => rfl); (case hr => first | (go_simp; done) | (go_simp; rfl)); intro w38 hw; have hg : w35.grownBy w38 (some go28) := (by rw [hw]; exact HP37.2); have hp_ : Kd.R k37 37 w38 w.heap.size (fun _ => True) (.slice (some ⟨go28, 0, none⟩) y145.length co36) y149 := (by rw [hw, Ny149.out]; exact HP37.1); clear HP37; have n0_ := Aside0.mk (hp_); have n1_ := Aside0.mk ((by rw [hw]; exact below_set (HB.out) GB28.out : Below w.heap.size w w38)); clear HO147; clear HB; have HO147 := n0_; have HB := n1_; clear n0_ n1_; clear hg hw hp_) | ((with_reducible refine gate_callee (f := 10) rfl ?_); refine goesL_ (some 61) rfl rfl Try.func10 (by kernel_rfl) rfl #[.slice (some ⟨go28, 0, none⟩) y149.length co36] rfl (by (try simp only [List.map_toArray, List.map_cons, List.map_nil]); first | done | (rw [show y149.length = y145.length from (Kd.R_reads' HO147.out).1.symm] <;> rfl) | rfl | (simp only [List.length_drop, List.length_take]; rfl)) ?_; (with_reducible refine (op_Put.calls k1 _ _ y149 t150 _ ?side1 ?side2 A29.out).mono ?_); (case side1 => repeat (first | exact (Kd.R_reads' HO147.out).2.2 | (with_reducible refine Kd.C_alloc ?_ _) | (with_reducible refine Kd.C_drewN ?_ _) | (with_reducible refine Kd.C_drew ?_))); (case side2 => rw [show y149.length = y145.length from (Kd.R_reads' HO147.out).1.symm]; exact (Kd.R_reads' HO147.out).2.1); rintro e w39 ⟨rfl, hb⟩; refine ⟨_, rfl, ?_⟩; have n0_ := Aside0.mk (Kd.R_below (by (with_reducible repeat (first | apply Kd.R_alloc | apply Kd.R_drewN | apply Kd.R_drew)); exact HO147.out) hb); have n1_ := Aside0.mk (below_step (by repeat (first | (with_reducible first | exact HB.out | apply below_alloc | apply pw_below_drewN | apply below_drew1) | exact HB.out)) hb); clear HO147; clear HB; have HO147 := n0_; have HB := n1_; clear n0_ n1_; (try clear hb); (try clear hb2); (try clear hk); (try clear hi)) | (go_at_call 7; (with_reducible refine (gloaminglaw22_awake.calls k1  t151 _ A31.out).mono ?_); rintro e w40 ⟨rfl, hb⟩; have n0_ := Aside0.mk (Kd.R_below (by (with_reducible repeat (first | apply Kd.R_alloc | apply Kd.R_drewN | apply Kd.R_drew)); exact HO147.out) hb); have n1_ := Aside0.mk (below_step (by repeat (first | (with_reducible first | exact HB.out | apply below_alloc | apply pw_below_drewN | apply below_drew1) | exact HB.out)) hb); clear HO147; clear HB; have HO147 := n0_; have HB := n1_; clear n0_ n1_; (try clear hb); (try clear hb2); (try clear hk); (try clear hi)))
                        go_ret
                        exact ⟨by first | rfl | (simp [errW_none, errW_some] <;> rfl) | (simp only [← hji25]; first | rfl | (simp [errW_none, errW_some] <;> rfl)) | (simp [*, errW_none, errW_some] <;> rfl), by repeat (first | (with_reducible first | exact HB.out | apply below_alloc | apply pw_below_drewN | apply below_drew1) | exact HB.out)⟩
                      · rw [if_neg c30] at H
                        have c30b0 : ((t150.toList == x7_1.toList) == (a2 == 0)) = false := by simpa using c30
                        (try (have c30b1 : decide ((t150.toList == x7_1.toList) = (a2 == 0)) = false := by simpa using c30))
                        (try (have c30b2 : ((t150.toList == x7_1.toList) == (a2 == 0)) = false := by simpa using c30))
                        (try (have c30b3 : ¬ ((t150.toList == x7_1.toList) = (a2 == 0)) := by simpa using c30))
                        clear c30
                        obtain rfl := Option.some.inj H
                        go_wp2_with (first | ((with_reducible refine gate_callee (f := 10) rfl ?_); refine goesL_ (some 31) rfl rfl Try.func10 (by kernel_rfl) rfl #[.slice A0 l0.length c0] rfl (by (try simp only [List.map_toArray, List.map_cons, List.map_nil]); first | done | rfl | (simp only [List.length_drop, List.length_take]; rfl)) ?_; (with_reducible refine (op_Put.calls k1 _ _ l0 t140 _ ?side1 ?side2 A15.out).mono ?_); (case side1 => repeat (first | exact (Kd.C_below HR0.out HB.out) | (with_reducible refine Kd.C_alloc ?_ _) | (with_reducible refine Kd.C_drewN ?_ _) | (with_reducible refine Kd.C_drew ?_))); (case side2 => exact HC0.out); rintro e w41 ⟨rfl, hb⟩; refine ⟨_, rfl, ?_⟩; have n0_ := Aside0.mk (below_step (by repeat (first | (with_reducible first | exact HB.out | apply below_alloc | apply pw_below_drewN | apply below_drew1) | exact HB.out)) hb); clear HB; have HB := n0_; clear n0_; (try clear hb); (try clear hb2); (try clear hk); (try clear hi)) | ((with_reducible refine gate_dst (N := 41) rfl ?_); refine Kd.R_lit k37 _ 37 ?hg (N := 41) ?hd (xs := ([] : List (S37))) (inner := []) (ok := fun _ => True) (okp := fun _ => True) ?hr ?hp (fun _ hk => hk) trivial (Below.refl _ _) (Nat.le_refl _) (by simp) ?_; (case hd => rfl); (case hg => rfl); (case hr => first | (go_simp; done) | (go_simp; rfl)); (case hp => exact (Reps.none _ _)); intro v143 w42 ho43 hb hg_ hnew_; clear hg_ hnew_; (first | rw [← Ny142.out] at ho43 | (simp only [Int.reduceToNat] at ho43; rw [← Ny142.out] at ho43)); have n0_ := Aside0.mk (Kd.R_lower ho43 (below_size (by repeat (first | (with_reducible first | exact HB.out | apply below_alloc | apply pw_below_drewN | apply below_drew1) | exact HB.out)))); have n1_ := Aside0.mk (below_step (by repeat (first | (with_reducible first | exact HB.out | apply below_alloc | apply pw_below_drewN | apply below_drew1) | exact HB.out)) hb); clear HB; have HO144 := n0_; have HB := n1_; clear n0_ n1_; clear hb ho43) | ((with_reducible refine gate_builtin (b := .append) (xs := #[.tmp 41, .tmp 42]) rfl ?_); at_builtin; refine Kd.R_append_rows k37 (w0 := w) w.heap.size rfl (.tmp 41) (.tmp 42) 22 37 (.agg #[(.int .i64 0), (.int .i64 0), (.int .i64 0), (.int .i64 0)]) 32 rfl Try.underlying22 info37 rfl (by decide) (by omega) v143 y142 l0 _ _ _ (fun _ => True) (fun _ => False) rfl rfl ?aO ?aR (fun _ _ h => h) (fun _ h => h.elim) ?aF ?aB ?aS ?aL ?_; (case aR => repeat (first | exact (Kd.C_below HR0.out HB.out) | (with_reducible refine Kd.C_alloc ?_ _) | (with_reducible refine Kd.C_drewN ?_ _) | (with_reducible refine Kd.C_drew ?_))); (case aB => exact (by repeat (first | (with_reducible first | exact HB.out | apply below_alloc | apply pw_below_drewN | apply below_drew1) | exact HB.out))); (case aF => exact (fun _ _ => trivial)); (case aO => exact (by (with_reducible repeat (first | apply Kd.R_alloc | apply Kd.R_drewN | apply Kd.R_drew)); exact HO144.out)); (case aS => exact (below_size (by repeat (first | (with_reducible first | exact HB.out | apply below_alloc | apply pw_below_drewN | apply below_drew1) | exact HB.out)))); (case aL => have := LMc23.out; omega); intro v146 w44 ho hb hg hat; rw [← Ny145.out] at ho; have n0_ := Aside0.mk (hb); have n1_ := Aside0.mk (ho); clear HB; clear HO144; have HB := n0_; have HO147 := n1_; clear n0_ n1_; clear ho hb hg hat; obtain ⟨Ao45, co45, eo45⟩ := Kd.R_slice HO147.out; subst eo45; have p148 : 0 ≤ ((ji25) : Int) := of_decide_eq_true (by first | (with_reducible assumption) | assumption); have q148 : (ji25) < (y145.length : Int) := of_decide_eq_true (by first | (with_reducible assumption) | assumption); obtain ⟨ad148, e148, hx148_0, hx148_1, hx148_2, hx148_3⟩ := at_T37 (Kd.R_reads' HO147.out).2.2 (ji25) p148 q148; cases e148; replace p148 := eq_true p148; replace q148 := eq_true q148; have p28 : 0 ≤ ((ji25) : Int) := of_decide_eq_true (by first | (with_reducible assumption) | assumption); have q28 : ((ji25) : Int) < ((y145.length : Int) : Int) := of_decide_eq_true (by first | (with_reducible assumption) | assumption); obtain ⟨go28, co28, eo28, gb28, gl28, cl28, HG28⟩ := Kd.R_form HO147.out (by omega); (first | cases eo28 | (injection eo28 with ea_ en_ ec_; (first | subst ea_ | (injection ea_ with ea_; subst ea_)); subst ec_; clear en_)); have GB28 := Aside0.mk gb28; have GG28 := Aside0.mk HG28; clear gb28 gl28 HG28; (first | simp only [add_plain] at hx148_0 | skip); (first | simp only [add_plain] at hx148_1 | skip); (first | simp only [add_plain] at hx148_2 | skip); (first | simp only [add_plain] at hx148_3 | skip); obtain ⟨ce28, hcl28, hM28, hcc28, hfr28⟩ := Kd.R_elem HO147.out z37 ((ji25) : Int) p28 q28; obtain rfl := k37_openM hM28; have hx28_0 : w44.cell? ⟨go28, ((ji25) : Int).toNat * 4, none⟩ = some (.int .i64 ((rd_T37 y145 (ji25)).f0)) := hcc28 0 _ rfl; have hx28_1 : w44.cell? ⟨go28, ((ji25) : Int).toNat * 4 + 1, none⟩ = some (.int .i64 ((rd_T37 y145 (ji25)).f1)) := hcc28 1 _ rfl; have hx28_2 : w44.cell? ⟨go28, ((ji25) : Int).toNat * 4 + 2, none⟩ = some (.int .i64 ((rd_T37 y145 (ji25)).f2)) := hcc28 2 _ rfl; have hx28_3 : w44.cell? ⟨go28, ((ji25) : Int).toNat * 4 + 3, none⟩ = some (.int .i64 ((rd_T37 y145 (ji25)).f3)) := hcc28 3 _ rfl; have hf28_0 : w44.frozen? ⟨go28, ((ji25) : Int).toNat * 4, none⟩ = false := hfr28 0; have hf28_1 : w44.frozen? ⟨go28, ((ji25) : Int).toNat * 4 + 1, none⟩ = false := hfr28 1; have hf28_2 : w44.frozen? ⟨go28, ((ji25) : Int).toNat * 4 + 2, none⟩ = false := hfr28 2; have hf28_3 : w44.frozen? ⟨go28, ((ji25) : Int).toNat * 4 + 3, none⟩ = false := hfr28 3; clear hcl28 hcc28 hfr28 hM28; replace p28 := eq_true p28; replace q28 := eq_true q28; have HX46 := Aside0.mk (show Kd.R k37 37 w44 w.heap.size (fun _ => True) (.slice (some ⟨go28, 0, none⟩) y145.length co45) y145 from (by (with_reducible repeat (first | apply Kd.R_alloc | apply Kd.R_drewN | apply Kd.R_drew)); exact HO147.out)); obtain ⟨ce46, hcl46, hM46, hcc46, hfr46⟩ := Kd.R_elem HX46.out z37 ((ji25) : Int) (of_decide_eq_true (by first | (with_reducible assumption) | assumption)) (by have h_ : ((ji25) : Int) < ((y145.length : Int) : Int) := of_decide_eq_true (by first | (with_reducible assumption) | assumption); first | exact h_ | (have e_ := (Kd.R_reads' HO147.out).1; omega) | simpa using h_); obtain rfl := k37_openM hM46; have HP46 := Kd.R_seg HX46.out ((ji25) : Int) (of_decide_eq_true (by first | (with_reducible assumption) | assumption)) (by have h_ : ((ji25) : Int) < ((y145.length : Int) : Int) := of_decide_eq_true (by first | (with_reducible assumption) | assumption); first | exact h_ | (have e_ := (Kd.R_reads' HO147.out).1; omega) | simpa using h_) (seg := [.int .i64 (Go.bits .xor .i64 ((rd_T37 y145 (ji25)).f2) a2)]) (j := 2) hcl46 hcc46 (show 3 ≤ 4 from by decide) (x' := (⟨(rd_T37 y145 (ji25)).f0, (rd_T37 y145 (ji25)).f1, Go.bits .xor .i64 ((rd_T37 y145 (ji25)).f2) a2, (rd_T37 y145 (ji25)).f3⟩ : S37)) (k37_mkM _ _ _ (⟨(rd_T37 y145 (ji25)).f0, (rd_T37 y145 (ji25)).f1, Go.bits .xor .i64 ((rd_T37 y145 (ji25)).f2) a2, (rd_T37 y145 (ji25)).f3⟩ : S37) ) (fun _ hk => hk); have hx46_2 := hcc46 2 _ rfl; (try simp only [show (k37).sz = 4 from rfl, Nat.mul_one, Nat.add_zero] at hx46_2); have hf46_2 := hfr46 2; (try simp only [show (k37).sz = 4 from rfl, Nat.mul_one, Nat.add_zero] at hf46_2); clear hcl46 hcc46 hfr46 hM46) | ((with_reducible refine gate_store (t := 3) (p := 59) rfl ?_); refine store_event (t := 3) (p := 59) (v := ?vo_w47) (w1 := (w44.setCell ⟨go28, ((ji25) : Int).toNat * 4 + 2, none⟩ (.int .i64 (Go.bits .xor .i64 ((rd_T37 y145 (ji25)).f2) a2)))) ?hg ?ho ?hn ?hr ?_; (case ho => rfl); (case hg => rfl); (case hn => rfl); (case hr => first | (go_simp; done) | (go_simp; rfl)); intro w47 hw; have hg : w44.grownBy w47 (some go28) := (by rw [hw]; exact HP46.2); have hp_ : Kd.R k37 37 w47 w.heap.size (fun _ => True) (.slice (some ⟨go28, 0, none⟩) y145.length co45) y149 := (by rw [hw, Ny149.out]; exact HP46.1); clear HP46; have n0_ := Aside0.mk (hp_); have n1_ := Aside0.mk ((by rw [hw]; exact below_set (HB.out) GB28.out : Below w.heap.size w w47)); clear HO147; clear HB; have HO147 := n0_; have HB := n1_; clear n0_ n1_; clear hg hw hp_) | ((with_reducible refine gate_callee (f := 10) rfl ?_); refine goesL_ (some 61) rfl rfl Try.func10 (by kernel_rfl) rfl #[.slice (some ⟨go28, 0, none⟩) y149.length co45] rfl (by (try simp only [List.map_toArray, List.map_cons, List.map_nil]); first | done | (rw [show y149.length = y145.length from (Kd.R_reads' HO147.out).1.symm] <;> rfl) | rfl | (simp only [List.length_drop, List.length_take]; rfl)) ?_; (with_reducible refine (op_Put.calls k1 _ _ y149 t150 _ ?side1 ?side2 A29.out).mono ?_); (case side1 => repeat (first | exact (Kd.R_reads' HO147.out).2.2 | (with_reducible refine Kd.C_alloc ?_ _) | (with_reducible refine Kd.C_drewN ?_ _) | (with_reducible refine Kd.C_drew ?_))); (case side2 => rw [show y149.length = y145.length from (Kd.R_reads' HO147.out).1.symm]; exact (Kd.R_reads' HO147.out).2.1); rintro e w48 ⟨rfl, hb⟩; refine ⟨_, rfl, ?_⟩; have n0_ := Aside0.mk (Kd.R_below (by (with_reducible repeat (first | apply Kd.R_alloc | apply Kd.R_drewN | apply Kd.R_drew)); exact HO147.out) hb); have n1_ := Aside0.mk (below_step (by repeat (first | (with_reducible first | exact HB.out | apply below_alloc | apply pw_below_drewN | apply below_drew1) | exact HB.out)) hb); clear HO147; clear HB; have HO147 := n0_; have HB := n1_; clear n0_ n1_; (try clear hb); (try clear hb2); (try clear hk); (try clear hi)))
                        go_ret
                        exact ⟨by first | rfl | (simp [errW_none, errW_some] <;> rfl) | (simp only [← hji25]; first | rfl | (simp [errW_none, errW_some] <;> rfl)) | (simp [*, errW_none, errW_some] <;> rfl), by repeat (first | (with_reducible first | exact HB.out | apply below_alloc | apply pw_below_drewN | apply below_drew1) | exact HB.out)⟩
                    · rw [if_neg c27] at H
                      exact absurd H (by simp)
                  · rw [if_neg c26] at H
                    exact absurd H (by simp)
              · rw [if_neg c23] at H
                exact absurd H (by simp)
          · rw [if_neg c16] at H
            have c16b0 : (x7_1.toList == t140.toList) = false := beq_eq_false_iff_ne.mpr c16
            have c16b1 : (x7_1.toList != t140.toList) = true := bne_iff_ne.mpr c16
            obtain rfl := Option.some.inj H
            go_wp2_with (first | ((with_reducible refine gate_callee (f := 10) rfl ?_); refine goesL_ (some 31) rfl rfl Try.func10 (by kernel_rfl) rfl #[.slice A0 l0.length c0] rfl (by (try simp only [List.map_toArray, List.map_cons, List.map_nil]); first | done | rfl | (simp only [List.length_drop, List.length_take]; rfl)) ?_; (with_reducible refine (op_Put.calls k1 _ _ l0 t140 _ ?side1 ?side2 A15.out).mono ?_); (case side1 => repeat (first | exact (Kd.C_below HR0.out HB.out) | (with_reducible refine Kd.C_alloc ?_ _) | (with_reducible refine Kd.C_drewN ?_ _) | (with_reducible refine Kd.C_drew ?_))); (case side2 => exact HC0.out); rintro e w49 ⟨rfl, hb⟩; refine ⟨_, rfl, ?_⟩; have n0_ := Aside0.mk (below_step (by repeat (first | (with_reducible first | exact HB.out | apply below_alloc | apply pw_below_drewN | apply below_drew1) | exact HB.out)) hb); clear HB; have HB := n0_; clear n0_; (try clear hb); (try clear hb2); (try clear hk); (try clear hi)))
            go_ret
            exact ⟨by first | rfl | (simp [errW_none, errW_some] <;> rfl) | (simp [*, errW_none, errW_some] <;> rfl), by repeat (first | (with_reducible first | exact HB.out | apply below_alloc | apply pw_below_drewN | apply below_drew1) | exact HB.out)⟩

end Go.Proofs.Ytkandpfaonlncaa.POpParts
