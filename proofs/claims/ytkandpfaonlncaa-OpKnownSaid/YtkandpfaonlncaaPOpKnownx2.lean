-- PRINTED BY print.sh 35421559b90ae4d0a3588c463048766b98c2df88dd9212a6774a882060cdf62d: not written by this session
import Derived.Test.YtkandpfaonlncaaPOpKnownx0
import Derived.Test.YtkandpfaonlncaaPOpKnownx1
namespace Go.Proofs.Ytkandpfaonlncaa.POpKnown
open Go.RowKit Go.Proofs.YtkandpfaonlncaaW.PrintWords Go.Proofs.YtkandpfaonlncaaW.PrintLast Go.Proofs.YtkandpfaonlncaaW.PrintMore
attribute [local go_sem] max2_int min2_int max_two min_two max_three min_three max_four min_four   -- for this text's walks alone
set_option linter.unusedVariables false
set_option linter.unusedSimpArgs false

/-! ### gloaminglaw22_OpKnown: function 5 -/
mutual
def gloaminglaw22_OpKnown.j0 : Nat → Int → Int → Int → ByteArray → Bool → Option (Bool)
  | 0, _, _, _, _, _ => none
  | k + 1, x0, x2, x3, x9, x51 => if x51 = true then (some false) else (gloaminglaw22_OpKnown.l0 k x0 x2 x3 x9 0)
def gloaminglaw22_OpKnown.l0 : Nat → Int → Int → Int → ByteArray → Int → Option (Bool)
  | 0, _, _, _, _, _ => none
  | k + 1, x0, x2, x3, x9, x10 => if x10 < 8 then (if x10 > 0 then (if 0 ≤ x10 then (if x10 < (x9.size : Int) then (if (bt x9 x10) = 0 then (if 0 ≤ (wrap64 (16 + x10)) then (if (wrap64 (16 + x10)) < (x9.size : Int) then (if 0 ≤ (wrap64 (8 * x10)) then (if (bt x9 (wrap64 (16 + x10))) = ((shr .u64 (IntKind.u64.wrap (wrap64 (x2))) (wrap64 (8 * x10))) % 256) then (if 0 ≤ (wrap64 (24 + x10)) then (if (wrap64 (24 + x10)) < (x9.size : Int) then (if (bt x9 (wrap64 (24 + x10))) = ((shr .u64 (IntKind.u64.wrap (x3)) (wrap64 (8 * x10))) % 256) then (gloaminglaw22_OpKnown.l0 k x0 x2 x3 x9 (wrap64 (x10 + 1))) else (some false)) else (none)) else (none)) else (some false)) else (none)) else (none)) else (none)) else (some false)) else (none)) else (none)) else (if 0 ≤ (wrap64 (16 + x10)) then (if (wrap64 (16 + x10)) < (x9.size : Int) then (if 0 ≤ (wrap64 (8 * x10)) then (if (bt x9 (wrap64 (16 + x10))) = ((shr .u64 (IntKind.u64.wrap (wrap64 (x2))) (wrap64 (8 * x10))) % 256) then (if 0 ≤ (wrap64 (24 + x10)) then (if (wrap64 (24 + x10)) < (x9.size : Int) then (if (bt x9 (wrap64 (24 + x10))) = ((shr .u64 (IntKind.u64.wrap (x3)) (wrap64 (8 * x10))) % 256) then (gloaminglaw22_OpKnown.l0 k x0 x2 x3 x9 (wrap64 (x10 + 1))) else (some false)) else (none)) else (none)) else (some false)) else (none)) else (none)) else (none))) else ((op_Get.f k x9).bind fun bt138 => ((gloaminglaw1_Err.f bt138.2).bind fun t142 => (if t142 = 0 then (if (bt138.1.length : Int) = 1 then (if 0 < (bt138.1.length : Int) then (if ((rd_T37 bt138.1 0).f0) = (wrap64 (x0)) then (if ((rd_T37 bt138.1 0).f3) = x3 then ((gloaminglaw22_awake.f k).bind fun t145 => (some t145)) else (some false)) else (some false)) else (none)) else (some false)) else (some false))))
end
def gloaminglaw22_OpKnown.f (k : Nat) (a0 : Int) (a1 : Int) (a2 : Int) (a3 : Int) : Option (Bool) := (op_Put.f k (([(⟨wrap64 (a0), wrap64 (a1), wrap64 (a2), a3⟩ : S37)] : List (S37)))).bind fun t137 => (if (t137.size : Int) = 32 then (if 0 < (t137.size : Int) then (if (bt t137 0) = a0 then (if 8 < (t137.size : Int) then (if (bt t137 8) = ((a1) % 256) then (if 9 < (t137.size : Int) then (if (bt t137 9) = ((a1 / 256) % 256) then (if 10 < (t137.size : Int) then (gloaminglaw22_OpKnown.j0 k a0 a2 a3 t137 ((bt t137 10) != 0)) else (none)) else (gloaminglaw22_OpKnown.j0 k a0 a2 a3 t137 true)) else (none)) else (gloaminglaw22_OpKnown.j0 k a0 a2 a3 t137 true)) else (none)) else (gloaminglaw22_OpKnown.j0 k a0 a2 a3 t137 true)) else (none)) else (gloaminglaw22_OpKnown.j0 k a0 a2 a3 t137 true))
theorem gloaminglaw22_OpKnown.mono_l : ∀ k, (∀ y0 y1 y2 y3 y4, LeO (gloaminglaw22_OpKnown.j0 k y0 y1 y2 y3 y4) (gloaminglaw22_OpKnown.j0 (k + 1) y0 y1 y2 y3 y4)) ∧ (∀ y0 y1 y2 y3 y4, LeO (gloaminglaw22_OpKnown.l0 k y0 y1 y2 y3 y4) (gloaminglaw22_OpKnown.l0 (k + 1) y0 y1 y2 y3 y4))
  | 0 => ⟨fun _ _ _ _ _ r h => by simp [gloaminglaw22_OpKnown.j0] at h, fun _ _ _ _ _ r h => by simp [gloaminglaw22_OpKnown.l0] at h⟩
  | k + 1 => by
    obtain ⟨ih0, ih1⟩ := gloaminglaw22_OpKnown.mono_l k
    refine ⟨?_, ?_⟩
    · intro y0 y1 y2 y3 y4
      unfold gloaminglaw22_OpKnown.j0
      repeat' first
      | (with_reducible exact ih0 _ _ _ _ _)
      | (with_reducible exact ih1 _ _ _ _ _)
      | (with_reducible exact gloaminglaw22_awake.mono _)
      | (with_reducible exact op_Get.mono _ _)
      | (with_reducible exact op_Put.mono _ _)
      | (with_reducible exact LeO.refl _)
      | (with_reducible exact LeO.none _)
      | (with_reducible refine LeO.ite ?_ ?_)
      | (with_reducible refine LeO.bind ?_ (fun _ => ?_))
      | exact ih0 _ _ _ _ _
      | exact ih1 _ _ _ _ _
      | exact gloaminglaw22_awake.mono _
      | exact op_Get.mono _ _
      | exact op_Put.mono _ _
      | exact LeO.none _
      | refine LeO.ite ?_ ?_
      | refine LeO.bind ?_ (fun _ => ?_)
    · intro y0 y1 y2 y3 y4
      unfold gloaminglaw22_OpKnown.l0
      repeat' first
      | (with_reducible exact ih0 _ _ _ _ _)
      | (with_reducible exact ih1 _ _ _ _ _)
      | (with_reducible exact gloaminglaw22_awake.mono _)
      | (with_reducible exact op_Get.mono _ _)
      | (with_reducible exact op_Put.mono _ _)
      | (with_reducible exact LeO.refl _)
      | (with_reducible exact LeO.none _)
      | (with_reducible refine LeO.ite ?_ ?_)
      | (with_reducible refine LeO.bind ?_ (fun _ => ?_))
      | exact ih0 _ _ _ _ _
      | exact ih1 _ _ _ _ _
      | exact gloaminglaw22_awake.mono _
      | exact op_Get.mono _ _
      | exact op_Put.mono _ _
      | exact LeO.none _
      | refine LeO.ite ?_ ?_
      | refine LeO.bind ?_ (fun _ => ?_)
theorem gloaminglaw22_OpKnown.mono : ∀ a0 a1 a2 a3 k, LeO (gloaminglaw22_OpKnown.f k a0 a1 a2 a3) (gloaminglaw22_OpKnown.f (k + 1) a0 a1 a2 a3) := by
  intro a0 a1 a2 a3 k
  obtain ⟨ih0, ih1⟩ := gloaminglaw22_OpKnown.mono_l k
  unfold gloaminglaw22_OpKnown.f
  repeat' first
      | (with_reducible exact ih0 _ _ _ _ _)
      | (with_reducible exact ih1 _ _ _ _ _)
      | (with_reducible exact gloaminglaw22_awake.mono _)
      | (with_reducible exact op_Get.mono _ _)
      | (with_reducible exact op_Put.mono _ _)
      | (with_reducible exact LeO.refl _)
      | (with_reducible exact LeO.none _)
      | (with_reducible refine LeO.ite ?_ ?_)
      | (with_reducible refine LeO.bind ?_ (fun _ => ?_))
      | exact ih0 _ _ _ _ _
      | exact ih1 _ _ _ _ _
      | exact gloaminglaw22_awake.mono _
      | exact op_Get.mono _ _
      | exact op_Put.mono _ _
      | exact LeO.none _
      | refine LeO.ite ?_ ?_
      | refine LeO.bind ?_ (fun _ => ?_)
set_option maxHeartbeats 8000000 in
set_option maxRecDepth 100000 in
theorem gloaminglaw22_OpKnown.calls (k : Nat) (a0 : Int) (a1 : Int) (a2 : Int) (a3 : Int) (r : Bool) (w : World) (h : gloaminglaw22_OpKnown.f k a0 a1 a2 a3 = some r) :
    Calls Try.prog 5 #[.int .u8 a0, .int .u16 a1, .int .i32 a2, .int .i64 a3] w fun e w' => e = .returned (.bool r) ∧ Below w.heap.size w w' := by
  have hu37 := Try.underlying37
  have HB := Aside0.mk (Below.refl w.heap.size w)
  have H : ((op_Put.f k (([(⟨wrap64 (a0), wrap64 (a1), wrap64 (a2), a3⟩ : S37)] : List (S37)))).bind fun t137 => (if (t137.size : Int) = 32 then (if 0 < (t137.size : Int) then (if (bt t137 0) = a0 then (if 8 < (t137.size : Int) then (if (bt t137 8) = ((a1) % 256) then (if 9 < (t137.size : Int) then (if (bt t137 9) = ((a1 / 256) % 256) then (if 10 < (t137.size : Int) then (gloaminglaw22_OpKnown.j0 k a0 a2 a3 t137 ((bt t137 10) != 0)) else (none)) else (gloaminglaw22_OpKnown.j0 k a0 a2 a3 t137 true)) else (none)) else (gloaminglaw22_OpKnown.j0 k a0 a2 a3 t137 true)) else (none)) else (gloaminglaw22_OpKnown.j0 k a0 a2 a3 t137 true)) else (none)) else (gloaminglaw22_OpKnown.j0 k a0 a2 a3 t137 true))) = some r := h
  clear h
  obtain ⟨y134, hy134⟩ : ∃ y_ : List (S37), y_ = (([(⟨wrap64 (a0), wrap64 (a1), wrap64 (a2), a3⟩ : S37)] : List (S37))) := ⟨_, rfl⟩
  replace H : ((op_Put.f k y134).bind fun t137 => (if (t137.size : Int) = 32 then (if 0 < (t137.size : Int) then (if (bt t137 0) = a0 then (if 8 < (t137.size : Int) then (if (bt t137 8) = ((a1) % 256) then (if 9 < (t137.size : Int) then (if (bt t137 9) = ((a1 / 256) % 256) then (if 10 < (t137.size : Int) then (gloaminglaw22_OpKnown.j0 k a0 a2 a3 t137 ((bt t137 10) != 0)) else (none)) else (gloaminglaw22_OpKnown.j0 k a0 a2 a3 t137 true)) else (none)) else (gloaminglaw22_OpKnown.j0 k a0 a2 a3 t137 true)) else (none)) else (gloaminglaw22_OpKnown.j0 k a0 a2 a3 t137 true)) else (none)) else (gloaminglaw22_OpKnown.j0 k a0 a2 a3 t137 true))) = some r := by first | (rw [hy134]; with_reducible exact H) | (have H2_ := (Option.bind_some _ _).symm.trans H; rw [hy134]; with_reducible exact H2_) | (have H2_ := (Option.bind_some _ _).symm.trans H; with_reducible exact H2_) | with_reducible exact H | (rw [hy134]; exact H) | exact H
  have Ny134 := Aside0.mk hy134
  clear hy134
  replace H := Option.bind_eq_some_iff.mp H
  obtain ⟨t137, A50, H⟩ := H
  replace H : (if (t137.size : Int) = 32 then (if 0 < (t137.size : Int) then (if (bt t137 0) = a0 then (if 8 < (t137.size : Int) then (if (bt t137 8) = ((a1) % 256) then (if 9 < (t137.size : Int) then (if (bt t137 9) = ((a1 / 256) % 256) then (if 10 < (t137.size : Int) then (gloaminglaw22_OpKnown.j0 k a0 a2 a3 t137 ((bt t137 10) != 0)) else (none)) else (gloaminglaw22_OpKnown.j0 k a0 a2 a3 t137 true)) else (none)) else (gloaminglaw22_OpKnown.j0 k a0 a2 a3 t137 true)) else (none)) else (gloaminglaw22_OpKnown.j0 k a0 a2 a3 t137 true)) else (none)) else (gloaminglaw22_OpKnown.j0 k a0 a2 a3 t137 true)) = some r := H
  have A5 := Aside0.mk A50
  clear A50
  have HC6 := Aside0.mk H
  clear H
  go_enter Try.func5, Try.ntmps5
  go_upto_region 2 with (first | ((with_reducible refine gate_dst (N := 21) rfl ?_); (try (refine gate_guard (by rfl) ?_; dsimp only)); refine Kd.R_lit k37 _ 37 ?hg (N := 21) ?hd (xs := ([(⟨wrap64 (a0), wrap64 (a1), wrap64 (a2), a3⟩ : S37)] : List (S37))) (inner := [.int .i64 (wrap64 (a0)), .int .i64 (wrap64 (a1)), .int .i64 (wrap64 (a2)), .int .i64 a3]) (ok := fun _ => True) (okp := fun _ => True) ?hr ?hp (fun _ hk => hk) trivial (Below.refl _ _) (Nat.le_refl _) (by simp) ?_; (case hd => rfl); (case hg => rfl); (case hr => first | (go_simp; done) | (go_simp; rfl)); (case hp => exact (Reps.c4 (show Kd.M k37 _ _ _ (⟨wrap64 (a0), wrap64 (a1), wrap64 (a2), a3⟩ : S37) [.int .i64 (wrap64 (a0)), .int .i64 (wrap64 (a1)), .int .i64 (wrap64 (a2)), .int .i64 a3] from (k37_mkM _ _ _ (⟨wrap64 (a0), wrap64 (a1), wrap64 (a2), a3⟩ : S37) )) (Reps.none _ _))); intro v135 w7 ho8 hb hg_ hnew_; clear hg_ hnew_; (first | rw [← Ny134.out] at ho8 | (simp only [Int.reduceToNat] at ho8; rw [← Ny134.out] at ho8)); have n0_ := Aside0.mk (Kd.R_lower ho8 (below_size (by repeat (first | (with_reducible first | exact HB.out | apply below_alloc | apply pw_below_drewN | apply below_drew1) | exact HB.out)))); have n1_ := Aside0.mk (below_step (by repeat (first | (with_reducible first | exact HB.out | apply below_alloc | apply pw_below_drewN | apply below_drew1) | exact HB.out)) hb); clear HB; have HO136 := n0_; have HB := n1_; clear n0_ n1_; clear hb ho8; obtain ⟨Ao9, co9, eo9⟩ := Kd.R_slice HO136.out; subst eo9) | (go_at_call 10; (with_reducible refine (op_Put.calls k _ _ y134 t137 _ ?side1 ?side2 A5.out).mono ?_); (case side1 => repeat (first | exact (Kd.R_reads' HO136.out).2.2 | (with_reducible refine Kd.C_alloc ?_ _) | (with_reducible refine Kd.C_drewN ?_ _) | (with_reducible refine Kd.C_drew ?_))); (case side2 => exact (Kd.R_reads' HO136.out).2.1); rintro e w10 ⟨rfl, hb⟩; have n0_ := Aside0.mk (Kd.R_below (by (with_reducible repeat (first | apply Kd.R_alloc | apply Kd.R_drewN | apply Kd.R_drew)); exact HO136.out) hb); have n1_ := Aside0.mk (below_step (by repeat (first | (with_reducible first | exact HB.out | apply below_alloc | apply pw_below_drewN | apply below_drew1) | exact HB.out)) hb); clear HO136; clear HB; have HO136 := n0_; have HB := n1_; clear n0_ n1_; (try clear hb); (try clear hb2); (try clear hk); (try clear hi)))
  repeat (go_quiet (first | ((with_reducible refine gate_dst (N := 21) rfl ?_); (try (refine gate_guard (by rfl) ?_; dsimp only)); refine Kd.R_lit k37 _ 37 ?hg (N := 21) ?hd (xs := ([(⟨wrap64 (a0), wrap64 (a1), wrap64 (a2), a3⟩ : S37)] : List (S37))) (inner := [.int .i64 (wrap64 (a0)), .int .i64 (wrap64 (a1)), .int .i64 (wrap64 (a2)), .int .i64 a3]) (ok := fun _ => True) (okp := fun _ => True) ?hr ?hp (fun _ hk => hk) trivial (Below.refl _ _) (Nat.le_refl _) (by simp) ?_; (case hd => rfl); (case hg => rfl); (case hr => first | (go_simp; done) | (go_simp; rfl)); (case hp => exact (Reps.c4 (show Kd.M k37 _ _ _ (⟨wrap64 (a0), wrap64 (a1), wrap64 (a2), a3⟩ : S37) [.int .i64 (wrap64 (a0)), .int .i64 (wrap64 (a1)), .int .i64 (wrap64 (a2)), .int .i64 a3] from (k37_mkM _ _ _ (⟨wrap64 (a0), wrap64 (a1), wrap64 (a2), a3⟩ : S37) )) (Reps.none _ _))); intro v135 w7 ho8 hb hg_ hnew_; clear hg_ hnew_; (first | rw [← Ny134.out] at ho8 | (simp only [Int.reduceToNat] at ho8; rw [← Ny134.out] at ho8)); have n0_ := Aside0.mk (Kd.R_lower ho8 (below_size (by repeat (first | (with_reducible first | exact HB.out | apply below_alloc | apply pw_below_drewN | apply below_drew1) | exact HB.out)))); have n1_ := Aside0.mk (below_step (by repeat (first | (with_reducible first | exact HB.out | apply below_alloc | apply pw_below_drewN | apply below_drew1) | exact HB.out)) hb); clear HB; have HO136 := n0_; have HB := n1_; clear n0_ n1_; clear hb ho8; obtain ⟨Ao9, co9, eo9⟩ := Kd.R_slice HO136.out; subst eo9) | (go_at_call 10; (with_reducible refine (op_Put.calls k _ _ y134 t137 _ ?side1 ?side2 A5.out).mono ?_); (case side1 => repeat (first | exact (Kd.R_reads' HO136.out).2.2 | (with_reducible refine Kd.C_alloc ?_ _) | (with_reducible refine Kd.C_drewN ?_ _) | (with_reducible refine Kd.C_drew ?_))); (case side2 => exact (Kd.R_reads' HO136.out).2.1); rintro e w10 ⟨rfl, hb⟩; have n0_ := Aside0.mk (Kd.R_below (by (with_reducible repeat (first | apply Kd.R_alloc | apply Kd.R_drewN | apply Kd.R_drew)); exact HO136.out) hb); have n1_ := Aside0.mk (below_step (by repeat (first | (with_reducible first | exact HB.out | apply below_alloc | apply pw_below_drewN | apply below_drew1) | exact HB.out)) hb); clear HO136; clear HB; have HO136 := n0_; have HB := n1_; clear n0_ n1_; (try clear hb); (try clear hb2); (try clear hk); (try clear hi))); go_upto_region 2 with (first | ((with_reducible refine gate_dst (N := 21) rfl ?_); (try (refine gate_guard (by rfl) ?_; dsimp only)); refine Kd.R_lit k37 _ 37 ?hg (N := 21) ?hd (xs := ([(⟨wrap64 (a0), wrap64 (a1), wrap64 (a2), a3⟩ : S37)] : List (S37))) (inner := [.int .i64 (wrap64 (a0)), .int .i64 (wrap64 (a1)), .int .i64 (wrap64 (a2)), .int .i64 a3]) (ok := fun _ => True) (okp := fun _ => True) ?hr ?hp (fun _ hk => hk) trivial (Below.refl _ _) (Nat.le_refl _) (by simp) ?_; (case hd => rfl); (case hg => rfl); (case hr => first | (go_simp; done) | (go_simp; rfl)); (case hp => exact (Reps.c4 (show Kd.M k37 _ _ _ (⟨wrap64 (a0), wrap64 (a1), wrap64 (a2), a3⟩ : S37) [.int .i64 (wrap64 (a0)), .int .i64 (wrap64 (a1)), .int .i64 (wrap64 (a2)), .int .i64 a3] from (k37_mkM _ _ _ (⟨wrap64 (a0), wrap64 (a1), wrap64 (a2), a3⟩ : S37) )) (Reps.none _ _))); intro v135 w7 ho8 hb hg_ hnew_; clear hg_ hnew_; (first | rw [← Ny134.out] at ho8 | (simp only [Int.reduceToNat] at ho8; rw [← Ny134.out] at ho8)); have n0_ := Aside0.mk (Kd.R_lower ho8 (below_size (by repeat (first | (with_reducible first | exact HB.out | apply below_alloc | apply pw_below_drewN | apply below_drew1) | exact HB.out)))); have n1_ := Aside0.mk (below_step (by repeat (first | (with_reducible first | exact HB.out | apply below_alloc | apply pw_below_drewN | apply below_drew1) | exact HB.out)) hb); clear HB; have HO136 := n0_; have HB := n1_; clear n0_ n1_; clear hb ho8; obtain ⟨Ao9, co9, eo9⟩ := Kd.R_slice HO136.out; subst eo9) | (go_at_call 10; (with_reducible refine (op_Put.calls k _ _ y134 t137 _ ?side1 ?side2 A5.out).mono ?_); (case side1 => repeat (first | exact (Kd.R_reads' HO136.out).2.2 | (with_reducible refine Kd.C_alloc ?_ _) | (with_reducible refine Kd.C_drewN ?_ _) | (with_reducible refine Kd.C_drew ?_))); (case side2 => exact (Kd.R_reads' HO136.out).2.1); rintro e w10 ⟨rfl, hb⟩; have n0_ := Aside0.mk (Kd.R_below (by (with_reducible repeat (first | apply Kd.R_alloc | apply Kd.R_drewN | apply Kd.R_drew)); exact HO136.out) hb); have n1_ := Aside0.mk (below_step (by repeat (first | (with_reducible first | exact HB.out | apply below_alloc | apply pw_below_drewN | apply below_drew1) | exact HB.out)) hb); clear HO136; clear HB; have HO136 := n0_; have HB := n1_; clear n0_ n1_; (try clear hb); (try clear hb2); (try clear hk); (try clear hi))))
  (try simp only [Act.put, List.setIfInBounds_toArray, List.set_cons_zero, List.set_cons_succ])
  go_cut [51] (fun v51 wc => ∃ (kq : Nat) (x51_5 : Bool), v51 = .bool x51_5 ∧ Aside0 (gloaminglaw22_OpKnown.j0 kq a0 a2 a3 t137 x51_5 = some r) ∧ Aside0 (kq ≤ k) ∧ Aside0 (Below w.heap.size w wc))
  case first =>
    have H := HC6.out
    clear HC6
    by_cases c11 : (t137.size : Int) = 32
    · rw [if_pos c11] at H
      have c11b0 : ((t137.size : Int) == 32) = true := beq_iff_eq.mpr c11
      have c11b1 : ((t137.size : Int) != 32) = false := bne_eq_false_iff_eq.mpr c11
      clear c11
      (first | rw [c11b0] | (simp only [i64_w, i32_w]; rw [c11b0]) | skip)
      by_cases c12 : 0 < (t137.size : Int)
      · rw [if_pos c12] at H
        have c12b0 : decide (0 < (t137.size : Int)) = true := decide_eq_true c12
        have c12b1 : decide (0 < t137.size) = true := decide_eq_true (by omega)
        clear c12
        by_cases c14 : (bt t137 0) = a0
        · rw [if_pos c14] at H
          have c14b0 : ((bt t137 0) == a0) = true := beq_iff_eq.mpr c14
          have c14b1 : ((bt t137 0) != a0) = false := bne_eq_false_iff_eq.mpr c14
          clear c14
          by_cases c15 : 8 < (t137.size : Int)
          · rw [if_pos c15] at H
            have c15b0 : decide (8 < (t137.size : Int)) = true := decide_eq_true c15
            have c15b1 : decide (8 < t137.size) = true := decide_eq_true (by omega)
            clear c15
            by_cases c17 : (bt t137 8) = ((a1) % 256)
            · rw [if_pos c17] at H
              have c17b0 : ((bt t137 8) == ((a1) % 256)) = true := beq_iff_eq.mpr c17
              have c17b1 : ((bt t137 8) != ((a1) % 256)) = false := bne_eq_false_iff_eq.mpr c17
              clear c17
              by_cases c18 : 9 < (t137.size : Int)
              · rw [if_pos c18] at H
                have c18b0 : decide (9 < (t137.size : Int)) = true := decide_eq_true c18
                have c18b1 : decide (9 < t137.size) = true := decide_eq_true (by omega)
                clear c18
                by_cases c20 : (bt t137 9) = ((a1 / 256) % 256)
                · rw [if_pos c20] at H
                  have c20b0 : ((bt t137 9) == ((a1 / 256) % 256)) = true := beq_iff_eq.mpr c20
                  have c20b1 : ((bt t137 9) != ((a1 / 256) % 256)) = false := bne_eq_false_iff_eq.mpr c20
                  clear c20
                  by_cases c21 : 10 < (t137.size : Int)
                  · rw [if_pos c21] at H
                    have c21b0 : decide (10 < (t137.size : Int)) = true := decide_eq_true c21
                    have c21b1 : decide (10 < t137.size) = true := decide_eq_true (by omega)
                    clear c21
                    have H' := Aside0.mk H
                    clear H
                    have p13 : 0 ≤ (0 : Int) := (by omega)
                    have q13 : 0 < t137.size := (by have : (0 : Int) < (t137.size : Int) := of_decide_eq_true (by first | (with_reducible assumption) | assumption); omega)
                    have hx13 : ∀ h : 0 < t137.size, ((t137[0]'h).toNat : Int) = bt t137 0 := bt_at t137 0
                    clear p13
                    have qi13 : (0 < (t137.size : Int)) = True := eq_true (of_decide_eq_true (by first | (with_reducible assumption) | assumption))
                    replace q13 := eq_true q13
                    have p16 : 0 ≤ (8 : Int) := (by omega)
                    have q16 : 8 < t137.size := (by have : (8 : Int) < (t137.size : Int) := of_decide_eq_true (by first | (with_reducible assumption) | assumption); omega)
                    have hx16 : ∀ h : 8 < t137.size, ((t137[8]'h).toNat : Int) = bt t137 8 := bt_at t137 8
                    clear p16
                    have qi16 : (8 < (t137.size : Int)) = True := eq_true (of_decide_eq_true (by first | (with_reducible assumption) | assumption))
                    replace q16 := eq_true q16
                    have p19 : 0 ≤ (9 : Int) := (by omega)
                    have q19 : 9 < t137.size := (by have : (9 : Int) < (t137.size : Int) := of_decide_eq_true (by first | (with_reducible assumption) | assumption); omega)
                    have hx19 : ∀ h : 9 < t137.size, ((t137[9]'h).toNat : Int) = bt t137 9 := bt_at t137 9
                    clear p19
                    have qi19 : (9 < (t137.size : Int)) = True := eq_true (of_decide_eq_true (by first | (with_reducible assumption) | assumption))
                    replace q19 := eq_true q19
                    have p22 : 0 ≤ (10 : Int) := (by omega)
                    have q22 : 10 < t137.size := (by have : (10 : Int) < (t137.size : Int) := of_decide_eq_true (by first | (with_reducible assumption) | assumption); omega)
                    have hx22 : ∀ h : 10 < t137.size, ((t137[10]'h).toNat : Int) = bt t137 10 := bt_at t137 10
                    clear p22
                    have qi22 : (10 < (t137.size : Int)) = True := eq_true (of_decide_eq_true (by first | (with_reducible assumption) | assumption))
                    replace q22 := eq_true q22
                    go_wp2
                    repeat (go_quiet (fail); try go_wp2)
                    go_meet
                    case rel => exact ⟨_, (((bt t137 10) != 0)), (by first | rfl | (simp; done) | (simp [*]; done)), H', ⟨by first | omega | exact Nat.le_refl _⟩, ⟨by repeat (first | (with_reducible first | exact HB.out | apply below_alloc | apply pw_below_drewN | apply below_drew1) | exact HB.out)⟩⟩
                  · rw [if_neg c21] at H
                    exact absurd H (by simp)
                · rw [if_neg c20] at H
                  have c20b0 : ((bt t137 9) == ((a1 / 256) % 256)) = false := beq_eq_false_iff_ne.mpr c20
                  have c20b1 : ((bt t137 9) != ((a1 / 256) % 256)) = true := bne_iff_ne.mpr c20
                  have H' := Aside0.mk H
                  clear H
                  have p13 : 0 ≤ (0 : Int) := (by omega)
                  have q13 : 0 < t137.size := (by have : (0 : Int) < (t137.size : Int) := of_decide_eq_true (by first | (with_reducible assumption) | assumption); omega)
                  have hx13 : ∀ h : 0 < t137.size, ((t137[0]'h).toNat : Int) = bt t137 0 := bt_at t137 0
                  clear p13
                  have qi13 : (0 < (t137.size : Int)) = True := eq_true (of_decide_eq_true (by first | (with_reducible assumption) | assumption))
                  replace q13 := eq_true q13
                  have p16 : 0 ≤ (8 : Int) := (by omega)
                  have q16 : 8 < t137.size := (by have : (8 : Int) < (t137.size : Int) := of_decide_eq_true (by first | (with_reducible assumption) | assumption); omega)
                  have hx16 : ∀ h : 8 < t137.size, ((t137[8]'h).toNat : Int) = bt t137 8 := bt_at t137 8
                  clear p16
                  have qi16 : (8 < (t137.size : Int)) = True := eq_true (of_decide_eq_true (by first | (with_reducible assumption) | assumption))
                  replace q16 := eq_true q16
                  have p19 : 0 ≤ (9 : Int) := (by omega)
                  have q19 : 9 < t137.size := (by have : (9 : Int) < (t137.size : Int) := of_decide_eq_true (by first | (with_reducible assumption) | assumption); omega)
                  have hx19 : ∀ h : 9 < t137.size, ((t137[9]'h).toNat : Int) = bt t137 9 := bt_at t137 9
                  clear p19
                  have qi19 : (9 < (t137.size : Int)) = True := eq_true (of_decide_eq_true (by first | (with_reducible assumption) | assumption))
                  replace q19 := eq_true q19
                  go_wp2
                  repeat (go_quiet (fail); try go_wp2)
                  go_meet
                  case rel => exact ⟨_, (true), (by first | rfl | (simp; done) | (simp [*]; done)), H', ⟨by first | omega | exact Nat.le_refl _⟩, ⟨by repeat (first | (with_reducible first | exact HB.out | apply below_alloc | apply pw_below_drewN | apply below_drew1) | exact HB.out)⟩⟩
              · rw [if_neg c18] at H
                exact absurd H (by simp)
            · rw [if_neg c17] at H
              have c17b0 : ((bt t137 8) == ((a1) % 256)) = false := beq_eq_false_iff_ne.mpr c17
              have c17b1 : ((bt t137 8) != ((a1) % 256)) = true := bne_iff_ne.mpr c17
              have H' := Aside0.mk H
              clear H
              have p13 : 0 ≤ (0 : Int) := (by omega)
              have q13 : 0 < t137.size := (by have : (0 : Int) < (t137.size : Int) := of_decide_eq_true (by first | (with_reducible assumption) | assumption); omega)
              have hx13 : ∀ h : 0 < t137.size, ((t137[0]'h).toNat : Int) = bt t137 0 := bt_at t137 0
              clear p13
              have qi13 : (0 < (t137.size : Int)) = True := eq_true (of_decide_eq_true (by first | (with_reducible assumption) | assumption))
              replace q13 := eq_true q13
              have p16 : 0 ≤ (8 : Int) := (by omega)
              have q16 : 8 < t137.size := (by have : (8 : Int) < (t137.size : Int) := of_decide_eq_true (by first | (with_reducible assumption) | assumption); omega)
              have hx16 : ∀ h : 8 < t137.size, ((t137[8]'h).toNat : Int) = bt t137 8 := bt_at t137 8
              clear p16
              have qi16 : (8 < (t137.size : Int)) = True := eq_true (of_decide_eq_true (by first | (with_reducible assumption) | assumption))
              replace q16 := eq_true q16
              go_wp2
              repeat (go_quiet (fail); try go_wp2)
              go_meet
              case rel => exact ⟨_, (true), (by first | rfl | (simp; done) | (simp [*]; done)), H', ⟨by first | omega | exact Nat.le_refl _⟩, ⟨by repeat (first | (with_reducible first | exact HB.out | apply below_alloc | apply pw_below_drewN | apply below_drew1) | exact HB.out)⟩⟩
          · rw [if_neg c15] at H
            exact absurd H (by simp)
        · rw [if_neg c14] at H
          have c14b0 : ((bt t137 0) == a0) = false := beq_eq_false_iff_ne.mpr c14
          have c14b1 : ((bt t137 0) != a0) = true := bne_iff_ne.mpr c14
          have H' := Aside0.mk H
          clear H
          have p13 : 0 ≤ (0 : Int) := (by omega)
          have q13 : 0 < t137.size := (by have : (0 : Int) < (t137.size : Int) := of_decide_eq_true (by first | (with_reducible assumption) | assumption); omega)
          have hx13 : ∀ h : 0 < t137.size, ((t137[0]'h).toNat : Int) = bt t137 0 := bt_at t137 0
          clear p13
          have qi13 : (0 < (t137.size : Int)) = True := eq_true (of_decide_eq_true (by first | (with_reducible assumption) | assumption))
          replace q13 := eq_true q13
          go_wp2
          repeat (go_quiet (fail); try go_wp2)
          go_meet
          case rel => exact ⟨_, (true), (by first | rfl | (simp; done) | (simp [*]; done)), H', ⟨by first | omega | exact Nat.le_refl _⟩, ⟨by repeat (first | (with_reducible first | exact HB.out | apply below_alloc | apply pw_below_drewN | apply below_drew1) | exact HB.out)⟩⟩
      · rw [if_neg c12] at H
        exact absurd H (by simp)
    · rw [if_neg c11] at H
      have c11b0 : ((t137.size : Int) == 32) = false := beq_eq_false_iff_ne.mpr c11
      have c11b1 : ((t137.size : Int) != 32) = true := bne_iff_ne.mpr c11
      (first | rw [c11b0] | (simp only [i64_w, i32_w]; rw [c11b0]) | skip)
      have H' := Aside0.mk H
      clear H
      go_wp2
      repeat (go_quiet (fail); try go_wp2)
      go_meet
      case rel => exact ⟨_, (true), (by first | rfl | (simp; done) | (simp [*]; done)), H', ⟨by first | omega | exact Nat.le_refl _⟩, ⟨by repeat (first | (with_reducible first | exact HB.out | apply below_alloc | apply pw_below_drewN | apply below_drew1) | exact HB.out)⟩⟩
  case rest =>
    clear HC6
    try clear c1
    try clear p1
    try clear q1
    try clear hx1
    try clear qi1
    try clear c2
    try clear p2
    try clear q2
    try clear hx2
    try clear qi2
    try clear c4
    try clear c5
    try clear p6
    try clear c11
    try clear c11b0
    try clear c11b1
    try clear c12
    try clear c12b0
    try clear c12b1
    try clear p13
    try clear q13
    try clear hx13
    try clear qi13
    try clear c14
    try clear c14b0
    try clear c14b1
    try clear c15
    try clear c15b0
    try clear c15b1
    try clear p16
    try clear q16
    try clear hx16
    try clear qi16
    try clear c17
    try clear c17b0
    try clear c17b1
    try clear c18
    try clear c18b0
    try clear c18b1
    try clear p19
    try clear q19
    try clear hx19
    try clear qi19
    try clear c20
    try clear c20b0
    try clear c20b1
    try clear c21
    try clear c21b0
    try clear c21b1
    try clear p22
    try clear q22
    try clear hx22
    try clear qi22
    try clear p13
    try clear p16
    try clear p19
    try clear p22
    try clear q13
    try clear q16
    try clear q19
    try clear q22
    obtain ⟨kq, x51_5, rfl, HA, HJ5, HB⟩ := hcut
    cases kq with
    | zero => exact absurd HA.out (by simp [gloaminglaw22_OpKnown.j0])
    | succ kj5 =>
      have H := HA.out
      clear HA
      simp only [gloaminglaw22_OpKnown.j0] at H
      by_cases c23 : x51_5 = true
      · subst c23
        have H1 : (some false) = some r := by rw [if_pos rfl] at H; exact H
        clear H
        have H := H1
        clear H1
        obtain rfl := Option.some.inj H
        go_wp2
        repeat (go_quiet (fail); try go_wp2)
        go_ret
        exact ⟨by first | rfl | (simp [errW_none, errW_some] <;> rfl) | (simp [*, errW_none, errW_some] <;> rfl), by repeat (first | (with_reducible first | exact HB.out | apply below_alloc | apply pw_below_drewN | apply below_drew1) | exact HB.out)⟩
      · replace c23 := Bool.eq_false_iff.mpr c23
        subst c23
        have H1 : (gloaminglaw22_OpKnown.l0 kj5 a0 a2 a3 t137 0) = some r := by rw [if_neg (show ¬ (false = true) by decide)] at H; exact H
        clear H
        have H := H1
        clear H1
        have H' := Aside0.mk H
        clear H
        go_wp2
        repeat (go_quiet (fail); try go_wp2)
        go_loopg [10] kj5 (fun kq v10 w' => ∃ (x10_2 : Int), v10 = .int .i64 x10_2 ∧ Aside0 (gloaminglaw22_OpKnown.l0 kq a0 a2 a3 t137 x10_2 = some r) ∧ Aside0 (kq ≤ kj5) ∧ Aside0 (Below w.heap.size w w'))
        case atStart => exact ⟨(0), (by first | rfl | (simp; done) | (simp [*]; done)), H', ⟨Nat.le_refl _⟩, ⟨by repeat (first | (with_reducible first | exact HB.out | apply below_alloc | apply pw_below_drewN | apply below_drew1) | exact HB.out)⟩⟩
        case round =>
          clear H'
          try clear c1
          try clear p1
          try clear q1
          try clear hx1
          try clear qi1
          try clear c2
          try clear p2
          try clear q2
          try clear hx2
          try clear qi2
          try clear c4
          try clear c5
          try clear p6
          try clear c11
          try clear c11b0
          try clear c11b1
          try clear c12
          try clear c12b0
          try clear c12b1
          try clear p13
          try clear q13
          try clear hx13
          try clear qi13
          try clear c14
          try clear c14b0
          try clear c14b1
          try clear c15
          try clear c15b0
          try clear c15b1
          try clear p16
          try clear q16
          try clear hx16
          try clear qi16
          try clear c17
          try clear c17b0
          try clear c17b1
          try clear c18
          try clear c18b0
          try clear c18b1
          try clear p19
          try clear q19
          try clear hx19
          try clear qi19
          try clear c20
          try clear c20b0
          try clear c20b1
          try clear c21
          try clear c21b0
          try clear c21b1
          try clear p22
          try clear q22
          try clear hx22
          try clear qi22
          try clear c23
          try clear p1
          try clear p13
          try clear p16
          try clear p19
          try clear p2
          try clear p22
          try clear p6
          try clear q1
          try clear q13
          try clear q16
          try clear q19
          try clear q2
          try clear q22
          obtain ⟨x10_2, rfl, HA, HK2, HB⟩ := hrel
          cases gk with
          | zero => exact absurd HA.out (by simp [gloaminglaw22_OpKnown.l0])
          | succ k2 =>
            have H := HA.out
            clear HA
            simp only [gloaminglaw22_OpKnown.l0] at H
            by_cases c24 : x10_2 < 8
            · rw [if_pos c24] at H
              have c24b0 : decide (x10_2 < 8) = true := decide_eq_true c24
              clear c24
              by_cases c25 : x10_2 > 0
              · rw [if_pos c25] at H
                have c25b0 : decide (0 < x10_2) = true := decide_eq_true c25
                clear c25
                by_cases c26 : 0 ≤ x10_2
                · rw [if_pos c26] at H
                  have c26b0 : decide (0 ≤ x10_2) = true := decide_eq_true c26
                  clear c26
                  by_cases c27 : x10_2 < (t137.size : Int)
                  · rw [if_pos c27] at H
                    have c27b0 : decide (x10_2 < (t137.size : Int)) = true := decide_eq_true c27
                    clear c27
                    by_cases c29 : (bt t137 x10_2) = 0
                    · rw [if_pos c29] at H
                      have c29b0 : ((bt t137 x10_2) == 0) = true := beq_iff_eq.mpr c29
                      have c29b1 : ((bt t137 x10_2) != 0) = false := bne_eq_false_iff_eq.mpr c29
                      clear c29
                      obtain ⟨ji30, hji30⟩ : ∃ j_ : Int, (wrap64 (16 + x10_2)) = j_ := ⟨_, rfl⟩
                      replace H : (if 0 ≤ (ji30) then (if (ji30) < (t137.size : Int) then (if 0 ≤ (wrap64 (8 * x10_2)) then (if (bt t137 (ji30)) = ((shr .u64 (IntKind.u64.wrap (wrap64 (a2))) (wrap64 (8 * x10_2))) % 256) then (if 0 ≤ (wrap64 (24 + x10_2)) then (if (wrap64 (24 + x10_2)) < (t137.size : Int) then (if (bt t137 (wrap64 (24 + x10_2))) = ((shr .u64 (IntKind.u64.wrap (a3)) (wrap64 (8 * x10_2))) % 256) then (gloaminglaw22_OpKnown.l0 k2 a0 a2 a3 t137 (wrap64 (x10_2 + 1))) else (some false)) else (none)) else (none)) else (some false)) else (none)) else (none)) else (none)) = some r := by first | (rw [hji30] at H; exact H) | (simp only [hji30] at H ⊢; exact H)
                      have hji30w : (IntKind.i64.wrap (16 + x10_2)) = ji30 := (i64_w _).trans hji30
                      by_cases c31 : 0 ≤ (ji30)
                      · rw [if_pos c31] at H
                        have c31b0 : decide (0 ≤ (ji30)) = true := decide_eq_true c31
                        clear c31
                        by_cases c32 : (ji30) < (t137.size : Int)
                        · rw [if_pos c32] at H
                          have c32b0 : decide ((ji30) < (t137.size : Int)) = true := decide_eq_true c32
                          clear c32
                          obtain ⟨ji34, hji34⟩ : ∃ j_ : Int, (wrap64 (8 * x10_2)) = j_ := ⟨_, rfl⟩
                          replace H : (if 0 ≤ (ji34) then (if (bt t137 (ji30)) = ((shr .u64 (IntKind.u64.wrap (wrap64 (a2))) (ji34)) % 256) then (if 0 ≤ (wrap64 (24 + x10_2)) then (if (wrap64 (24 + x10_2)) < (t137.size : Int) then (if (bt t137 (wrap64 (24 + x10_2))) = ((shr .u64 (IntKind.u64.wrap (a3)) (ji34)) % 256) then (gloaminglaw22_OpKnown.l0 k2 a0 a2 a3 t137 (wrap64 (x10_2 + 1))) else (some false)) else (none)) else (none)) else (some false)) else (none)) = some r := by first | (rw [hji34] at H; exact H) | (simp only [hji34] at H ⊢; exact H)
                          have hji34w : (IntKind.i64.wrap (8 * x10_2)) = ji34 := (i64_w _).trans hji34
                          by_cases c35 : 0 ≤ (ji34)
                          · rw [if_pos c35] at H
                            have c35b0 := eq_true c35
                            have c35b1 : decide (0 ≤ (ji34)) = true := decide_eq_true c35
                            clear c35
                            obtain ⟨ji36, hji36⟩ : ∃ j_ : Int, (shr .u64 (IntKind.u64.wrap (wrap64 (a2))) (ji34)) = j_ := ⟨_, rfl⟩
                            replace H : (if (bt t137 (ji30)) = ((ji36) % 256) then (if 0 ≤ (wrap64 (24 + x10_2)) then (if (wrap64 (24 + x10_2)) < (t137.size : Int) then (if (bt t137 (wrap64 (24 + x10_2))) = ((shr .u64 (IntKind.u64.wrap (a3)) (ji34)) % 256) then (gloaminglaw22_OpKnown.l0 k2 a0 a2 a3 t137 (wrap64 (x10_2 + 1))) else (some false)) else (none)) else (none)) else (some false)) = some r := by first | (rw [hji36] at H; exact H) | (simp only [hji36] at H ⊢; exact H)
                            have hji36_ : ((IntKind.u64.wrap (wrap64 (a2))) / 2 ^ min (ji34).toNat 64) = ji36 := hji36
                            have hji36z : (ji34) ≤ 64 → ((IntKind.u64.wrap (wrap64 (a2))) / 2 ^ (ji34).toNat) = ji36 := shr_small hji36
                            by_cases c37 : (bt t137 (ji30)) = ((ji36) % 256)
                            · rw [if_pos c37] at H
                              have c37b0 : ((bt t137 (ji30)) == ((ji36) % 256)) = true := beq_iff_eq.mpr c37
                              have c37b1 : ((bt t137 (ji30)) != ((ji36) % 256)) = false := bne_eq_false_iff_eq.mpr c37
                              clear c37
                              obtain ⟨ji38, hji38⟩ : ∃ j_ : Int, (wrap64 (24 + x10_2)) = j_ := ⟨_, rfl⟩
                              replace H : (if 0 ≤ (ji38) then (if (ji38) < (t137.size : Int) then (if (bt t137 (ji38)) = ((shr .u64 (IntKind.u64.wrap (a3)) (ji34)) % 256) then (gloaminglaw22_OpKnown.l0 k2 a0 a2 a3 t137 (wrap64 (x10_2 + 1))) else (some false)) else (none)) else (none)) = some r := by first | (rw [hji38] at H; exact H) | (simp only [hji38] at H ⊢; exact H)
                              have hji38w : (IntKind.i64.wrap (24 + x10_2)) = ji38 := (i64_w _).trans hji38
                              by_cases c39 : 0 ≤ (ji38)
                              · rw [if_pos c39] at H
                                have c39b0 : decide (0 ≤ (ji38)) = true := decide_eq_true c39
                                clear c39
                                by_cases c40 : (ji38) < (t137.size : Int)
                                · rw [if_pos c40] at H
                                  have c40b0 : decide ((ji38) < (t137.size : Int)) = true := decide_eq_true c40
                                  clear c40
                                  have c42b0 := eq_true (of_decide_eq_true (by first | (with_reducible assumption) | assumption) : 0 ≤ (ji34))
                                  obtain ⟨ji43, hji43⟩ : ∃ j_ : Int, (shr .u64 (IntKind.u64.wrap (a3)) (ji34)) = j_ := ⟨_, rfl⟩
                                  replace H : (if (bt t137 (ji38)) = ((ji43) % 256) then (gloaminglaw22_OpKnown.l0 k2 a0 a2 a3 t137 (wrap64 (x10_2 + 1))) else (some false)) = some r := by first | (rw [hji43] at H; exact H) | (simp only [hji43] at H ⊢; exact H)
                                  have hji43_ : ((IntKind.u64.wrap (a3)) / 2 ^ min (ji34).toNat 64) = ji43 := hji43
                                  have hji43z : (ji34) ≤ 64 → ((IntKind.u64.wrap (a3)) / 2 ^ (ji34).toNat) = ji43 := shr_small hji43
                                  by_cases c44 : (bt t137 (ji38)) = ((ji43) % 256)
                                  · rw [if_pos c44] at H
                                    have c44b0 : ((bt t137 (ji38)) == ((ji43) % 256)) = true := beq_iff_eq.mpr c44
                                    have c44b1 : ((bt t137 (ji38)) != ((ji43) % 256)) = false := bne_eq_false_iff_eq.mpr c44
                                    clear c44
                                    have H' := Aside0.mk H
                                    clear H
                                    have p28 : 0 ≤ (x10_2 : Int) := of_decide_eq_true (by first | (with_reducible assumption) | assumption)
                                    have q28 : x10_2 < (t137.size : Int) := of_decide_eq_true (by first | (with_reducible assumption) | assumption)
                                    have hx28 := bt_at t137 x10_2
                                    replace p28 := eq_true p28
                                    replace q28 := eq_true q28
                                    have p33 : 0 ≤ ((ji30) : Int) := of_decide_eq_true (by first | (with_reducible assumption) | assumption)
                                    have q33 : (ji30) < (t137.size : Int) := of_decide_eq_true (by first | (with_reducible assumption) | assumption)
                                    have hx33 := bt_at t137 (ji30)
                                    replace p33 := eq_true p33
                                    replace q33 := eq_true q33
                                    have p41 : 0 ≤ ((ji38) : Int) := of_decide_eq_true (by first | (with_reducible assumption) | assumption)
                                    have q41 : (ji38) < (t137.size : Int) := of_decide_eq_true (by first | (with_reducible assumption) | assumption)
                                    have hx41 := bt_at t137 (ji38)
                                    replace p41 := eq_true p41
                                    replace q41 := eq_true q41
                                    go_wp2
                                    repeat (go_quiet (fail); try go_wp2)
                                    go_roundg k2
                                    case measure => have := HJ5.out; have := HK2.out; omega
                                    case rel => exact ⟨(wrap64 (x10_2 + 1)), (by first | rfl | (simp; done) | (simp [*]; done)), H', ⟨by have := HJ5.out; have := HK2.out; omega⟩, ⟨by repeat (first | (with_reducible first | exact HB.out | apply below_alloc | apply pw_below_drewN | apply below_drew1) | exact HB.out)⟩⟩
                                  · rw [if_neg c44] at H
                                    have c44b0 : ((bt t137 (ji38)) == ((ji43) % 256)) = false := beq_eq_false_iff_ne.mpr c44
                                    have c44b1 : ((bt t137 (ji38)) != ((ji43) % 256)) = true := bne_iff_ne.mpr c44
                                    obtain rfl := Option.some.inj H
                                    have p28 : 0 ≤ (x10_2 : Int) := of_decide_eq_true (by first | (with_reducible assumption) | assumption)
                                    have q28 : x10_2 < (t137.size : Int) := of_decide_eq_true (by first | (with_reducible assumption) | assumption)
                                    have hx28 := bt_at t137 x10_2
                                    replace p28 := eq_true p28
                                    replace q28 := eq_true q28
                                    have p33 : 0 ≤ ((ji30) : Int) := of_decide_eq_true (by first | (with_reducible assumption) | assumption)
                                    have q33 : (ji30) < (t137.size : Int) := of_decide_eq_true (by first | (with_reducible assumption) | assumption)
                                    have hx33 := bt_at t137 (ji30)
                                    replace p33 := eq_true p33
                                    replace q33 := eq_true q33
                                    have p41 : 0 ≤ ((ji38) : Int) := of_decide_eq_true (by first | (with_reducible assumption) | assumption)
                                    have q41 : (ji38) < (t137.size : Int) := of_decide_eq_true (by first | (with_reducible assumption) | assumption)
                                    have hx41 := bt_at t137 (ji38)
                                    replace p41 := eq_true p41
                                    replace q41 := eq_true q41
                                    go_wp2
                                    repeat (go_quiet (fail); try go_wp2)
                                    go_ret
                                    exact ⟨by first | rfl | (simp [errW_none, errW_some] <;> rfl) | (simp only [← hji30, ← hji34, ← hji36, ← hji38, ← hji43]; first | rfl | (simp [errW_none, errW_some] <;> rfl)) | (simp [*, errW_none, errW_some] <;> rfl), by repeat (first | (with_reducible first | exact HB.out | apply below_alloc | apply pw_below_drewN | apply below_drew1) | exact HB.out)⟩
                                · rw [if_neg c40] at H
                                  exact absurd H (by simp)
                              · rw [if_neg c39] at H
                                exact absurd H (by simp)
                            · rw [if_neg c37] at H
                              have c37b0 : ((bt t137 (ji30)) == ((ji36) % 256)) = false := beq_eq_false_iff_ne.mpr c37
                              have c37b1 : ((bt t137 (ji30)) != ((ji36) % 256)) = true := bne_iff_ne.mpr c37
                              obtain rfl := Option.some.inj H
                              have p28 : 0 ≤ (x10_2 : Int) := of_decide_eq_true (by first | (with_reducible assumption) | assumption)
                              have q28 : x10_2 < (t137.size : Int) := of_decide_eq_true (by first | (with_reducible assumption) | assumption)
                              have hx28 := bt_at t137 x10_2
                              replace p28 := eq_true p28
                              replace q28 := eq_true q28
                              have p33 : 0 ≤ ((ji30) : Int) := of_decide_eq_true (by first | (with_reducible assumption) | assumption)
                              have q33 : (ji30) < (t137.size : Int) := of_decide_eq_true (by first | (with_reducible assumption) | assumption)
                              have hx33 := bt_at t137 (ji30)
                              replace p33 := eq_true p33
                              replace q33 := eq_true q33
                              go_wp2
                              repeat (go_quiet (fail); try go_wp2)
                              go_ret
                              exact ⟨by first | rfl | (simp [errW_none, errW_some] <;> rfl) | (simp only [← hji30, ← hji34, ← hji36]; first | rfl | (simp [errW_none, errW_some] <;> rfl)) | (simp [*, errW_none, errW_some] <;> rfl), by repeat (first | (with_reducible first | exact HB.out | apply below_alloc | apply pw_below_drewN | apply below_drew1) | exact HB.out)⟩
                          · rw [if_neg c35] at H
                            exact absurd H (by simp)
                        · rw [if_neg c32] at H
                          exact absurd H (by simp)
                      · rw [if_neg c31] at H
                        exact absurd H (by simp)
                    · rw [if_neg c29] at H
                      have c29b0 : ((bt t137 x10_2) == 0) = false := beq_eq_false_iff_ne.mpr c29
                      have c29b1 : ((bt t137 x10_2) != 0) = true := bne_iff_ne.mpr c29
                      obtain rfl := Option.some.inj H
                      have p28 : 0 ≤ (x10_2 : Int) := of_decide_eq_true (by first | (with_reducible assumption) | assumption)
                      have q28 : x10_2 < (t137.size : Int) := of_decide_eq_true (by first | (with_reducible assumption) | assumption)
                      have hx28 := bt_at t137 x10_2
                      replace p28 := eq_true p28
                      replace q28 := eq_true q28
                      go_wp2
                      repeat (go_quiet (fail); try go_wp2)
                      go_ret
                      exact ⟨by first | rfl | (simp [errW_none, errW_some] <;> rfl) | (simp [*, errW_none, errW_some] <;> rfl), by repeat (first | (with_reducible first | exact HB.out | apply below_alloc | apply pw_below_drewN | apply below_drew1) | exact HB.out)⟩
                  · rw [if_neg c27] at H
                    exact absurd H (by simp)
                · rw [if_neg c26] at H
                  exact absurd H (by simp)
              · rw [if_neg c25] at H
                have c25b0 : decide (0 < x10_2) = false := decide_eq_false c25
                clear c25
                obtain ⟨ji45, hji45⟩ : ∃ j_ : Int, (wrap64 (16 + x10_2)) = j_ := ⟨_, rfl⟩
                replace H : (if 0 ≤ (ji45) then (if (ji45) < (t137.size : Int) then (if 0 ≤ (wrap64 (8 * x10_2)) then (if (bt t137 (ji45)) = ((shr .u64 (IntKind.u64.wrap (wrap64 (a2))) (wrap64 (8 * x10_2))) % 256) then (if 0 ≤ (wrap64 (24 + x10_2)) then (if (wrap64 (24 + x10_2)) < (t137.size : Int) then (if (bt t137 (wrap64 (24 + x10_2))) = ((shr .u64 (IntKind.u64.wrap (a3)) (wrap64 (8 * x10_2))) % 256) then (gloaminglaw22_OpKnown.l0 k2 a0 a2 a3 t137 (wrap64 (x10_2 + 1))) else (some false)) else (none)) else (none)) else (some false)) else (none)) else (none)) else (none)) = some r := by first | (rw [hji45] at H; exact H) | (simp only [hji45] at H ⊢; exact H)
                have hji45w : (IntKind.i64.wrap (16 + x10_2)) = ji45 := (i64_w _).trans hji45
                by_cases c46 : 0 ≤ (ji45)
                · rw [if_pos c46] at H
                  have c46b0 : decide (0 ≤ (ji45)) = true := decide_eq_true c46
                  clear c46
                  by_cases c47 : (ji45) < (t137.size : Int)
                  · rw [if_pos c47] at H
                    have c47b0 : decide ((ji45) < (t137.size : Int)) = true := decide_eq_true c47
                    clear c47
                    obtain ⟨ji49, hji49⟩ : ∃ j_ : Int, (wrap64 (8 * x10_2)) = j_ := ⟨_, rfl⟩
                    replace H : (if 0 ≤ (ji49) then (if (bt t137 (ji45)) = ((shr .u64 (IntKind.u64.wrap (wrap64 (a2))) (ji49)) % 256) then (if 0 ≤ (wrap64 (24 + x10_2)) then (if (wrap64 (24 + x10_2)) < (t137.size : Int) then (if (bt t137 (wrap64 (24 + x10_2))) = ((shr .u64 (IntKind.u64.wrap (a3)) (ji49)) % 256) then (gloaminglaw22_OpKnown.l0 k2 a0 a2 a3 t137 (wrap64 (x10_2 + 1))) else (some false)) else (none)) else (none)) else (some false)) else (none)) = some r := by first | (rw [hji49] at H; exact H) | (simp only [hji49] at H ⊢; exact H)
                    have hji49w : (IntKind.i64.wrap (8 * x10_2)) = ji49 := (i64_w _).trans hji49
                    by_cases c50 : 0 ≤ (ji49)
                    · rw [if_pos c50] at H
                      have c50b0 := eq_true c50
                      have c50b1 : decide (0 ≤ (ji49)) = true := decide_eq_true c50
                      clear c50
                      obtain ⟨ji51, hji51⟩ : ∃ j_ : Int, (shr .u64 (IntKind.u64.wrap (wrap64 (a2))) (ji49)) = j_ := ⟨_, rfl⟩
                      replace H : (if (bt t137 (ji45)) = ((ji51) % 256) then (if 0 ≤ (wrap64 (24 + x10_2)) then (if (wrap64 (24 + x10_2)) < (t137.size : Int) then (if (bt t137 (wrap64 (24 + x10_2))) = ((shr .u64 (IntKind.u64.wrap (a3)) (ji49)) % 256) then (gloaminglaw22_OpKnown.l0 k2 a0 a2 a3 t137 (wrap64 (x10_2 + 1))) else (some false)) else (none)) else (none)) else (some false)) = some r := by first | (rw [hji51] at H; exact H) | (simp only [hji51] at H ⊢; exact H)
                      have hji51_ : ((IntKind.u64.wrap (wrap64 (a2))) / 2 ^ min (ji49).toNat 64) = ji51 := hji51
                      have hji51z : (ji49) ≤ 64 → ((IntKind.u64.wrap (wrap64 (a2))) / 2 ^ (ji49).toNat) = ji51 := shr_small hji51
                      by_cases c52 : (bt t137 (ji45)) = ((ji51) % 256)
                      · rw [if_pos c52] at H
                        have c52b0 : ((bt t137 (ji45)) == ((ji51) % 256)) = true := beq_iff_eq.mpr c52
                        have c52b1 : ((bt t137 (ji45)) != ((ji51) % 256)) = false := bne_eq_false_iff_eq.mpr c52
                        clear c52
                        obtain ⟨ji53, hji53⟩ : ∃ j_ : Int, (wrap64 (24 + x10_2)) = j_ := ⟨_, rfl⟩
                        replace H : (if 0 ≤ (ji53) then (if (ji53) < (t137.size : Int) then (if (bt t137 (ji53)) = ((shr .u64 (IntKind.u64.wrap (a3)) (ji49)) % 256) then (gloaminglaw22_OpKnown.l0 k2 a0 a2 a3 t137 (wrap64 (x10_2 + 1))) else (some false)) else (none)) else (none)) = some r := by first | (rw [hji53] at H; exact H) | (simp only [hji53] at H ⊢; exact H)
                        have hji53w : (IntKind.i64.wrap (24 + x10_2)) = ji53 := (i64_w _).trans hji53
                        by_cases c54 : 0 ≤ (ji53)
                        · rw [if_pos c54] at H
                          have c54b0 : decide (0 ≤ (ji53)) = true := decide_eq_true c54
                          clear c54
                          by_cases c55 : (ji53) < (t137.size : Int)
                          · rw [if_pos c55] at H
                            have c55b0 : decide ((ji53) < (t137.size : Int)) = true := decide_eq_true c55
                            clear c55
                            have c57b0 := eq_true (of_decide_eq_true (by first | (with_reducible assumption) | assumption) : 0 ≤ (ji49))
                            obtain ⟨ji58, hji58⟩ : ∃ j_ : Int, (shr .u64 (IntKind.u64.wrap (a3)) (ji49)) = j_ := ⟨_, rfl⟩
                            replace H : (if (bt t137 (ji53)) = ((ji58) % 256) then (gloaminglaw22_OpKnown.l0 k2 a0 a2 a3 t137 (wrap64 (x10_2 + 1))) else (some false)) = some r := by first | (rw [hji58] at H; exact H) | (simp only [hji58] at H ⊢; exact H)
                            have hji58_ : ((IntKind.u64.wrap (a3)) / 2 ^ min (ji49).toNat 64) = ji58 := hji58
                            have hji58z : (ji49) ≤ 64 → ((IntKind.u64.wrap (a3)) / 2 ^ (ji49).toNat) = ji58 := shr_small hji58
                            by_cases c59 : (bt t137 (ji53)) = ((ji58) % 256)
                            · rw [if_pos c59] at H
                              have c59b0 : ((bt t137 (ji53)) == ((ji58) % 256)) = true := beq_iff_eq.mpr c59
                              have c59b1 : ((bt t137 (ji53)) != ((ji58) % 256)) = false := bne_eq_false_iff_eq.mpr c59
                              clear c59
                              have H' := Aside0.mk H
                              clear H
                              have p48 : 0 ≤ ((ji45) : Int) := of_decide_eq_true (by first | (with_reducible assumption) | assumption)
                              have q48 : (ji45) < (t137.size : Int) := of_decide_eq_true (by first | (with_reducible assumption) | assumption)
                              have hx48 := bt_at t137 (ji45)
                              replace p48 := eq_true p48
                              replace q48 := eq_true q48
                              have p56 : 0 ≤ ((ji53) : Int) := of_decide_eq_true (by first | (with_reducible assumption) | assumption)
                              have q56 : (ji53) < (t137.size : Int) := of_decide_eq_true (by first | (with_reducible assumption) | assumption)
                              have hx56 := bt_at t137 (ji53)
                              replace p56 := eq_true p56
                              replace q56 := eq_true q56
                              go_wp2
                              repeat (go_quiet (fail); try go_wp2)
                              go_roundg k2
                              case measure => have := HJ5.out; have := HK2.out; omega
                              case rel => exact ⟨(wrap64 (x10_2 + 1)), (by first | rfl | (simp; done) | (simp [*]; done)), H', ⟨by have := HJ5.out; have := HK2.out; omega⟩, ⟨by repeat (first | (with_reducible first | exact HB.out | apply below_alloc | apply pw_below_drewN | apply below_drew1) | exact HB.out)⟩⟩
                            · rw [if_neg c59] at H
                              have c59b0 : ((bt t137 (ji53)) == ((ji58) % 256)) = false := beq_eq_false_iff_ne.mpr c59
                              have c59b1 : ((bt t137 (ji53)) != ((ji58) % 256)) = true := bne_iff_ne.mpr c59
                              obtain rfl := Option.some.inj H
                              have p48 : 0 ≤ ((ji45) : Int) := of_decide_eq_true (by first | (with_reducible assumption) | assumption)
                              have q48 : (ji45) < (t137.size : Int) := of_decide_eq_true (by first | (with_reducible assumption) | assumption)
                              have hx48 := bt_at t137 (ji45)
                              replace p48 := eq_true p48
                              replace q48 := eq_true q48
                              have p56 : 0 ≤ ((ji53) : Int) := of_decide_eq_true (by first | (with_reducible assumption) | assumption)
                              have q56 : (ji53) < (t137.size : Int) := of_decide_eq_true (by first | (with_reducible assumption) | assumption)
                              have hx56 := bt_at t137 (ji53)
                              replace p56 := eq_true p56
                              replace q56 := eq_true q56
                              go_wp2
                              repeat (go_quiet (fail); try go_wp2)
                              go_ret
                              exact ⟨by first | rfl | (simp [errW_none, errW_some] <;> rfl) | (simp only [← hji45, ← hji49, ← hji51, ← hji53, ← hji58]; first | rfl | (simp [errW_none, errW_some] <;> rfl)) | (simp [*, errW_none, errW_some] <;> rfl), by repeat (first | (with_reducible first | exact HB.out | apply below_alloc | apply pw_below_drewN | apply below_drew1) | exact HB.out)⟩
                          · rw [if_neg c55] at H
                            exact absurd H (by simp)
                        · rw [if_neg c54] at H
                          exact absurd H (by simp)
                      · rw [if_neg c52] at H
                        have c52b0 : ((bt t137 (ji45)) == ((ji51) % 256)) = false := beq_eq_false_iff_ne.mpr c52
                        have c52b1 : ((bt t137 (ji45)) != ((ji51) % 256)) = true := bne_iff_ne.mpr c52
                        obtain rfl := Option.some.inj H
                        have p48 : 0 ≤ ((ji45) : Int) := of_decide_eq_true (by first | (with_reducible assumption) | assumption)
                        have q48 : (ji45) < (t137.size : Int) := of_decide_eq_true (by first | (with_reducible assumption) | assumption)
                        have hx48 := bt_at t137 (ji45)
                        replace p48 := eq_true p48
                        replace q48 := eq_true q48
                        go_wp2
                        repeat (go_quiet (fail); try go_wp2)
                        go_ret
                        exact ⟨by first | rfl | (simp [errW_none, errW_some] <;> rfl) | (simp only [← hji45, ← hji49, ← hji51]; first | rfl | (simp [errW_none, errW_some] <;> rfl)) | (simp [*, errW_none, errW_some] <;> rfl), by repeat (first | (with_reducible first | exact HB.out | apply below_alloc | apply pw_below_drewN | apply below_drew1) | exact HB.out)⟩
                    · rw [if_neg c50] at H
                      exact absurd H (by simp)
                  · rw [if_neg c47] at H
                    exact absurd H (by simp)
                · rw [if_neg c46] at H
                  exact absurd H (by simp)
            · rw [if_neg c24] at H
              have c24b0 : decide (x10_2 < 8) = false := decide_eq_false c24
              clear c24
              replace H := Option.bind_eq_some_iff.mp H
              obtain ⟨⟨t138, t139⟩, A600, H⟩ := H
              replace H : ((gloaminglaw1_Err.f t139).bind fun t142 => (if t142 = 0 then (if (t138.length : Int) = 1 then (if 0 < (t138.length : Int) then (if ((rd_T37 t138 0).f0) = (wrap64 (a0)) then (if ((rd_T37 t138 0).f3) = a3 then ((gloaminglaw22_awake.f k2).bind fun t145 => (some t145)) else (some false)) else (some false)) else (none)) else (some false)) else (some false))) = some r := H
              have A60 := Aside0.mk A600
              clear A600
              replace H := Option.bind_eq_some_iff.mp H
              obtain ⟨t142, A610, H⟩ := H
              replace H : (if t142 = 0 then (if (t138.length : Int) = 1 then (if 0 < (t138.length : Int) then (if ((rd_T37 t138 0).f0) = (wrap64 (a0)) then (if ((rd_T37 t138 0).f3) = a3 then ((gloaminglaw22_awake.f k2).bind fun t145 => (some t145)) else (some false)) else (some false)) else (none)) else (some false)) else (some false)) = some r := H
              have A61 := Aside0.mk A610
              clear A610
              by_cases c62 : t142 = 0
              · rw [if_pos c62] at H
                have c62b0 : (t142 == 0) = true := beq_iff_eq.mpr c62
                have c62b1 : (t142 != 0) = false := bne_eq_false_iff_eq.mpr c62
                clear c62
                by_cases c63 : (t138.length : Int) = 1
                · rw [if_pos c63] at H
                  have c63b0 : ((t138.length : Int) == 1) = true := beq_iff_eq.mpr c63
                  have c63b1 : ((t138.length : Int) != 1) = false := bne_eq_false_iff_eq.mpr c63
                  clear c63
                  by_cases c64 : 0 < (t138.length : Int)
                  · rw [if_pos c64] at H
                    have c64b0 : decide (0 < (t138.length : Int)) = true := decide_eq_true c64
                    have c64b1 : decide (0 < t138.length) = true := decide_eq_true (by omega)
                    clear c64
                    by_cases c65 : ((rd_T37 t138 0).f0) = (wrap64 (a0))
                    · rw [if_pos c65] at H
                      have c65b0 : (((rd_T37 t138 0).f0) == (wrap64 (a0))) = true := beq_iff_eq.mpr c65
                      have c65b1 : (((rd_T37 t138 0).f0) != (wrap64 (a0))) = false := bne_eq_false_iff_eq.mpr c65
                      clear c65
                      by_cases c66 : ((rd_T37 t138 0).f3) = a3
                      · rw [if_pos c66] at H
                        have c66b0 : (((rd_T37 t138 0).f3) == a3) = true := beq_iff_eq.mpr c66
                        have c66b1 : (((rd_T37 t138 0).f3) != a3) = false := bne_eq_false_iff_eq.mpr c66
                        clear c66
                        replace H := Option.bind_eq_some_iff.mp H
                        obtain ⟨t145, A670, H⟩ := H
                        replace H : (some t145) = some r := H
                        have A67 := Aside0.mk A670
                        clear A670
                        obtain rfl := Option.some.inj H
                        go_wp2_with (first | (go_at_call 8; (with_reducible refine (op_Get.calls k2 t137 t138 t139 _ A60.out).mono ?_); rintro e w68 ⟨v140, rfl, ho0, hb⟩; have n0_ := Aside0.mk (Kd.R_lower ho0 (below_size (by repeat (first | (with_reducible first | exact HB.out | apply below_alloc | apply pw_below_drewN | apply below_drew1) | exact HB.out)))); have n1_ := Aside0.mk (below_step (by repeat (first | (with_reducible first | exact HB.out | apply below_alloc | apply pw_below_drewN | apply below_drew1) | exact HB.out)) hb); clear HB; have HO141 := n0_; have HB := n1_; clear n0_ n1_; (try clear hb); (try clear hb2); (try clear hk); (try clear hi); (try clear ho0)) | (go_at_call 13; (with_reducible refine (gloaminglaw1_Err.calls t139 t142 _ A61.out).mono ?_); rintro e w' ⟨rfl, ⟨nd, rfl⟩⟩; (try first | exact ⟨rfl, _, World.drewN_drewN _ _ _⟩ | exact ⟨rfl, _, Eq.trans (World.drewN_drewN _ _ _) (congrArg (World.drewN _) (Nat.add_assoc _ _ _))⟩); obtain ⟨Ao69, co69, eo69⟩ := Kd.R_slice HO141.out; subst eo69; have p143 : 0 ≤ (0 : Int) := (by omega); have q143 : 0 < (t138.length : Int) := of_decide_eq_true (by first | (with_reducible assumption) | assumption); obtain ⟨ad143, e143, hx143_0, hx143_1, hx143_2, hx143_3⟩ := at_T37 (Kd.R_reads' HO141.out).2.2 0 p143 q143; cases e143; have qi143 : (0 < t138.length) = True := eq_true (by omega); (try rw [show ((0 : Int)).toNat = 0 from rfl] at hx143_0); (try rw [show 0 * 4 = 0 from rfl] at hx143_0); (try rw [Addr.add_zero'] at hx143_0); (try rw [show ((0 : Int)).toNat = 0 from rfl] at hx143_1); (try rw [show 0 * 4 = 0 from rfl] at hx143_1); (try rw [Addr.add_zero'] at hx143_1); (try rw [show ((0 : Int)).toNat = 0 from rfl] at hx143_2); (try rw [show 0 * 4 = 0 from rfl] at hx143_2); (try rw [Addr.add_zero'] at hx143_2); (try rw [show ((0 : Int)).toNat = 0 from rfl] at hx143_3); (try rw [show 0 * 4 = 0 from rfl] at hx143_3); (try rw [Addr.add_zero'] at hx143_3); replace p143 := eq_true p143; replace q143 := eq_true q143; have p144 : 0 ≤ (0 : Int) := (by omega); have q144 : 0 < (t138.length : Int) := of_decide_eq_true (by first | (with_reducible assumption) | assumption); obtain ⟨ad144, e144, hx144_0, hx144_1, hx144_2, hx144_3⟩ := at_T37 (Kd.R_reads' HO141.out).2.2 0 p144 q144; obtain rfl : ad143 = ad144 := (by injection e144); have qi144 : (0 < t138.length) = True := eq_true (by omega); (try rw [show ((0 : Int)).toNat = 0 from rfl] at hx144_0); (try rw [show 0 * 4 = 0 from rfl] at hx144_0); (try rw [Addr.add_zero'] at hx144_0); (try rw [show ((0 : Int)).toNat = 0 from rfl] at hx144_1); (try rw [show 0 * 4 = 0 from rfl] at hx144_1); (try rw [Addr.add_zero'] at hx144_1); (try rw [show ((0 : Int)).toNat = 0 from rfl] at hx144_2); (try rw [show 0 * 4 = 0 from rfl] at hx144_2); (try rw [Addr.add_zero'] at hx144_2); (try rw [show ((0 : Int)).toNat = 0 from rfl] at hx144_3); (try rw [show 0 * 4 = 0 from rfl] at hx144_3); (try rw [Addr.add_zero'] at hx144_3); replace p144 := eq_true p144; replace q144 := eq_true q144) | (go_at_call 7; (with_reducible refine (gloaminglaw22_awake.calls k2  t145 _ A67.out).mono ?_); rintro e w70 ⟨rfl, hb⟩; have n0_ := Aside0.mk (Kd.R_below (by (with_reducible repeat (first | apply Kd.R_alloc | apply Kd.R_drewN | apply Kd.R_drew)); exact HO141.out) hb); have n1_ := Aside0.mk (below_step (by repeat (first | (with_reducible first | exact HB.out | apply below_alloc | apply pw_below_drewN | apply below_drew1) | exact HB.out)) hb); clear HO141; clear HB; have HO141 := n0_; have HB := n1_; clear n0_ n1_; (try clear hb); (try clear hb2); (try clear hk); (try clear hi)))
                        repeat (go_quiet (first | (go_at_call 8; (with_reducible refine (op_Get.calls k2 t137 t138 t139 _ A60.out).mono ?_); rintro e w68 ⟨v140, rfl, ho0, hb⟩; have n0_ := Aside0.mk (Kd.R_lower ho0 (below_size (by repeat (first | (with_reducible first | exact HB.out | apply below_alloc | apply pw_below_drewN | apply below_drew1) | exact HB.out)))); have n1_ := Aside0.mk (below_step (by repeat (first | (with_reducible first | exact HB.out | apply below_alloc | apply pw_below_drewN | apply below_drew1) | exact HB.out)) hb); clear HB; have HO141 := n0_; have HB := n1_; clear n0_ n1_; (try clear hb); (try clear hb2); (try clear hk); (try clear hi); (try clear ho0)) | (go_at_call 13; (with_reducible refine (gloaminglaw1_Err.calls t139 t142 _ A61.out).mono ?_); rintro e w' ⟨rfl, ⟨nd, rfl⟩⟩; (try first | exact ⟨rfl, _, World.drewN_drewN _ _ _⟩ | exact ⟨rfl, _, Eq.trans (World.drewN_drewN _ _ _) (congrArg (World.drewN _) (Nat.add_assoc _ _ _))⟩); obtain ⟨Ao69, co69, eo69⟩ := Kd.R_slice HO141.out; subst eo69; have p143 : 0 ≤ (0 : Int) := (by omega); have q143 : 0 < (t138.length : Int) := of_decide_eq_true (by first | (with_reducible assumption) | assumption); obtain ⟨ad143, e143, hx143_0, hx143_1, hx143_2, hx143_3⟩ := at_T37 (Kd.R_reads' HO141.out).2.2 0 p143 q143; cases e143; have qi143 : (0 < t138.length) = True := eq_true (by omega); (try rw [show ((0 : Int)).toNat = 0 from rfl] at hx143_0); (try rw [show 0 * 4 = 0 from rfl] at hx143_0); (try rw [Addr.add_zero'] at hx143_0); (try rw [show ((0 : Int)).toNat = 0 from rfl] at hx143_1); (try rw [show 0 * 4 = 0 from rfl] at hx143_1); (try rw [Addr.add_zero'] at hx143_1); (try rw [show ((0 : Int)).toNat = 0 from rfl] at hx143_2); (try rw [show 0 * 4 = 0 from rfl] at hx143_2); (try rw [Addr.add_zero'] at hx143_2); (try rw [show ((0 : Int)).toNat = 0 from rfl] at hx143_3); (try rw [show 0 * 4 = 0 from rfl] at hx143_3); (try rw [Addr.add_zero'] at hx143_3); replace p143 := eq_true p143; replace q143 := eq_true q143; have p144 : 0 ≤ (0 : Int) := (by omega); have q144 : 0 < (t138.length : Int) := of_decide_eq_true (by first | (with_reducible assumption) | assumption); obtain ⟨ad144, e144, hx144_0, hx144_1, hx144_2, hx144_3⟩ := at_T37 (Kd.R_reads' HO141.out).2.2 0 p144 q144; obtain rfl : ad143 = ad144 := (by injection e144); have qi144 : (0 < t138.length) = True := eq_true (by omega); (try rw [show ((0 : Int)).toNat = 0 from rfl] at hx144_0); (try rw [show 0 * 4 = 0 from rfl] at hx144_0); (try rw [Addr.add_zero'] at hx144_0); (try rw [show ((0 : Int)).toNat = 0 from rfl] at hx144_1); (try rw [show 0 * 4 = 0 from rfl] at hx144_1); (try rw [Addr.add_zero'] at hx144_1); (try rw [show ((0 : Int)).toNat = 0 from rfl] at hx144_2); (try rw [show 0 * 4 = 0 from rfl] at hx144_2); (try rw [Addr.add_zero'] at hx144_2); (try rw [show ((0 : Int)).toNat = 0 from rfl] at hx144_3); (try rw [show 0 * 4 = 0 from rfl] at hx144_3); (try rw [Addr.add_zero'] at hx144_3); replace p144 := eq_true p144; replace q144 := eq_true q144) | (go_at_call 7; (with_reducible refine (gloaminglaw22_awake.calls k2  t145 _ A67.out).mono ?_); rintro e w70 ⟨rfl, hb⟩; have n0_ := Aside0.mk (Kd.R_below (by (with_reducible repeat (first | apply Kd.R_alloc | apply Kd.R_drewN | apply Kd.R_drew)); exact HO141.out) hb); have n1_ := Aside0.mk (below_step (by repeat (first | (with_reducible first | exact HB.out | apply below_alloc | apply pw_below_drewN | apply below_drew1) | exact HB.out)) hb); clear HO141; clear HB; have HO141 := n0_; have HB := n1_; clear n0_ n1_; (try clear hb); (try clear hb2); (try clear hk); (try clear hi))); try go_wp2_with (first | (go_at_call 8; (with_reducible refine (op_Get.calls k2 t137 t138 t139 _ A60.out).mono ?_); rintro e w68 ⟨v140, rfl, ho0, hb⟩; have n0_ := Aside0.mk (Kd.R_lower ho0 (below_size (by repeat (first | (with_reducible first | exact HB.out | apply below_alloc | apply pw_below_drewN | apply below_drew1) | exact HB.out)))); have n1_ := Aside0.mk (below_step (by repeat (first | (with_reducible first | exact HB.out | apply below_alloc | apply pw_below_drewN | apply below_drew1) | exact HB.out)) hb); clear HB; have HO141 := n0_; have HB := n1_; clear n0_ n1_; (try clear hb); (try clear hb2); (try clear hk); (try clear hi); (try clear ho0)) | (go_at_call 13; (with_reducible refine (gloaminglaw1_Err.calls t139 t142 _ A61.out).mono ?_); rintro e w' ⟨rfl, ⟨nd, rfl⟩⟩; (try first | exact ⟨rfl, _, World.drewN_drewN _ _ _⟩ | exact ⟨rfl, _, Eq.trans (World.drewN_drewN _ _ _) (congrArg (World.drewN _) (Nat.add_assoc _ _ _))⟩); obtain ⟨Ao69, co69, eo69⟩ := Kd.R_slice HO141.out; subst eo69; have p143 : 0 ≤ (0 : Int) := (by omega); have q143 : 0 < (t138.length : Int) := of_decide_eq_true (by first | (with_reducible assumption) | assumption); obtain ⟨ad143, e143, hx143_0, hx143_1, hx143_2, hx143_3⟩ := at_T37 (Kd.R_reads' HO141.out).2.2 0 p143 q143; cases e143; have qi143 : (0 < t138.length) = True := eq_true (by omega); (try rw [show ((0 : Int)).toNat = 0 from rfl] at hx143_0); (try rw [show 0 * 4 = 0 from rfl] at hx143_0); (try rw [Addr.add_zero'] at hx143_0); (try rw [show ((0 : Int)).toNat = 0 from rfl] at hx143_1); (try rw [show 0 * 4 = 0 from rfl] at hx143_1); (try rw [Addr.add_zero'] at hx143_1); (try rw [show ((0 : Int)).toNat = 0 from rfl] at hx143_2); (try rw [show 0 * 4 = 0 from rfl] at hx143_2); (try rw [Addr.add_zero'] at hx143_2); (try rw [show ((0 : Int)).toNat = 0 from rfl] at hx143_3); (try rw [show 0 * 4 = 0 from rfl] at hx143_3); (try rw [Addr.add_zero'] at hx143_3); replace p143 := eq_true p143; replace q143 := eq_true q143; have p144 : 0 ≤ (0 : Int) := (by omega); have q144 : 0 < (t138.length : Int) := of_decide_eq_true (by first | (with_reducible assumption) | assumption); obtain ⟨ad144, e144, hx144_0, hx144_1, hx144_2, hx144_3⟩ := at_T37 (Kd.R_reads' HO141.out).2.2 0 p144 q144; obtain rfl : ad143 = ad144 := (by injection e144); have qi144 : (0 < t138.length) = True := eq_true (by omega); (try rw [show ((0 : Int)).toNat = 0 from rfl] at hx144_0); (try rw [show 0 * 4 = 0 from rfl] at hx144_0); (try rw [Addr.add_zero'] at hx144_0); (try rw [show ((0 : Int)).toNat = 0 from rfl] at hx144_1); (try rw [show 0 * 4 = 0 from rfl] at hx144_1); (try rw [Addr.add_zero'] at hx144_1); (try rw [show ((0 : Int)).toNat = 0 from rfl] at hx144_2); (try rw [show 0 * 4 = 0 from rfl] at hx144_2); (try rw [Addr.add_zero'] at hx144_2); (try rw [show ((0 : Int)).toNat = 0 from rfl] at hx144_3); (try rw [show 0 * 4 = 0 from rfl] at hx144_3); (try rw [Addr.add_zero'] at hx144_3); replace p144 := eq_true p144; replace q144 := eq_true q144) | (go_at_call 7; (with_reducible refine (gloaminglaw22_awake.calls k2  t145 _ A67.out).mono ?_); rintro e w70 ⟨rfl, hb⟩; have n0_ := Aside0.mk (Kd.R_below (by (with_reducible repeat (first | apply Kd.R_alloc | apply Kd.R_drewN | apply Kd.R_drew)); exact HO141.out) hb); have n1_ := Aside0.mk (below_step (by repeat (first | (with_reducible first | exact HB.out | apply below_alloc | apply pw_below_drewN | apply below_drew1) | exact HB.out)) hb); clear HO141; clear HB; have HO141 := n0_; have HB := n1_; clear n0_ n1_; (try clear hb); (try clear hb2); (try clear hk); (try clear hi))))
                        go_ret
                        exact ⟨by first | rfl | (simp [errW_none, errW_some] <;> rfl) | (simp [*, errW_none, errW_some] <;> rfl), by repeat (first | (with_reducible first | exact HB.out | apply below_alloc | apply pw_below_drewN | apply below_drew1) | exact HB.out)⟩
                      · rw [if_neg c66] at H
                        have c66b0 : (((rd_T37 t138 0).f3) == a3) = false := beq_eq_false_iff_ne.mpr c66
                        have c66b1 : (((rd_T37 t138 0).f3) != a3) = true := bne_iff_ne.mpr c66
                        obtain rfl := Option.some.inj H
                        go_wp2_with (first | (go_at_call 8; (with_reducible refine (op_Get.calls k2 t137 t138 t139 _ A60.out).mono ?_); rintro e w71 ⟨v140, rfl, ho0, hb⟩; have n0_ := Aside0.mk (Kd.R_lower ho0 (below_size (by repeat (first | (with_reducible first | exact HB.out | apply below_alloc | apply pw_below_drewN | apply below_drew1) | exact HB.out)))); have n1_ := Aside0.mk (below_step (by repeat (first | (with_reducible first | exact HB.out | apply below_alloc | apply pw_below_drewN | apply below_drew1) | exact HB.out)) hb); clear HB; have HO141 := n0_; have HB := n1_; clear n0_ n1_; (try clear hb); (try clear hb2); (try clear hk); (try clear hi); (try clear ho0)) | (go_at_call 13; (with_reducible refine (gloaminglaw1_Err.calls t139 t142 _ A61.out).mono ?_); rintro e w' ⟨rfl, ⟨nd, rfl⟩⟩; (try first | exact ⟨rfl, _, World.drewN_drewN _ _ _⟩ | exact ⟨rfl, _, Eq.trans (World.drewN_drewN _ _ _) (congrArg (World.drewN _) (Nat.add_assoc _ _ _))⟩); obtain ⟨Ao72, co72, eo72⟩ := Kd.R_slice HO141.out; subst eo72; have p143 : 0 ≤ (0 : Int) := (by omega); have q143 : 0 < (t138.length : Int) := of_decide_eq_true (by first | (with_reducible assumption) | assumption); obtain ⟨ad143, e143, hx143_0, hx143_1, hx143_2, hx143_3⟩ := at_T37 (Kd.R_reads' HO141.out).2.2 0 p143 q143; cases e143; have qi143 : (0 < t138.length) = True := eq_true (by omega); (try rw [show ((0 : Int)).toNat = 0 from rfl] at hx143_0); (try rw [show 0 * 4 = 0 from rfl] at hx143_0); (try rw [Addr.add_zero'] at hx143_0); (try rw [show ((0 : Int)).toNat = 0 from rfl] at hx143_1); (try rw [show 0 * 4 = 0 from rfl] at hx143_1); (try rw [Addr.add_zero'] at hx143_1); (try rw [show ((0 : Int)).toNat = 0 from rfl] at hx143_2); (try rw [show 0 * 4 = 0 from rfl] at hx143_2); (try rw [Addr.add_zero'] at hx143_2); (try rw [show ((0 : Int)).toNat = 0 from rfl] at hx143_3); (try rw [show 0 * 4 = 0 from rfl] at hx143_3); (try rw [Addr.add_zero'] at hx143_3); replace p143 := eq_true p143; replace q143 := eq_true q143; have p144 : 0 ≤ (0 : Int) := (by omega); have q144 : 0 < (t138.length : Int) := of_decide_eq_true (by first | (with_reducible assumption) | assumption); obtain ⟨ad144, e144, hx144_0, hx144_1, hx144_2, hx144_3⟩ := at_T37 (Kd.R_reads' HO141.out).2.2 0 p144 q144; obtain rfl : ad143 = ad144 := (by injection e144); have qi144 : (0 < t138.length) = True := eq_true (by omega); (try rw [show ((0 : Int)).toNat = 0 from rfl] at hx144_0); (try rw [show 0 * 4 = 0 from rfl] at hx144_0); (try rw [Addr.add_zero'] at hx144_0); (try rw [show ((0 : Int)).toNat = 0 from rfl] at hx144_1); (try rw [show 0 * 4 = 0 from rfl] at hx144_1); (try rw [Addr.add_zero'] at hx144_1); (try rw [show ((0 : Int)).toNat = 0 from rfl] at hx144_2); (try rw [show 0 * 4 = 0 from rfl] at hx144_2); (try rw [Addr.add_zero'] at hx144_2); (try rw [show ((0 : Int)).toNat = 0 from rfl] at hx144_3); (try rw [show 0 * 4 = 0 from rfl] at hx144_3); (try rw [Addr.add_zero'] at hx144_3); replace p144 := eq_true p144; replace q144 := eq_true q144))
                        repeat (go_quiet (first | (go_at_call 8; (with_reducible refine (op_Get.calls k2 t137 t138 t139 _ A60.out).mono ?_); rintro e w71 ⟨v140, rfl, ho0, hb⟩; have n0_ := Aside0.mk (Kd.R_lower ho0 (below_size (by repeat (first | (with_reducible first | exact HB.out | apply below_alloc | apply pw_below_drewN | apply below_drew1) | exact HB.out)))); have n1_ := Aside0.mk (below_step (by repeat (first | (with_reducible first | exact HB.out | apply below_alloc | apply pw_below_drewN | apply below_drew1) | exact HB.out)) hb); clear HB; have HO141 := n0_; have HB := n1_; clear n0_ n1_; (try clear hb); (try clear hb2); (try clear hk); (try clear hi); (try clear ho0)) | (go_at_call 13; (with_reducible refine (gloaminglaw1_Err.calls t139 t142 _ A61.out).mono ?_); rintro e w' ⟨rfl, ⟨nd, rfl⟩⟩; (try first | exact ⟨rfl, _, World.drewN_drewN _ _ _⟩ | exact ⟨rfl, _, Eq.trans (World.drewN_drewN _ _ _) (congrArg (World.drewN _) (Nat.add_assoc _ _ _))⟩); obtain ⟨Ao72, co72, eo72⟩ := Kd.R_slice HO141.out; subst eo72; have p143 : 0 ≤ (0 : Int) := (by omega); have q143 : 0 < (t138.length : Int) := of_decide_eq_true (by first | (with_reducible assumption) | assumption); obtain ⟨ad143, e143, hx143_0, hx143_1, hx143_2, hx143_3⟩ := at_T37 (Kd.R_reads' HO141.out).2.2 0 p143 q143; cases e143; have qi143 : (0 < t138.length) = True := eq_true (by omega); (try rw [show ((0 : Int)).toNat = 0 from rfl] at hx143_0); (try rw [show 0 * 4 = 0 from rfl] at hx143_0); (try rw [Addr.add_zero'] at hx143_0); (try rw [show ((0 : Int)).toNat = 0 from rfl] at hx143_1); (try rw [show 0 * 4 = 0 from rfl] at hx143_1); (try rw [Addr.add_zero'] at hx143_1); (try rw [show ((0 : Int)).toNat = 0 from rfl] at hx143_2); (try rw [show 0 * 4 = 0 from rfl] at hx143_2); (try rw [Addr.add_zero'] at hx143_2); (try rw [show ((0 : Int)).toNat = 0 from rfl] at hx143_3); (try rw [show 0 * 4 = 0 from rfl] at hx143_3); (try rw [Addr.add_zero'] at hx143_3); replace p143 := eq_true p143; replace q143 := eq_true q143; have p144 : 0 ≤ (0 : Int) := (by omega); have q144 : 0 < (t138.length : Int) := of_decide_eq_true (by first | (with_reducible assumption) | assumption); obtain ⟨ad144, e144, hx144_0, hx144_1, hx144_2, hx144_3⟩ := at_T37 (Kd.R_reads' HO141.out).2.2 0 p144 q144; obtain rfl : ad143 = ad144 := (by injection e144); have qi144 : (0 < t138.length) = True := eq_true (by omega); (try rw [show ((0 : Int)).toNat = 0 from rfl] at hx144_0); (try rw [show 0 * 4 = 0 from rfl] at hx144_0); (try rw [Addr.add_zero'] at hx144_0); (try rw [show ((0 : Int)).toNat = 0 from rfl] at hx144_1); (try rw [show 0 * 4 = 0 from rfl] at hx144_1); (try rw [Addr.add_zero'] at hx144_1); (try rw [show ((0 : Int)).toNat = 0 from rfl] at hx144_2); (try rw [show 0 * 4 = 0 from rfl] at hx144_2); (try rw [Addr.add_zero'] at hx144_2); (try rw [show ((0 : Int)).toNat = 0 from rfl] at hx144_3); (try rw [show 0 * 4 = 0 from rfl] at hx144_3); (try rw [Addr.add_zero'] at hx144_3); replace p144 := eq_true p144; replace q144 := eq_true q144)); try go_wp2_with (first | (go_at_call 8; (with_reducible refine (op_Get.calls k2 t137 t138 t139 _ A60.out).mono ?_); rintro e w71 ⟨v140, rfl, ho0, hb⟩; have n0_ := Aside0.mk (Kd.R_lower ho0 (below_size (by repeat (first | (with_reducible first | exact HB.out | apply below_alloc | apply pw_below_drewN | apply below_drew1) | exact HB.out)))); have n1_ := Aside0.mk (below_step (by repeat (first | (with_reducible first | exact HB.out | apply below_alloc | apply pw_below_drewN | apply below_drew1) | exact HB.out)) hb); clear HB; have HO141 := n0_; have HB := n1_; clear n0_ n1_; (try clear hb); (try clear hb2); (try clear hk); (try clear hi); (try clear ho0)) | (go_at_call 13; (with_reducible refine (gloaminglaw1_Err.calls t139 t142 _ A61.out).mono ?_); rintro e w' ⟨rfl, ⟨nd, rfl⟩⟩; (try first | exact ⟨rfl, _, World.drewN_drewN _ _ _⟩ | exact ⟨rfl, _, Eq.trans (World.drewN_drewN _ _ _) (congrArg (World.drewN _) (Nat.add_assoc _ _ _))⟩); obtain ⟨Ao72, co72, eo72⟩ := Kd.R_slice HO141.out; subst eo72; have p143 : 0 ≤ (0 : Int) := (by omega); have q143 : 0 < (t138.length : Int) := of_decide_eq_true (by first | (with_reducible assumption) | assumption); obtain ⟨ad143, e143, hx143_0, hx143_1, hx143_2, hx143_3⟩ := at_T37 (Kd.R_reads' HO141.out).2.2 0 p143 q143; cases e143; have qi143 : (0 < t138.length) = True := eq_true (by omega); (try rw [show ((0 : Int)).toNat = 0 from rfl] at hx143_0); (try rw [show 0 * 4 = 0 from rfl] at hx143_0); (try rw [Addr.add_zero'] at hx143_0); (try rw [show ((0 : Int)).toNat = 0 from rfl] at hx143_1); (try rw [show 0 * 4 = 0 from rfl] at hx143_1); (try rw [Addr.add_zero'] at hx143_1); (try rw [show ((0 : Int)).toNat = 0 from rfl] at hx143_2); (try rw [show 0 * 4 = 0 from rfl] at hx143_2); (try rw [Addr.add_zero'] at hx143_2); (try rw [show ((0 : Int)).toNat = 0 from rfl] at hx143_3); (try rw [show 0 * 4 = 0 from rfl] at hx143_3); (try rw [Addr.add_zero'] at hx143_3); replace p143 := eq_true p143; replace q143 := eq_true q143; have p144 : 0 ≤ (0 : Int) := (by omega); have q144 : 0 < (t138.length : Int) := of_decide_eq_true (by first | (with_reducible assumption) | assumption); obtain ⟨ad144, e144, hx144_0, hx144_1, hx144_2, hx144_3⟩ := at_T37 (Kd.R_reads' HO141.out).2.2 0 p144 q144; obtain rfl : ad143 = ad144 := (by injection e144); have qi144 : (0 < t138.length) = True := eq_true (by omega); (try rw [show ((0 : Int)).toNat = 0 from rfl] at hx144_0); (try rw [show 0 * 4 = 0 from rfl] at hx144_0); (try rw [Addr.add_zero'] at hx144_0); (try rw [show ((0 : Int)).toNat = 0 from rfl] at hx144_1); (try rw [show 0 * 4 = 0 from rfl] at hx144_1); (try rw [Addr.add_zero'] at hx144_1); (try rw [show ((0 : Int)).toNat = 0 from rfl] at hx144_2); (try rw [show 0 * 4 = 0 from rfl] at hx144_2); (try rw [Addr.add_zero'] at hx144_2); (try rw [show ((0 : Int)).toNat = 0 from rfl] at hx144_3); (try rw [show 0 * 4 = 0 from rfl] at hx144_3); (try rw [Addr.add_zero'] at hx144_3); replace p144 := eq_true p144; replace q144 := eq_true q144)))
                        go_ret
                        exact ⟨by first | rfl | (simp [errW_none, errW_some] <;> rfl) | (simp [*, errW_none, errW_some] <;> rfl), by repeat (first | (with_reducible first | exact HB.out | apply below_alloc | apply pw_below_drewN | apply below_drew1) | exact HB.out)⟩
                    · rw [if_neg c65] at H
                      have c65b0 : (((rd_T37 t138 0).f0) == (wrap64 (a0))) = false := beq_eq_false_iff_ne.mpr c65
                      have c65b1 : (((rd_T37 t138 0).f0) != (wrap64 (a0))) = true := bne_iff_ne.mpr c65
                      obtain rfl := Option.some.inj H
                      go_wp2_with (first | (go_at_call 8; (with_reducible refine (op_Get.calls k2 t137 t138 t139 _ A60.out).mono ?_); rintro e w73 ⟨v140, rfl, ho0, hb⟩; have n0_ := Aside0.mk (Kd.R_lower ho0 (below_size (by repeat (first | (with_reducible first | exact HB.out | apply below_alloc | apply pw_below_drewN | apply below_drew1) | exact HB.out)))); have n1_ := Aside0.mk (below_step (by repeat (first | (with_reducible first | exact HB.out | apply below_alloc | apply pw_below_drewN | apply below_drew1) | exact HB.out)) hb); clear HB; have HO141 := n0_; have HB := n1_; clear n0_ n1_; (try clear hb); (try clear hb2); (try clear hk); (try clear hi); (try clear ho0)) | (go_at_call 13; (with_reducible refine (gloaminglaw1_Err.calls t139 t142 _ A61.out).mono ?_); rintro e w' ⟨rfl, ⟨nd, rfl⟩⟩; (try first | exact ⟨rfl, _, World.drewN_drewN _ _ _⟩ | exact ⟨rfl, _, Eq.trans (World.drewN_drewN _ _ _) (congrArg (World.drewN _) (Nat.add_assoc _ _ _))⟩); obtain ⟨Ao74, co74, eo74⟩ := Kd.R_slice HO141.out; subst eo74; have p143 : 0 ≤ (0 : Int) := (by omega); have q143 : 0 < (t138.length : Int) := of_decide_eq_true (by first | (with_reducible assumption) | assumption); obtain ⟨ad143, e143, hx143_0, hx143_1, hx143_2, hx143_3⟩ := at_T37 (Kd.R_reads' HO141.out).2.2 0 p143 q143; cases e143; have qi143 : (0 < t138.length) = True := eq_true (by omega); (try rw [show ((0 : Int)).toNat = 0 from rfl] at hx143_0); (try rw [show 0 * 4 = 0 from rfl] at hx143_0); (try rw [Addr.add_zero'] at hx143_0); (try rw [show ((0 : Int)).toNat = 0 from rfl] at hx143_1); (try rw [show 0 * 4 = 0 from rfl] at hx143_1); (try rw [Addr.add_zero'] at hx143_1); (try rw [show ((0 : Int)).toNat = 0 from rfl] at hx143_2); (try rw [show 0 * 4 = 0 from rfl] at hx143_2); (try rw [Addr.add_zero'] at hx143_2); (try rw [show ((0 : Int)).toNat = 0 from rfl] at hx143_3); (try rw [show 0 * 4 = 0 from rfl] at hx143_3); (try rw [Addr.add_zero'] at hx143_3); replace p143 := eq_true p143; replace q143 := eq_true q143))
                      repeat (go_quiet (first | (go_at_call 8; (with_reducible refine (op_Get.calls k2 t137 t138 t139 _ A60.out).mono ?_); rintro e w73 ⟨v140, rfl, ho0, hb⟩; have n0_ := Aside0.mk (Kd.R_lower ho0 (below_size (by repeat (first | (with_reducible first | exact HB.out | apply below_alloc | apply pw_below_drewN | apply below_drew1) | exact HB.out)))); have n1_ := Aside0.mk (below_step (by repeat (first | (with_reducible first | exact HB.out | apply below_alloc | apply pw_below_drewN | apply below_drew1) | exact HB.out)) hb); clear HB; have HO141 := n0_; have HB := n1_; clear n0_ n1_; (try clear hb); (try clear hb2); (try clear hk); (try clear hi); (try clear ho0)) | (go_at_call 13; (with_reducible refine (gloaminglaw1_Err.calls t139 t142 _ A61.out).mono ?_); rintro e w' ⟨rfl, ⟨nd, rfl⟩⟩; (try first | exact ⟨rfl, _, World.drewN_drewN _ _ _⟩ | exact ⟨rfl, _, Eq.trans (World.drewN_drewN _ _ _) (congrArg (World.drewN _) (Nat.add_assoc _ _ _))⟩); obtain ⟨Ao74, co74, eo74⟩ := Kd.R_slice HO141.out; subst eo74; have p143 : 0 ≤ (0 : Int) := (by omega); have q143 : 0 < (t138.length : Int) := of_decide_eq_true (by first | (with_reducible assumption) | assumption); obtain ⟨ad143, e143, hx143_0, hx143_1, hx143_2, hx143_3⟩ := at_T37 (Kd.R_reads' HO141.out).2.2 0 p143 q143; cases e143; have qi143 : (0 < t138.length) = True := eq_true (by omega); (try rw [show ((0 : Int)).toNat = 0 from rfl] at hx143_0); (try rw [show 0 * 4 = 0 from rfl] at hx143_0); (try rw [Addr.add_zero'] at hx143_0); (try rw [show ((0 : Int)).toNat = 0 from rfl] at hx143_1); (try rw [show 0 * 4 = 0 from rfl] at hx143_1); (try rw [Addr.add_zero'] at hx143_1); (try rw [show ((0 : Int)).toNat = 0 from rfl] at hx143_2); (try rw [show 0 * 4 = 0 from rfl] at hx143_2); (try rw [Addr.add_zero'] at hx143_2); (try rw [show ((0 : Int)).toNat = 0 from rfl] at hx143_3); (try rw [show 0 * 4 = 0 from rfl] at hx143_3); (try rw [Addr.add_zero'] at hx143_3); replace p143 := eq_true p143; replace q143 := eq_true q143)); try go_wp2_with (first | (go_at_call 8; (with_reducible refine (op_Get.calls k2 t137 t138 t139 _ A60.out).mono ?_); rintro e w73 ⟨v140, rfl, ho0, hb⟩; have n0_ := Aside0.mk (Kd.R_lower ho0 (below_size (by repeat (first | (with_reducible first | exact HB.out | apply below_alloc | apply pw_below_drewN | apply below_drew1) | exact HB.out)))); have n1_ := Aside0.mk (below_step (by repeat (first | (with_reducible first | exact HB.out | apply below_alloc | apply pw_below_drewN | apply below_drew1) | exact HB.out)) hb); clear HB; have HO141 := n0_; have HB := n1_; clear n0_ n1_; (try clear hb); (try clear hb2); (try clear hk); (try clear hi); (try clear ho0)) | (go_at_call 13; (with_reducible refine (gloaminglaw1_Err.calls t139 t142 _ A61.out).mono ?_); rintro e w' ⟨rfl, ⟨nd, rfl⟩⟩; (try first | exact ⟨rfl, _, World.drewN_drewN _ _ _⟩ | exact ⟨rfl, _, Eq.trans (World.drewN_drewN _ _ _) (congrArg (World.drewN _) (Nat.add_assoc _ _ _))⟩); obtain ⟨Ao74, co74, eo74⟩ := Kd.R_slice HO141.out; subst eo74; have p143 : 0 ≤ (0 : Int) := (by omega); have q143 : 0 < (t138.length : Int) := of_decide_eq_true (by first | (with_reducible assumption) | assumption); obtain ⟨ad143, e143, hx143_0, hx143_1, hx143_2, hx143_3⟩ := at_T37 (Kd.R_reads' HO141.out).2.2 0 p143 q143; cases e143; have qi143 : (0 < t138.length) = True := eq_true (by omega); (try rw [show ((0 : Int)).toNat = 0 from rfl] at hx143_0); (try rw [show 0 * 4 = 0 from rfl] at hx143_0); (try rw [Addr.add_zero'] at hx143_0); (try rw [show ((0 : Int)).toNat = 0 from rfl] at hx143_1); (try rw [show 0 * 4 = 0 from rfl] at hx143_1); (try rw [Addr.add_zero'] at hx143_1); (try rw [show ((0 : Int)).toNat = 0 from rfl] at hx143_2); (try rw [show 0 * 4 = 0 from rfl] at hx143_2); (try rw [Addr.add_zero'] at hx143_2); (try rw [show ((0 : Int)).toNat = 0 from rfl] at hx143_3); (try rw [show 0 * 4 = 0 from rfl] at hx143_3); (try rw [Addr.add_zero'] at hx143_3); replace p143 := eq_true p143; replace q143 := eq_true q143)))
                      go_ret
                      exact ⟨by first | rfl | (simp [errW_none, errW_some] <;> rfl) | (simp [*, errW_none, errW_some] <;> rfl), by repeat (first | (with_reducible first | exact HB.out | apply below_alloc | apply pw_below_drewN | apply below_drew1) | exact HB.out)⟩
                  · rw [if_neg c64] at H
                    exact absurd H (by simp)
                · rw [if_neg c63] at H
                  have c63b0 : ((t138.length : Int) == 1) = false := beq_eq_false_iff_ne.mpr c63
                  have c63b1 : ((t138.length : Int) != 1) = true := bne_iff_ne.mpr c63
                  obtain rfl := Option.some.inj H
                  go_wp2_with (first | (go_at_call 8; (with_reducible refine (op_Get.calls k2 t137 t138 t139 _ A60.out).mono ?_); rintro e w75 ⟨v140, rfl, ho0, hb⟩; have n0_ := Aside0.mk (Kd.R_lower ho0 (below_size (by repeat (first | (with_reducible first | exact HB.out | apply below_alloc | apply pw_below_drewN | apply below_drew1) | exact HB.out)))); have n1_ := Aside0.mk (below_step (by repeat (first | (with_reducible first | exact HB.out | apply below_alloc | apply pw_below_drewN | apply below_drew1) | exact HB.out)) hb); clear HB; have HO141 := n0_; have HB := n1_; clear n0_ n1_; (try clear hb); (try clear hb2); (try clear hk); (try clear hi); (try clear ho0)) | (go_at_call 13; (with_reducible refine (gloaminglaw1_Err.calls t139 t142 _ A61.out).mono ?_); rintro e w' ⟨rfl, ⟨nd, rfl⟩⟩; (try first | exact ⟨rfl, _, World.drewN_drewN _ _ _⟩ | exact ⟨rfl, _, Eq.trans (World.drewN_drewN _ _ _) (congrArg (World.drewN _) (Nat.add_assoc _ _ _))⟩); obtain ⟨Ao76, co76, eo76⟩ := Kd.R_slice HO141.out; subst eo76))
                  repeat (go_quiet (first | (go_at_call 8; (with_reducible refine (op_Get.calls k2 t137 t138 t139 _ A60.out).mono ?_); rintro e w75 ⟨v140, rfl, ho0, hb⟩; have n0_ := Aside0.mk (Kd.R_lower ho0 (below_size (by repeat (first | (with_reducible first | exact HB.out | apply below_alloc | apply pw_below_drewN | apply below_drew1) | exact HB.out)))); have n1_ := Aside0.mk (below_step (by repeat (first | (with_reducible first | exact HB.out | apply below_alloc | apply pw_below_drewN | apply below_drew1) | exact HB.out)) hb); clear HB; have HO141 := n0_; have HB := n1_; clear n0_ n1_; (try clear hb); (try clear hb2); (try clear hk); (try clear hi); (try clear ho0)) | (go_at_call 13; (with_reducible refine (gloaminglaw1_Err.calls t139 t142 _ A61.out).mono ?_); rintro e w' ⟨rfl, ⟨nd, rfl⟩⟩; (try first | exact ⟨rfl, _, World.drewN_drewN _ _ _⟩ | exact ⟨rfl, _, Eq.trans (World.drewN_drewN _ _ _) (congrArg (World.drewN _) (Nat.add_assoc _ _ _))⟩); obtain ⟨Ao76, co76, eo76⟩ := Kd.R_slice HO141.out; subst eo76)); try go_wp2_with (first | (go_at_call 8; (with_reducible refine (op_Get.calls k2 t137 t138 t139 _ A60.out).mono ?_); rintro e w75 ⟨v140, rfl, ho0, hb⟩; have n0_ := Aside0.mk (Kd.R_lower ho0 (below_size (by repeat (first | (with_reducible first | exact HB.out | apply below_alloc | apply pw_below_drewN | apply below_drew1) | exact HB.out)))); have n1_ := Aside0.mk (below_step (by repeat (first | (with_reducible first | exact HB.out | apply below_alloc | apply pw_below_drewN | apply below_drew1) | exact HB.out)) hb); clear HB; have HO141 := n0_; have HB := n1_; clear n0_ n1_; (try clear hb); (try clear hb2); (try clear hk); (try clear hi); (try clear ho0)) | (go_at_call 13; (with_reducible refine (gloaminglaw1_Err.calls t139 t142 _ A61.out).mono ?_); rintro e w' ⟨rfl, ⟨nd, rfl⟩⟩; (try first | exact ⟨rfl, _, World.drewN_drewN _ _ _⟩ | exact ⟨rfl, _, Eq.trans (World.drewN_drewN _ _ _) (congrArg (World.drewN _) (Nat.add_assoc _ _ _))⟩); obtain ⟨Ao76, co76, eo76⟩ := Kd.R_slice HO141.out; subst eo76)))
                  go_ret
                  exact ⟨by first | rfl | (simp [errW_none, errW_some] <;> rfl) | (simp [*, errW_none, errW_some] <;> rfl), by repeat (first | (with_reducible first | exact HB.out | apply below_alloc | apply pw_below_drewN | apply below_drew1) | exact HB.out)⟩
              · rw [if_neg c62] at H
                have c62b0 : (t142 == 0) = false := beq_eq_false_iff_ne.mpr c62
                have c62b1 : (t142 != 0) = true := bne_iff_ne.mpr c62
                obtain rfl := Option.some.inj H
                go_wp2_with (first | (go_at_call 8; (with_reducible refine (op_Get.calls k2 t137 t138 t139 _ A60.out).mono ?_); rintro e w77 ⟨v140, rfl, ho0, hb⟩; have n0_ := Aside0.mk (Kd.R_lower ho0 (below_size (by repeat (first | (with_reducible first | exact HB.out | apply below_alloc | apply pw_below_drewN | apply below_drew1) | exact HB.out)))); have n1_ := Aside0.mk (below_step (by repeat (first | (with_reducible first | exact HB.out | apply below_alloc | apply pw_below_drewN | apply below_drew1) | exact HB.out)) hb); clear HB; have HO141 := n0_; have HB := n1_; clear n0_ n1_; (try clear hb); (try clear hb2); (try clear hk); (try clear hi); (try clear ho0)) | (go_at_call 13; (with_reducible refine (gloaminglaw1_Err.calls t139 t142 _ A61.out).mono ?_); rintro e w' ⟨rfl, ⟨nd, rfl⟩⟩; (try first | exact ⟨rfl, _, World.drewN_drewN _ _ _⟩ | exact ⟨rfl, _, Eq.trans (World.drewN_drewN _ _ _) (congrArg (World.drewN _) (Nat.add_assoc _ _ _))⟩)))
                repeat (go_quiet (first | (go_at_call 8; (with_reducible refine (op_Get.calls k2 t137 t138 t139 _ A60.out).mono ?_); rintro e w77 ⟨v140, rfl, ho0, hb⟩; have n0_ := Aside0.mk (Kd.R_lower ho0 (below_size (by repeat (first | (with_reducible first | exact HB.out | apply below_alloc | apply pw_below_drewN | apply below_drew1) | exact HB.out)))); have n1_ := Aside0.mk (below_step (by repeat (first | (with_reducible first | exact HB.out | apply below_alloc | apply pw_below_drewN | apply below_drew1) | exact HB.out)) hb); clear HB; have HO141 := n0_; have HB := n1_; clear n0_ n1_; (try clear hb); (try clear hb2); (try clear hk); (try clear hi); (try clear ho0)) | (go_at_call 13; (with_reducible refine (gloaminglaw1_Err.calls t139 t142 _ A61.out).mono ?_); rintro e w' ⟨rfl, ⟨nd, rfl⟩⟩; (try first | exact ⟨rfl, _, World.drewN_drewN _ _ _⟩ | exact ⟨rfl, _, Eq.trans (World.drewN_drewN _ _ _) (congrArg (World.drewN _) (Nat.add_assoc _ _ _))⟩))); try go_wp2_with (first | (go_at_call 8; (with_reducible refine (op_Get.calls k2 t137 t138 t139 _ A60.out).mono ?_); rintro e w77 ⟨v140, rfl, ho0, hb⟩; have n0_ := Aside0.mk (Kd.R_lower ho0 (below_size (by repeat (first | (with_reducible first | exact HB.out | apply below_alloc | apply pw_below_drewN | apply below_drew1) | exact HB.out)))); have n1_ := Aside0.mk (below_step (by repeat (first | (with_reducible first | exact HB.out | apply below_alloc | apply pw_below_drewN | apply below_drew1) | exact HB.out)) hb); clear HB; have HO141 := n0_; have HB := n1_; clear n0_ n1_; (try clear hb); (try clear hb2); (try clear hk); (try clear hi); (try clear ho0)) | (go_at_call 13; (with_reducible refine (gloaminglaw1_Err.calls t139 t142 _ A61.out).mono ?_); rintro e w' ⟨rfl, ⟨nd, rfl⟩⟩; (try first | exact ⟨rfl, _, World.drewN_drewN _ _ _⟩ | exact ⟨rfl, _, Eq.trans (World.drewN_drewN _ _ _) (congrArg (World.drewN _) (Nat.add_assoc _ _ _))⟩))))
                go_ret
                exact ⟨by first | rfl | (simp [errW_none, errW_some] <;> rfl) | (simp [*, errW_none, errW_some] <;> rfl), by repeat (first | (with_reducible first | exact HB.out | apply below_alloc | apply pw_below_drewN | apply below_drew1) | exact HB.out)⟩

/-- THE ONE PURE STATEMENT of gloaminglaw22_OpKnown: yours. -/
def gloaminglaw22_OpKnown.Pure : Prop := ∀ (a0 : Int) (a1 : Int) (a2 : Int) (a3 : Int), (Lit.int .u8 a0).wf = true → (Lit.int .u16 a1).wf = true → (Lit.int .i32 a2).wf = true → (Lit.int .i64 a3).wf = true → ∃ k, gloaminglaw22_OpKnown.f k a0 a1 a2 a3 = some true
theorem gloaminglaw22_OpKnown.walk (P : gloaminglaw22_OpKnown.Pure) (a0 : Int) (a1 : Int) (a2 : Int) (a3 : Int) (w : World) (w0 : (Lit.int .u8 a0).wf = true) (w1 : (Lit.int .u16 a1).wf = true) (w2 : (Lit.int .i32 a2).wf = true) (w3 : (Lit.int .i64 a3).wf = true) :
    Calls Try.prog 5 #[.int .u8 a0, .int .u16 a1, .int .i32 a2, .int .i64 a3] w fun e w' => e = .returned (.bool true) ∧ Below w.heap.size w w' := by
  obtain ⟨k, h⟩ := P a0 a1 a2 a3 w0 w1 w2 w3
  refine (gloaminglaw22_OpKnown.calls k a0 a1 a2 a3 true w h).mono ?_
  rintro e w' ⟨rfl, hd⟩
  exact ⟨rfl, hd⟩

end Go.Proofs.Ytkandpfaonlncaa.POpKnown
