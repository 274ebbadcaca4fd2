/- Roots, merged: no root at all, or one that is held. -/
/- A row of slices as one slice; what is below 1 is taken out. -/
import Derived.Test.YtibgbahaldojiaaGreatFins
import Derived.Test.YtibgbahaldojiaaGreatNew
import Derived.Lib.AppendZerosOnto
namespace Go.Proofs.YtibgbahaldojiaaGreat.Fns
open Go Go.RowKit Go.Sort
theorem z16_at (i : Nat) (h : i < 16) : z16[i]? = some (.int .i64 0) := by
  have : z16 = Array.replicate 16 (.int .i64 0) := by rfl
  rw [this]
  simp [h]
theorem lit_c (w : World) (x : Int) (z : Bool) (hz : decide (x < 1) = z) : Calls Tryz.prog 180 #[.int .i64 x] w fun e w' => e = .returned (.bool z) ∧ w = w' := by
  go_enter Tryz.func180, Tryz.ntmps180
  go_wp2
  go_ret
  exact ⟨rfl, rfl⟩
/-- A copy of roots that are none. -/
theorem roots_c (w : World) (r : Nat) (h : w.heap[r]? = some (.cells z16 103 (0, 0))) : Calls Tryz.prog 79 #[.pointer (some ⟨r, 0, none⟩)] w fun e w' => ∃ v', e = .returned v' ∧ w'.ownsRow w.heap.size 3 1 v' 16 ((List.replicate 16 (0 : Int)).map (Value.int .i64)) ∧ Below w.heap.size w w' := by
  have HC := Lib.hid (Tryz.slices_Clone_int r 0 16 16 (List.replicate 16 0) w (by simp) (by omega) (fun j hj => by
    have hj : j < 16 := by simpa using hj
    rw [Nat.zero_add, cell_of_row _ _ j _ _ _ h, z16_at j hj]
    rw [List.getD_eq_getElem?_getD, List.getElem?_replicate, if_pos hj]; rfl))
  clear h
  go_enter Tryz.func79, Tryz.ntmps79
  go_wp2_with (go_at_call 108; refine HC.out.mono ?_; rintro e w1 ⟨v', rfl, ho, _, hb⟩; obtain ⟨A', c', rfl⟩ := own_form ho; have HO := Lib.hid ho; have HB := Lib.hid hb; clear ho hb)
  go_ret
  exact ⟨_, rfl, by have := HO.out; rwa [List.take_of_length_le (by simp)] at this, HB.out⟩
theorem wpList_app {P : Program} (w w' : World) {ops : Array Oper} {rest : List Oper} {o : Oper} {a : Act} {Q : Exit → Act → World → Prop} (hgd : o.guard = none) (s x : Operand) (t t2 : TypeId) (v u r : Value)
    (ho : o.op = .call { callee := .builtin .append, args := #[s, x], argTypes := #[t, t2] }) (hs : a.eval s = v) (hx : a.eval x = u) (hrun : (Builtin.append_ #[t, t2] o.type #[v, u]).run P w = .ok r w')
    (h : wpList P ops Q rest (a.put o.dst r) w') : wpList P ops Q (o :: rest) a w := by
  refine wpList_plain hgd fun K hK => ?_
  unfold Oper.wp execOp
  simp only [ho, resolve, invoke, builtin, Sem.run_bind, Sem.run_pure, Result.andThen_ok, List.map_toArray, List.map_cons, List.map_nil, hs, hx, hrun]
  exact hK _ _ h
theorem grow_c (w : World) (k : Nat) (h0 : 0 < k) (hk : k ≤ 100000) : Calls Tryz.prog 203 #[.slice none 0 0, .int .i64 (k : Int)] w fun e w' => ∃ s c, e = .returned (.slice (some ⟨s, 0, none⟩) 0 c) ∧ w'.ownsRow w.heap.size 3 1 (.slice (some ⟨s, 0, none⟩) 0 c) 0 [] ∧ Below w.heap.size w w' := by
  have d0 : decide ((k : Int) < 0) = false := by simp
  have d1 : decide ((0 : Int) < (k : Int)) = true := by simp; omega
  have d2 : decide (0 < k) = true := by simp; omega
  have HC0 := Lib.hid (grownCap_ge w k 0 3)
  have HC1 := Lib.hid (grownCap_le_maxLen w k 0 3 (by unfold maxLen; omega))
  obtain ⟨i0, hi0, hz0, hz1, hz2⟩ := info_parts info3
  have hg := fun ty => Lib.run_append_grow_zeros (P := Tryz.prog) w 51 3 ty 3 i0 (.int .i64 0) .i64 .i64 Tryz.underlying51 Tryz.underlying3 hi0 hz0 none 0 0 [] (by simp [Builtin.firstCells]) k h0 (by omega) (by omega) (by omega) (by rw [hz2]; omega) (by rw [hz2]; unfold Builtin.nextslicecap; rw [if_pos (by omega)]; omega)
  rw [Nat.zero_add] at hg
  have HG := Lib.hid hg
  have hc0 := grownCap_ge w k 0 3
  have hc1 := grownCap_le_maxLen w k 0 3 (by unfold maxLen; omega)
  generalize grownCap w k 0 3 = cc at HG HC0 HC1 hc0 hc1
  have e1 : (0 : Int) ≤ (cc : Int) := by omega
  clear hi0 hz0 hz1 hz2 hc0 hc1 hg
  go_enter Tryz.func203, Tryz.ntmps203
  go_wp2_with (at_builtin; refine wpList_app _ _ rfl (.tmp 20) (.tmp 21) 51 3 (.slice none 0 0) (.int .i64 (k : Int)) _ rfl (by simp [Act.eval]) (by simp [Act.eval]) (HG.out _) ?_)
  go_ret
  refine ⟨_, _, rfl, ⟨by simp, .inr ⟨w.heap.size, cc, _, rfl, Nat.le_refl _, heap_alloc_new w _, Nat.zero_le _, HC1.out, ?_, by simp⟩⟩, below_drew ((Below.refl _ _).alloc (Nat.le_refl _) _)⟩
  have h := HC0.out
  simp [Builtin.zeroCells]
  omega
end Go.Proofs.YtibgbahaldojiaaGreat.Fns
namespace Go.Proofs.YtibgbahaldojiaaGreat.Fns
open Go Go.RowKit Go.Sort
theorem flat_take (Ls : List (List Int)) (j : Nat) (h : j < Ls.length) : (Ls.take (j + 1)).flatten = (Ls.take j).flatten ++ Ls.getD j [] := by
  rw [List.take_add_one, List.flatten_append]
  simp [List.getD_eq_getElem?_getD, List.getElem?_eq_getElem h]
theorem flat_len (Ls : List (List Int)) (j : Nat) : (Ls.take j).flatten.length ≤ Ls.flatten.length := by
  conv => rhs; rw [← List.take_append_drop j Ls, List.flatten_append, List.length_append]
  omega
set_option maxHeartbeats 2000000 in
theorem concat_c (w : World) (s m c : Nat) (Ls : List (List Int)) (As : Nat → Option Addr) (cs : Nat → Nat) (hm : Ls.length = m) (hm8 : m ≤ 8) (h0 : 0 < Ls.flatten.length) (hl : Ls.flatten.length ≤ 10000)
    (hc : ∀ j, j < m → w.cell? ⟨s, j, none⟩ = some (.slice (As j) (Ls.getD j []).length (cs j)) ∧ Ints w w.heap.size (As j) (Ls.getD j []).length (Ls.getD j [])) :
    Calls Tryz.prog 177 #[.slice (some ⟨s, 0, none⟩) m c] w fun e w' => ∃ v, e = .returned v ∧ w'.ownsRow w.heap.size 3 1 v Ls.flatten.length (Ls.flatten.map (Value.int .i64)) ∧ Below w.heap.size w w' := by
  obtain ⟨i0, hi0, hz0, hz1, hz2⟩ := info_parts info3
  have INFO := Lib.hid (And.intro hi0 (And.intro hz0 (And.intro hz1 hz2)))
  clear hi0 hz0 hz1 hz2
  have HM := Lib.hid hm
  have HC := Lib.hid hc
  have HFL := Lib.hid (flat_len Ls)
  obtain ⟨K, hK⟩ : ∃ K, Ls.flatten.length = K := ⟨_, rfl⟩
  have HKK := Lib.hid hK
  rw [hK] at h0 hl HFL
  rw [hK]
  clear hm hc hK
  go_enter Tryz.func177, Tryz.ntmps177
  go_wp2
  go_loopw [3, 5, 11] (fun nv _ iv wr => ∃ j : Nat, j ≤ m ∧ iv = .int .i64 (j : Int) ∧ nv = .int .i64 ((Ls.take j).flatten.length : Int) ∧ wr = w) (fun _ _ iv _ => m - (intOf iv).toNat)
  case atStart => exact ⟨0, Nat.zero_le _, rfl, by simp, rfl⟩
  case round =>
    obtain ⟨j, hj, rfl, rfl, rfl⟩ := hrel
    by_cases hlt : j < m
    · have hcj := (HC.out j hlt).1
      have HT := Lib.hid (flat_take Ls j (by rw [HM.out]; exact hlt))
      have hb1 := HFL.out j
      have hb2 := HFL.out (j + 1)
      rw [HT.out, List.length_append] at hb2
      obtain ⟨p, hp⟩ : ∃ p, (Ls.take j).flatten.length = p := ⟨_, rfl⟩
      obtain ⟨q, hq⟩ : ∃ q, (Ls.getD j []).length = q := ⟨_, rfl⟩
      have HPQ := Lib.hid (And.intro hp hq)
      rw [hp, hq] at hb2
      rw [hq] at hcj
      rw [hp]
      have dj : decide ((j : Int) < (m : Int)) = true := by simp; omega
      have dj2 : decide (j < m) = true := by simp; omega
      have g1 : (0 : Int) ≤ (j : Int) := by omega
      have g2 : (j : Int) < (m : Int) := by omega
      have d3 : decide ((p : Int) + (q : Int) < 0) = false := by simp; omega
      clear hp hq hb1
      go_wp2
      go_roundw
      case rel => exact ⟨j + 1, by omega, by go_num, by rw [HT.out, List.length_append, HPQ.out.1, HPQ.out.2]; simp, trivial⟩
      case measure => simp [intOf]; omega
    · obtain rfl : j = m := by omega
      have dj : decide ((j : Int) < (j : Int)) = false := by simp
      rw [List.take_of_length_le (by rw [HM.out]; exact Nat.le_refl _), HKK.out]
      go_wp2_with (go_at_call 203; refine (grow_c _ K h0 (by omega)).mono ?_; rintro e w1 ⟨sg, cg, rfl, ho, hb⟩; have HO := Lib.hid ho; have HB := Lib.hid hb; clear ho hb)
      obtain ⟨wo, rfl⟩ : ∃ wo : World, wo = wr := ⟨_, rfl⟩
      go_loopw [6, 8, 27] (fun v _ iv wx => ∃ q : Nat, q ≤ j ∧ iv = .int .i64 (q : Int) ∧ wx.ownsRow wo.heap.size 3 1 v (Ls.take q).flatten.length ((Ls.take q).flatten.map (Value.int .i64)) ∧ Below wo.heap.size wo wx) (fun _ _ iv _ => j - (intOf iv).toNat)
      case atStart => exact ⟨0, Nat.zero_le _, rfl, by simpa using HO.out, HB.out⟩
      case round =>
        obtain ⟨q, hq, rfl, ho, hb⟩ := hrel
        have HOX := Lib.hid ho
        have HBX := Lib.hid hb
        by_cases hlt : q < j
        · obtain ⟨A, cc, rfl⟩ := own_form ho
          have hcj := (hb.cell (World.block_lt_of_cell? _ _ (HC.out q hlt).1)).trans (HC.out q hlt).1
          have HI := Lib.hid ((HC.out q hlt).2.below hb (Nat.le_refl _))
          have HT := Lib.hid (flat_take Ls q (by rw [HM.out]; exact hlt))
          have hb2 := HFL.out (q + 1)
          rw [HT.out, List.length_append] at hb2
          obtain ⟨p, hp⟩ : ∃ p, (Ls.take q).flatten.length = p := ⟨_, rfl⟩
          obtain ⟨r, hr⟩ : ∃ r, (Ls.getD q []).length = r := ⟨_, rfl⟩
          have HPQ := Lib.hid (And.intro hp hr)
          rw [hp, hr] at hb2
          rw [hr] at hcj HI
          rw [hp] at HOX ⊢
          have dj : decide ((q : Int) < (j : Int)) = true := by simp; omega
          have dj2 : decide (q < j) = true := by simp; omega
          have g1 : (0 : Int) ≤ (q : Int) := by omega
          have g2 : (q : Int) < (j : Int) := by omega
          clear ho hb hp hr
          go_wp2_with (at_builtin; refine wpList_push _ rfl (.tmp 31) (.tmp 32) 51 rfl wo.heap.size 3 i0 Tryz.underlying51 INFO.out.1 INFO.out.2.1 INFO.out.2.2.1 INFO.out.2.2.2 (.slice A p cc) p _ (by simp [Act.eval]) HOX.out _ (As q) r (cs q) _ (by simp [Act.eval]) HI.out (by omega) HBX.out.size ?_; intro v2 w3 ho hg _; have HO3 := Lib.hid ho; have HB3 := Lib.hid (HBX.out.grown hg HBX.out.size (fun k hk => (HOX.out.lt k hk).1)); clear ho hg)
          go_roundw
          case rel => exact ⟨q + 1, by omega, by go_num, by rw [HT.out, List.length_append, HPQ.out.1, HPQ.out.2]; simpa using HO3.out, HB3.out⟩
          case measure => simp [intOf]; omega
        · obtain rfl : q = j := by omega
          rw [List.take_of_length_le (by rw [HM.out]; exact Nat.le_refl _), HKK.out] at ho
          have HOY := Lib.hid ho
          obtain ⟨A, cc, rfl⟩ := own_form ho
          have dj : decide ((q : Int) < (q : Int)) = false := by simp
          clear ho hb HOX
          go_wp2
          go_ret
          exact ⟨_, rfl, HOY.out, HBX.out⟩
end Go.Proofs.YtibgbahaldojiaaGreat.Fns
