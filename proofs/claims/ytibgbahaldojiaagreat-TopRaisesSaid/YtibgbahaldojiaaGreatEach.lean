/- The space at blocks of 2 words in one page: all blocks; how many words they have. -/
import Derived.Test.YtibgbahaldojiaaGreatFind
import Derived.Test.YtibgbahaldojiaaGreatSort
namespace Go.Proofs.YtibgbahaldojiaaGreat.Fns
open Go Go.RowKit
/-- The first addresses of blocks of 2 words. -/
def ats (m : Nat) : List Int := (List.range m).map (fun i : Nat => (64 : Int) + (i : Int) * 2)
theorem ats_len (m : Nat) : (ats m).length = m := by simp [ats]
theorem ats_succ (m : Nat) : ats (m + 1) = ats m ++ [64 + (m : Int) * 2] := by simp [ats, List.range_succ]
theorem ats_getD (m i : Nat) (h : i < m) : (ats m).getD i 0 = 64 + (i : Int) * 2 := by
  simp [ats, List.getD_eq_getElem?_getD, h]
theorem ats_up (m : Nat) : (ats m).Pairwise (· ≤ ·) := by
  unfold ats
  rw [List.pairwise_map]
  exact (List.pairwise_lt_range).imp (fun h => by omega)
theorem setB_new (w : World) (o o' : Obj) : setB (w.alloc o) w.heap.size o' = w.alloc o' := by
  unfold setB World.alloc
  simp only [World.mk.injEq, and_true]
  apply Array.ext'
  simp
section
variable (w : World) {b : SpB} {g : PgB} {n m : Nat} {f : Nat → Int}
set_option maxHeartbeats 1000000 in
theorem each0_c {PF : Nat → Bool} {ck : Nat} (h : Sp w b n PF f #[] ck) : Calls Tryz.prog 71 #[.pointer (some ⟨b.sp, 0, none⟩)] w fun e w' => e = .returned (.slice none 0 0) ∧ Below w.heap.size w w' := by
  have HB := Lib.hid (show Below w.heap.size w ((w.alloc (.mapIter (some b.sm) ck #[] ck)).alloc (.mapIter (some b.lg) 0 #[] 0)) from ((Below.refl _ _).alloc (Nat.le_refl _) _).alloc (by simp) _)
  have HB1 := Lib.hid (show Below w.heap.size w (w.alloc (.mapIter (some b.sm) ck #[] ck)) from (Below.refl _ _).alloc (Nat.le_refl _) _)
  have H1 := Lib.hid (h.below HB1.out)
  have H2 := Lib.hid (h.below HB.out)
  have r1 := run_range_map (P := Tryz.prog) w 147 3 172 b.sm #[] ck Tryz.underlying147 h.small
  have r2 := run_range_map (P := Tryz.prog) (w.alloc (.mapIter (some b.sm) ck #[] ck)) 148 3 3 b.lg #[] 0 Tryz.underlying148 H1.out.large
  rw [show (w.alloc (.mapIter (some b.sm) ck #[] ck)).heap.size = w.heap.size + 1 by simp] at r2
  have n1 : ∀ ty, (Instr.next (.pointer (some ⟨w.heap.size, 0, none⟩)) false ty).run Tryz.prog (w.alloc (.mapIter (some b.sm) ck #[] ck)) = .ok (.tuple #[.bool false]) (w.alloc (.mapIter (some b.sm) ck #[] ck)) :=
    fun ty => next_none (m := b.sm) (ck := ck) _ ty ck ck (heap_alloc_new w _) H1.out.small (Nat.le_refl _)
  have n2 : ∀ ty, (Instr.next (.pointer (some ⟨w.heap.size + 1, 0, none⟩)) false ty).run Tryz.prog ((w.alloc (.mapIter (some b.sm) ck #[] ck)).alloc (.mapIter (some b.lg) 0 #[] 0)) = .ok (.tuple #[.bool false]) ((w.alloc (.mapIter (some b.sm) ck #[] ck)).alloc (.mapIter (some b.lg) 0 #[] 0)) :=
    fun ty => next_none (m := b.lg) (ck := 0) _ ty 0 0 (by have := heap_alloc_new (w.alloc (.mapIter (some b.sm) ck #[] ck)) (.mapIter (some b.lg) 0 #[] 0); simpa using this) H2.out.large (Nat.le_refl _)
  have k2 := h.c2
  have k3 := H1.out.c3
  clear h
  go_enter Tryz.func71, Tryz.ntmps71
  go_wp2
  go_loopw [3] (fun v wr => v = .slice none 0 0 ∧ wr = w.alloc (.mapIter (some b.sm) ck #[] ck)) (fun _ _ => 0)
  case atStart => exact ⟨rfl, rfl⟩
  case round =>
    obtain ⟨rfl, rfl⟩ := hrel
    go_wp2
    go_loopw [3] (fun v wr => v = .slice none 0 0 ∧ wr = ((w.alloc (.mapIter (some b.sm) ck #[] ck)).alloc (.mapIter (some b.lg) 0 #[] 0))) (fun _ _ => 0)
    case atStart => exact ⟨rfl, rfl⟩
    case round =>
      obtain ⟨rfl, rfl⟩ := hrel
      go_wp2_with (go_at_call 112; refine (Tryz.slices_Sort_int_none none 0 _).mono ?_; rintro e w' ⟨rfl, rfl⟩)
      go_ret
      exact ⟨rfl, HB.out⟩
/-- Where the next one is, from a place on, when the first m are so. -/
theorem low_next (m j : Nat) (hj : j ≤ m) (hm : m ≤ 32) (z : Int) (hz : (if j < m then (j : Int) else -1) = z) : (∃ k : Nat, z = (k : Int) ∧ j ≤ k ∧ k < 32 ∧ lowF m k = true ∧ ∀ q : Nat, j ≤ q → q < k → lowF m q ≠ true) ∨ (z = -1 ∧ ∀ q : Nat, j ≤ q → q < 32 → lowF m q ≠ true) := by
  subst hz
  by_cases h : j < m
  · rw [if_pos h]
    exact .inl ⟨j, rfl, Nat.le_refl _, by omega, by simp [lowF, h], fun q h1 h2 => by omega⟩
  · rw [if_neg h]
    exact .inr ⟨rfl, fun q h1 _ => by simp [lowF]; omega⟩
set_option maxRecDepth 100000 in
set_option maxHeartbeats 2000000 in
theorem each1_c {born ck : Nat} (h : Sp w b n pf1 f (ent g.p born) ck) (hbo : born < ck) (hp : Pb w g.p g.q g.r (lowF m)) (hm : m ≤ 32) (h0 : 0 < m) :
    Calls Tryz.prog 71 #[.pointer (some ⟨b.sp, 0, none⟩)] w fun e w' => ∃ v, e = .returned v ∧ w'.ownsRow w.heap.size 3 1 v m ((ats m).map (Value.int .i64)) ∧ Below w.heap.size w w' := by
  obtain ⟨i0, hi0, hz0, hz1, hz2⟩ := info_parts info3
  have INFO := Lib.hid (And.intro hi0 (And.intro hz0 (And.intro hz1 hz2)))
  clear hi0 hz0 hz1 hz2
  have HB1 := Lib.hid (show Below w.heap.size w (w.alloc (.mapIter (some b.sm) ck #[] ck)) from (Below.refl _ _).alloc (Nat.le_refl _) _)
  have HB2 := Lib.hid (show Below w.heap.size w (w.alloc (.mapIter (some b.sm) ck #[born] ck)) from (Below.refl _ _).alloc (Nat.le_refl _) _)
  have H1 := Lib.hid (h.below HB1.out)
  have H2 := Lib.hid (h.below HB2.out)
  have HP2 := Lib.hid (hp.below HB2.out)
  have r1 := run_range_map (P := Tryz.prog) w 147 3 172 b.sm _ ck Tryz.underlying147 h.small
  have n1 : ∀ ty, (Instr.next (.pointer (some ⟨w.heap.size, 0, none⟩)) false ty).run Tryz.prog (w.alloc (.mapIter (some b.sm) ck #[] ck)) = .ok (.tuple #[.bool true, .int .i64 1, .pointer (some ⟨g.p, 0, none⟩)]) (w.alloc (.mapIter (some b.sm) ck #[born] ck)) := fun ty => by
    have := next_one (m := b.sm) (ck := ck) _ ty ck ck born (.int .i64 1) (.pointer (some ⟨g.p, 0, none⟩)) (heap_alloc_new w _) H1.out.small hbo (Nat.le_refl _)
    rwa [setB_new] at this
  have e1 := entry_one (m := b.sm) (ck := ck) _ ck born (.int .i64 1) (.pointer (some ⟨g.p, 0, none⟩)) (heap_alloc_new w (.mapIter (some b.sm) ck #[born] ck)) H2.out.small
  have p1 := HP2.out.c0
  have k2 := h.c2
  have HM := Lib.hid hm
  have HBO := Lib.hid hbo
  have HIT := Lib.hid (heap_alloc_new w (.mapIter (some b.sm) ck #[born] ck))
  have HLT := Lib.hid (show w.heap.size < (w.alloc (.mapIter (some b.sm) ck #[born] ck)).heap.size by simp)
  clear h hp hbo
  go_enter Tryz.func71, Tryz.ntmps71
  go_wp2
  go_loopw [3] (fun v wr => (v = .slice none 0 0 ∧ wr = w.alloc (.mapIter (some b.sm) ck #[] ck)) ∨ ∃ s c, v = .slice (some ⟨s, 0, none⟩) m c ∧ wr.ownsRow (w.heap.size + 1) 3 1 v m ((ats m).map (Value.int .i64)) ∧ Below (w.heap.size + 1) (w.alloc (.mapIter (some b.sm) ck #[born] ck)) wr) (fun v _ => match v with | .slice none _ _ => 1 | _ => 0)
  case atStart => exact .inl ⟨rfl, rfl⟩
  case round =>
    rcases hrel with ⟨rfl, rfl⟩ | ⟨s, c, rfl, ho, hb⟩
    · go_wp2_with (go_at_call 110; refine (btNext0_c _ HP2.out.bits true 0 (low_next m 0 (Nat.zero_le _) HM.out 0 (by rw [if_pos h0]; rfl))).mono ?_; rintro e w' ⟨rfl, rfl⟩)
      obtain ⟨wo, hwo⟩ : ∃ wo, wo = w.alloc (.mapIter (some b.sm) ck #[born] ck) := ⟨_, rfl⟩
      have HWO := Lib.hid hwo
      go_loopw [3, 6] (fun v iv wr => ∃ j : Nat, j ≤ m ∧ iv = .int .i64 (if j < m then (j : Int) else -1) ∧ wr.ownsRow (w.heap.size + 1) 3 1 v j ((ats j).map (Value.int .i64)) ∧ Below (w.heap.size + 1) (w.alloc (.mapIter (some b.sm) ck #[born] ck)) wr) (fun _ iv _ => mz m (intOf iv))
      case atStart => exact ⟨0, Nat.zero_le _, by rw [if_pos h0]; rfl, World.ownsRow_nil _ _ _ _, Below.refl _ _⟩
      case round =>
        obtain ⟨j, hj, rfl, ho, hb⟩ := hrel
        have HO := Lib.hid ho
        have HB := Lib.hid hb
        have HSZ := Lib.hid (show w.heap.size + 1 ≤ wr.heap.size by have := hb.size; simpa using this)
        have HPB := Lib.hid (show Pb wr g.p g.q g.r (lowF m) from HP2.out.below (by simpa using hb))
        have p2 := HPB.out.c0
        obtain ⟨A, c, rfl⟩ := own_form ho
        clear ho hb
        by_cases hlt : j < m
        · rw [if_pos hlt]
          obtain ⟨z, hz⟩ : ∃ z : Int, (if j + 1 < m then ((j + 1 : Nat) : Int) else -1) = z := ⟨_, rfl⟩
          have HZ := Lib.hid hz
          have hm32 := HM.out
          have d0 : decide ((0 : Int) ≤ (j : Int)) = true := by simp
          clear hz
          go_wp2_with (first
            | (at_builtin; refine wpList_push _ rfl (.tmp 34) (.tmp 42) 51 rfl (w.heap.size + 1) 3 i0 Tryz.underlying51 INFO.out.1 INFO.out.2.1 INFO.out.2.2.1 INFO.out.2.2.2 (.slice A j c) j _ (by simp [Act.eval]) (HO.out.alloc _) (wr.heap.size + 1) (some ⟨wr.heap.size, 0, none⟩) 1 1 _ rfl (ints_one wr _) (by omega) (Nat.le_trans HSZ.out (by simp)) ?_; intro v2 w3 ho hg _; have HO3 := Lib.hid ho; have HB3 := Lib.hid ((HB.out.alloc HSZ.out _).grown hg (Nat.le_trans HSZ.out (by simp)) (fun k hk => (HO.out.lt k hk).1)); have HPB3 := Lib.hid (HP2.out.below (by simpa using HB3.out)); have p3 := HPB3.out.c0; clear ho hg)
            | (go_at_call 111; refine (pbWords_c _ HPB.out).mono ?_; rintro e w' ⟨rfl, rfl⟩)
            | (go_at_call 110; refine (btNext_c _ HPB3.out.bits (j + 1) (by omega) true z (low_next m (j + 1) (by omega) hm32 z HZ.out)).mono ?_; rintro e w' ⟨rfl, rfl⟩))
          go_roundw
          case rel => exact ⟨j + 1, by omega, by rw [HZ.out], by rw [ats_succ]; simpa using HO3.out, HB3.out⟩
          case measure =>
            show mz m z < mz m (j : Int)
            rw [← HZ.out]
            unfold mz
            split <;> split <;> first | omega | (split <;> omega)
        · rw [if_neg hlt]
          obtain rfl : j = m := by omega
          obtain ⟨s, rfl⟩ : ∃ s, A = some ⟨s, 0, none⟩ := by
            rcases HO.out.2 with ⟨_, h2⟩ | ⟨s, cap, _, h2, _⟩
            · omega
            · injection h2 with h2
              exact ⟨s, h2⟩
          go_wp2
          go_roundw
          case rel => exact .inr ⟨s, c, rfl, HO.out, HB.out⟩
          case measure => simp
    · have HO := Lib.hid ho
      have HB := Lib.hid hb
      have HS := Lib.hid (show Sp wr b n pf1 f (ent g.p born) ck from H2.out.below (by simpa using hb))
      have hz : w.heap.size + 1 ≤ wr.heap.size := by have := hb.size; simpa using this
      have hit := (hb.block _ (Nat.lt_succ_self _)).trans HIT.out
      have n3 : ∀ ty, (Instr.next (.pointer (some ⟨w.heap.size, 0, none⟩)) false ty).run Tryz.prog wr = .ok (.tuple #[.bool false]) wr := fun ty => next_last (m := b.sm) (ck := ck) _ ty ck ck born (.int .i64 1) (.pointer (some ⟨g.p, 0, none⟩)) hit HS.out.small HBO.out (Nat.le_refl _)
      have k3 := HS.out.c3
      have r4 := run_range_map (P := Tryz.prog) wr 148 3 3 b.lg #[] 0 Tryz.underlying148 HS.out.large
      have HS4 := Lib.hid (HS.out.below (w' := wr.alloc (.mapIter (some b.lg) 0 #[] 0)) ((Below.refl _ _).alloc (Nat.le_refl _) _))
      have n4 : ∀ ty, (Instr.next (.pointer (some ⟨wr.heap.size, 0, none⟩)) false ty).run Tryz.prog (wr.alloc (.mapIter (some b.lg) 0 #[] 0)) = .ok (.tuple #[.bool false]) (wr.alloc (.mapIter (some b.lg) 0 #[] 0)) :=
        fun ty => next_none (m := b.lg) (ck := 0) _ ty 0 0 (heap_alloc_new wr _) HS4.out.large (Nat.le_refl _)
      have HO4 := Lib.hid (ho.alloc (.mapIter (some b.lg) 0 #[] 0))
      have HZ := Lib.hid hz
      obtain ⟨wo, hwo⟩ : ∃ wo, wo = wr := ⟨_, rfl⟩
      subst hwo
      clear ho hb hit hz
      go_wp2
      go_loopw [3] (fun v wx => v = .slice (some ⟨s, 0, none⟩) m c ∧ wx = wo.alloc (.mapIter (some b.lg) 0 #[] 0)) (fun _ _ => 0)
      case atStart => exact ⟨rfl, rfl⟩
      case round =>
        obtain ⟨rfl, rfl⟩ := hrel
        go_wp2_with (go_at_call 112; refine (sort_own _ _ m _ _ HO4.out (by have := HM.out; omega)).mono ?_; rintro e w5 ⟨rfl, ho, hg⟩; have HO5 := Lib.hid ho; have HG5 := Lib.hid hg; clear ho hg)
        have ho := HO5.out
        rw [sort_up _ (ats_up m)] at ho
        have hb5 : Below (w.heap.size + 1) (w.alloc (.mapIter (some b.sm) ck #[born] ck)) w5 := (HB.out.alloc HZ.out _).grown HG5.out (Nat.le_trans HZ.out (by simp)) (fun k hk => (HO4.out.lt k hk).1)
        go_ret
        exact ⟨_, rfl, ownsRow_base_a ho (Nat.le_succ _), HB2.out.trans (hb5.mono (Nat.le_succ _))⟩
theorem each_c (h : Sm w b g n m f) (hm : m ≤ 32) : Calls Tryz.prog 71 #[.pointer (some ⟨b.sp, 0, none⟩)] w fun e w' => ∃ v, e = .returned v ∧ w'.ownsRow w.heap.size 3 1 v m ((ats m).map (Value.int .i64)) ∧ Below w.heap.size w w' := by
  rcases h with ⟨rfl, ck, h⟩ | ⟨h0, born, ck, hbo, h, hp, _⟩
  · refine (each0_c w h).mono ?_
    rintro e w' ⟨rfl, hb⟩
    exact ⟨_, rfl, World.ownsRow_nil _ _ _ _, hb⟩
  · exact each1_c w h hbo hp hm h0
theorem own_cell {w : World} {B n i : Nat} {v : Value} {xs : List Int} (h : w.ownsRow B 3 1 v n (xs.map (Value.int .i64))) (hi : i < n) : ∃ s c, v = .slice (some ⟨s, 0, none⟩) n c ∧ w.cell? ⟨s, i, none⟩ = some (.int .i64 (xs.getD i 0)) := by
  have hl : xs.length = n := by have := h.1; simpa using this
  rcases h.2 with ⟨_, h0⟩ | ⟨s, c, _, h2, _⟩
  · omega
  · subst h2
    refine ⟨s, c, rfl, ?_⟩
    rw [h.cellAt i (by omega), List.getElem?_map, List.getElem?_eq_getElem (by omega)]
    simp [List.getD_eq_getElem?_getD, List.getElem?_eq_getElem (show i < xs.length by omega)]
set_option maxHeartbeats 1000000 in
theorem used_c (h : Sm w b g n m f) (hm : m ≤ 32) (hn : 2 ≤ n) (z : Int) (hz : z = (m : Int) * 2) : Calls Tryz.prog 74 #[.pointer (some ⟨b.sp, 0, none⟩)] w fun e w' => e = .returned (.int .i64 z) ∧ Below w.heap.size w w' := by
  have H := Lib.hid h
  have HM := Lib.hid hm
  have HZ := Lib.hid hz
  clear h hm hz
  go_enter Tryz.func74, Tryz.ntmps74
  go_wp2_with (go_at_call 71; refine (each_c _ H.out HM.out).mono ?_; rintro e w1 ⟨v, rfl, ho, hb⟩; have HO := Lib.hid ho; have HB := Lib.hid hb; have H1 := Lib.hid (H.out.below hb); obtain ⟨A, c, rfl⟩ := own_form ho; clear ho hb)
  go_loopw [3, 12] (fun nv iv wr => ∃ j : Nat, j ≤ m ∧ nv = .int .i64 ((j : Int) * 2) ∧ iv = .int .i64 (j : Int) ∧ wr = w1) (fun _ iv _ => m - (intOf iv).toNat)
  case atStart => exact ⟨0, by omega, rfl, rfl, rfl⟩
  case round =>
    obtain ⟨j, hj, rfl, rfl, rfl⟩ := hrel
    by_cases hlt : j < m
    · obtain ⟨s, c', hA, hcell⟩ := own_cell HO.out hlt
      injection hA with hA _ h3
      subst hA h3
      rw [ats_getD _ _ hlt] at hcell
      have hm := HM.out
      obtain ⟨a, ha⟩ : ∃ a : Nat, a = 64 + j * 2 := ⟨_, rfl⟩
      rw [show (64 : Int) + (j : Int) * 2 = (a : Int) by omega] at hcell
      have HA := Lib.hid ha
      have dj : decide ((j : Int) < (m : Int)) = true := by simp; omega
      have dj2 : decide (j < m) = true := by simp; omega
      have g1 : (0 : Int) ≤ (j : Int) := by omega
      have g2 : (j : Int) < (m : Int) := by omega
      have HE := Lib.hid (show ((j : Int) * 2 + 2) = ((j + 1 : Nat) : Int) * 2 by omega)
      clear ha
      go_wp2_with (go_at_call 101; refine (spFind_c _ H1.out hm hn j a hlt HA.out).mono ?_; rintro e w' ⟨rfl, rfl⟩)
      go_roundw
      case rel => exact ⟨j + 1, by omega, by rw [HE.out], by go_num, trivial⟩
      case measure => simp [intOf]; omega
    · obtain rfl : j = m := by omega
      have dj : decide ((j : Int) < (j : Int)) = false := by simp
      go_wp2
      go_ret
      exact ⟨by rw [HZ.out]; rfl, HB.out⟩
end
end Go.Proofs.YtibgbahaldojiaaGreat.Fns
