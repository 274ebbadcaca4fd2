/- HandleRuns: the walk. -/
import Derived.Test.YtembjpfgoogbgaaRef4
import Derived.Deep.CutBlock
namespace Go.Proofs.Ytembjpfgoogbgaa.Fns
open Go Go.RowKit

theorem own_mono {w : World} {B B' e size n : Nat} {v : Value} {xs : List Value} (h : w.ownsRow B e size v n xs) (hB : B' ≤ B) : w.ownsRow B' e size v n xs := by
  refine ⟨h.1, ?_⟩
  rcases h.2 with h2 | ⟨g, cap, cur, hv, hg, r⟩
  · exact .inl h2
  · exact .inr ⟨g, cap, cur, hv, Nat.le_trans hB hg, r⟩
theorem allL_mem {T A : Nat → Int} {q : Nat} {p : Int × Int} (h : (allL T A 512)[q]? = some p) : ∃ i, i < 512 ∧ p.1 = tell T i := by
  have hm := List.mem_of_getElem? h
  unfold allL at hm
  obtain ⟨i, hi, rfl⟩ := List.mem_map.1 hm
  exact ⟨i, List.mem_range.1 (List.mem_filter.1 hi).1, rfl⟩
theorem DropF.turns {T A T' A' : Nat → Int} {x e k : Int} (h : DropF T A x e T' A') (hT : ∀ i, T i ≤ k) (i : Nat) : T' i ≤ k + 1 := by
  rcases h with ⟨_, _, rfl, _⟩ | ⟨_, s, _, _, rfl, _⟩
  · have := hT i; omega
  · by_cases e : i = s
    · subst e; rw [put_same]; have := hT i; omega
    · rw [put_other _ _ _ _ e]; have := hT i; omega
theorem add_field (ad : Addr) (i : Nat) : ad.add (i * 2 + 1) = ⟨(ad.add (i * 2)).block, (ad.add (i * 2)).off + 1, none⟩ := by
  unfold Addr.add
  by_cases h : i * 2 = 0
  · simp [h]
  · simp [h]; omega
set_option maxRecDepth 100000 in
set_option maxHeartbeats 20000000 in
theorem runs_law (D : Option Addr) (m c : Nat) (R : Nat → Int × Int) (w : World) (hr : (∀ i, i < m → ∃ ad, D = some ad ∧ AskAt w w.heap.size ad i (R i)) ∧ m ≤ c ∧ c ≤ maxLen) :
    Calls Try.prog 3 #[.slice D m c] w fun e w' => e = .returned (.bool true) ∧ Below w.heap.size w w' := by
  obtain ⟨hr, hm1, hm2⟩ := hr
  have HR := Lib.hid hr
  clear hr
  have hm3 : m ≤ 9223372036854775807 := by unfold maxLen at hm2; omega
  clear hm2
  by_cases hbig : 80 < m
  · have db : decide ((80 : Int) < (m : Int)) = true := by simp; omega
    have db2 : decide (80 < m) = true := by simp; omega
    go_enter Try.func3, Try.ntmps3
    go_wp2_with (first
      | (go_at_call 8; refine (new_h _).mono ?_; rintro e w1 ⟨rfl, hh, hb⟩; have HB1 := Lib.hid hb; clear hh hb)
      | (go_at_call 9; refine (awake_c _).mono ?_; rintro e w5 ⟨rfl, hb⟩; have HB5 := Lib.hid hb; clear hb))
    go_ret
    exact ⟨rfl, HB1.out.trans (HB5.out.mono HB1.out.size)⟩
  · have db : decide ((80 : Int) < (m : Int)) = false := by simp; omega
    have db2 : decide (80 < m) = false := by simp; omega
    go_enter Try.func3, Try.ntmps3
    go_wp2_with (first
      | (go_at_call 8; refine (new_h _).mono ?_; rintro e w1 ⟨rfl, hh, hb⟩; have HH1 := Lib.hid hh; have HB1 := Lib.hid hb; clear hh hb)
      | (go_at_call 10; refine (newR_c w1).mono ?_; rintro e w2 ⟨r, ba, bt, rfl, hrf, hb⟩; have HS := Lib.hid (show Both w w2 w.heap.size r ba bt (fun _ => 0) (fun _ => 0) from ⟨⟨HB1.out.trans (hb.mono HB1.out.size), Nat.le_refl _, HH1.out.below hb⟩, ⟨Nat.le_trans HB1.out.size hrf.base, hrf.box, own_mono hrf.at_ HB1.out.size, own_mono hrf.tu HB1.out.size, hrf.ne, hrf.turns⟩⟩); clear hrf hb))
    go_loopw [5, 6, 7, 8, 9, 10, 11, 12, 13] (fun i xv lv yv ev gv atv fv hv wr => ∃ (j : Nat) (T A : Nat → Int), j ≤ m ∧ i = .int .i64 (j : Int) ∧ Both w wr w.heap.size r ba bt T A ∧ ∀ i, T i ≤ (j : Int)) (fun i _ _ _ _ _ _ _ _ _ => m - (intOf i).toNat)
    case atStart => exact ⟨0, _, _, Nat.zero_le _, rfl, HS.out, fun _ => by simp⟩
    case round =>
      obtain ⟨j, T, A, hj, rfl, hb2, hTb⟩ := hrel
      have HS2 := Lib.hid hb2
      have HTB := Lib.hid hTb
      clear hb2 hTb
      by_cases hlt : j < m
      · have dj : decide ((j : Int) < (m : Int)) = true := by simp; omega
        have dj2 : decide (j < m) = true := by simp; omega
        obtain ⟨ad, rfl, ha⟩ := HR.out j hlt
        generalize R j = p at ha
        obtain ⟨d, x⟩ := p
        have HA := Lib.hid ha
        have hc0 := (ha.below HS2.out.so.old).c0
        have hc1 := (ha.below HS2.out.so.old).c1
        rw [add_field] at hc1
        obtain ⟨d0, d1⟩ := ha.w0
        obtain ⟨x0, x1⟩ := ha.w1
        simp only at hc0 hc1 d0 d1 x0 x1
        clear ha
        have g1 : (0 : Int) ≤ (j : Int) := by omega
        have g2 : (j : Int) < (m : Int) := by omega
        go_upto_region 10 with (go_at_call 11; refine (allR_c _ HS2.out.rf).mono ?_; rintro e w3 ⟨v3, rfl, ho, hb⟩; have HV3 := Lib.hid ho; have HS3 := Lib.hid (HS2.out.below hb); have hc0 := (HA.out.below HS3.out.so.old).c0; simp only at hc0; clear hb ho)
        obtain ⟨L, hL⟩ : ∃ L, L = (allL T A 512).length := ⟨_, rfl⟩
        have hL5 := allL_len T A 512
        rw [← hL] at hL5
        have HL := Lib.hid hL
        obtain ⟨A3, c3, hv3⟩ := form33 HV3.out
        rw [← hL] at hv3
        have HO3 := Lib.hid (show w3.ownsRow wr.heap.size 33 2 (.slice A3 L c3) L (heldCells (allL T A 512)) by have h := HV3.out; rw [← hL, hv3] at h; exact h)
        subst hv3
        clear hL HV3
        go_cut [59] (fun s wx => ∃ b : Bool, s = .bool b ∧ wx = w3 ∧ (b = true → 0 < L ∧ 0 ≤ x))
        case first =>
          rcases (show (decide (1 < d) = false) ∨ (decide (1 < d) = true ∧ decide ((0 : Int) < (L : Int)) = false ∧ decide (0 < L) = false) ∨ (decide (1 < d) = true ∧ decide ((0 : Int) < (L : Int)) = true ∧ decide (0 < L) = true ∧ decide (0 ≤ x) = false) ∨ (decide (1 < d) = true ∧ decide ((0 : Int) < (L : Int)) = true ∧ decide (0 < L) = true ∧ decide (0 ≤ x) = true) by
            by_cases e1 : 1 < d
            · by_cases e2 : 0 < L
              · by_cases e3 : 0 ≤ x
                · right; right; right; simp; omega
                · right; right; left; simp; omega
              · right; left; simp; omega
            · left; simpa using e1) with e1 | ⟨e1, e2, e2'⟩ | ⟨e1, e2, e2', e3⟩ | ⟨e1, e2, e2', e3⟩
          · go_wp2
            go_meet
            case rel => exact ⟨false, rfl, rfl, by simp⟩
          · go_wp2
            go_meet
            case rel => exact ⟨false, rfl, rfl, by simp⟩
          · go_wp2
            go_meet
            case rel => exact ⟨false, rfl, rfl, by simp⟩
          · have h2 : 0 < L := of_decide_eq_true e2'
            have h3 : 0 ≤ x := of_decide_eq_true e3
            go_wp2
            go_meet
            case rel => exact ⟨_, rfl, rfl, fun _ => ⟨h2, h3⟩⟩
        case rest =>
          obtain ⟨b, rfl, rfl, hb⟩ := hcut
          go_upto_if 59 with fail
          go_cut [6] (fun s wx => ∃ X : Int, s = .int .i64 X ∧ wx = wc ∧ -9223372036854775808 ≤ X ∧ X ≤ 9223372036854775807)
          case first =>
            cases b
            · go_wp2
              go_meet
              case rel => exact ⟨x, rfl, rfl, x0, x1⟩
            · obtain ⟨hL0, hx0⟩ := hb rfl
              clear hb
              obtain ⟨q, hq⟩ : ∃ q : Nat, x % (L : Int) = (q : Int) := ⟨(x % (L : Int)).toNat, by have := Int.emod_nonneg x (show (L : Int) ≠ 0 by omega); omega⟩
              have hqL : q < L := by have := Int.emod_lt_of_pos x (show (0 : Int) < (L : Int) by omega); omega
              have z0 : ((L : Int) == 0) = false := beq_eq_false_iff_ne.2 (by omega)
              obtain ⟨b3, rfl⟩ : ∃ b, A3 = some ⟨b, 0, none⟩ := by
                rcases form_of HO3.out with ⟨h, _⟩ | ⟨b, c, h⟩
                · omega
                · injection h with h _ _; exact ⟨b, h⟩
              obtain ⟨p, hp⟩ : ∃ p, (allL T A 512)[q]? = some p := ⟨(allL T A 512)[q]'(by rw [← HL.out]; exact hqL), List.getElem?_eq_getElem _⟩
              obtain ⟨ka, _⟩ := held_get HO3.out hqL hp
              obtain ⟨i, hi5, hpi⟩ := allL_mem hp
              have hT := HS3.out.so.h.turns i hi5
              have hpb : 0 ≤ p.1 ∧ p.1 ≤ 9223372036854775807 := by rw [hpi]; unfold tell; omega
              obtain ⟨p1, p2⟩ := p
              simp only at ka hpb
              obtain ⟨hp0, hp1⟩ := hpb
              have g3 : (0 : Int) ≤ (q : Int) := by omega
              have g4 : (q : Int) < (L : Int) := by omega
              clear hp hpi hT
              go_wp2
              go_meet
              case rel => exact ⟨p1, rfl, rfl, by omega, hp1⟩
          case rest =>
            obtain ⟨X, rfl, rfl, hX0, hX1⟩ := hcut
            go_upto_block 2 with fail
            go_cut [] (fun wx => ∃ T' A', Both w wx w.heap.size r ba bt T' A' ∧ ∀ i, T' i ≤ (j : Int) + 1)
            case first =>
              rcases (show (d == 0) = true ∨ ((d == 0) = false ∧ (d == 1) = true) ∨ ((d == 0) = false ∧ (d == 1) = false ∧ (d == 2) = true) ∨ ((d == 0) = false ∧ (d == 1) = false ∧ (d == 2) = false) by
                by_cases h0 : d = 0
                · left; simpa using h0
                · by_cases h1 : d = 1
                  · right; left; exact ⟨by simpa using h0, by simpa using h1⟩
                  · by_cases h2 : d = 2
                    · right; right; left; exact ⟨by simpa using h0, by simpa using h1, by simpa using h2⟩
                    · right; right; right; exact ⟨by simpa using h0, by simpa using h1, by simpa using h2⟩) with s0 | ⟨s0, s1⟩ | ⟨s0, s1, s2⟩ | ⟨s0, s1, s2⟩
              · skip
                obtain ⟨z, e, A', hz⟩ := HoldF.some T A X
                have HZ := Lib.hid hz
                clear hz
                go_wp2_with (first
                  | (go_at_call 12; refine (hold_f wc HS3.out.so.h X z e HZ.out).mono ?_; rintro y w4 ⟨rfl, hh, hf⟩; have HT4 := Lib.hid (HS3.out.turn hh hf); clear hh hf)
                  | (go_at_call 13; refine (holdR_f w4 HT4.out.rf X z e HZ.out).mono ?_; rintro y w5 ⟨rfl, hh, hf⟩; have HB5 := Lib.hid ((HT4.out.turn hh hf (fun b e => Or.inl e)).below (w' := w5.alloc (.cells #[.int .i64 z, .int .i64 e] 38)) ((Below.refl _ _).alloc (Nat.le_refl _) _)); have k0 := cell_of_row _ _ 0 _ _ _ (heap_alloc_new w5 (.cells #[.int .i64 z, .int .i64 e] 38)); have k1 := cell_of_row _ _ 1 _ _ _ (heap_alloc_new w5 (.cells #[.int .i64 z, .int .i64 e] 38)); clear hh hf))
                go_quiet ((go_at_call 14; exact Calls.quiet_of_same ((err_c _ _).mono fun _ _ h => ⟨h.1, h.2.symm⟩)))
                go_wp2
                go_meet
                case rel => exact ⟨_, _, HB5.out.drewN _, fun i => by have := HTB.out i; omega⟩
              · skip
                obtain ⟨z, e, A', hz⟩ := HoldF.some T A X
                have HZ := Lib.hid hz
                clear hz
                go_wp2_with (first
                  | (go_at_call 12; refine (hold_f wc HS3.out.so.h X z e HZ.out).mono ?_; rintro y w4 ⟨rfl, hh, hf⟩; have HT4 := Lib.hid (HS3.out.turn hh hf); clear hh hf)
                  | (go_at_call 13; refine (holdR_f w4 HT4.out.rf X z e HZ.out).mono ?_; rintro y w5 ⟨rfl, hh, hf⟩; have HB5 := Lib.hid ((HT4.out.turn hh hf (fun b e => Or.inl e)).below (w' := w5.alloc (.cells #[.int .i64 z, .int .i64 e] 38)) ((Below.refl _ _).alloc (Nat.le_refl _) _)); have k0 := cell_of_row _ _ 0 _ _ _ (heap_alloc_new w5 (.cells #[.int .i64 z, .int .i64 e] 38)); have k1 := cell_of_row _ _ 1 _ _ _ (heap_alloc_new w5 (.cells #[.int .i64 z, .int .i64 e] 38)); clear hh hf))
                go_quiet ((go_at_call 14; exact Calls.quiet_of_same ((err_c _ _).mono fun _ _ h => ⟨h.1, h.2.symm⟩)))
                go_wp2
                go_meet
                case rel => exact ⟨_, _, HB5.out.drewN _, fun i => by have := HTB.out i; omega⟩
              · obtain ⟨e, T', A', hz⟩ := DropF.some T A X
                have HZ := Lib.hid hz
                clear hz
                go_wp2_with (first
                  | (go_at_call 15; refine (drop_f wc HS3.out.so.h X e hX1 (fun i => by have := HTB.out i; omega) HZ.out).mono ?_; rintro y w4 ⟨rfl, hh, hf⟩; have HT4 := Lib.hid (HS3.out.turn hh hf); clear hh hf)
                  | (go_at_call 16; refine (dropR_f w4 HT4.out.rf X e hX1 (fun i => by have := HTB.out i; omega) HZ.out).mono ?_; rintro y w5 ⟨rfl, hh, hf⟩; have HB5 := Lib.hid (HT4.out.turn hh hf (fun b e => e)); clear hh hf)
                  | (go_at_call 14; refine (err_c _ _).mono ?_; rintro e w' ⟨rfl, rfl⟩))
                go_meet
                case rel => exact ⟨_, _, HB5.out, fun i => HZ.out.turns (fun i => HTB.out i) i⟩
              · go_wp2
                go_meet
                case rel => exact ⟨_, _, HS3.out, fun i => by have := HTB.out i; omega⟩
            case rest =>
              obtain ⟨T', A', hbt, hTb'⟩ := hcut
              have HS5 := Lib.hid hbt
              have HTB' := Lib.hid hTb'
              clear hbt hTb'
              obtain ⟨⟨z, e⟩, hz⟩ : ∃ p, heldF T' A' X = p := ⟨_, rfl⟩
              have HZ := Lib.hid hz
              obtain ⟨zr, hzr⟩ : ∃ zr, 512 - ((allL T' A' 512).length : Int) = zr := ⟨_, rfl⟩
              have HZR := Lib.hid hzr
              clear hz hzr
              go_wp2_with (first
                | (go_at_call 17; refine (held_f wc HS5.out.so.h X hX1 z e HZ.out).mono ?_; rintro y w' ⟨rfl, rfl⟩)
                | (go_at_call 18; refine (heldR_c _ HS5.out.rf X hX1 z e HZ.out).mono ?_; rintro y w6 ⟨rfl, hb⟩; have HS6 := Lib.hid ((HS5.out.below hb).below (w' := w6.alloc (.cells #[.int .i64 z, .int .i64 e] 38)) ((Below.refl _ _).alloc (Nat.le_refl _) _)); have k0 := cell_of_row _ _ 0 _ _ _ (heap_alloc_new w6 (.cells #[.int .i64 z, .int .i64 e] 38)); have k1 := cell_of_row _ _ 1 _ _ _ (heap_alloc_new w6 (.cells #[.int .i64 z, .int .i64 e] 38)); clear hb))
              go_region_with (first
                | (go_at_call 14; refine (err_c _ _).mono ?_; rintro e w' ⟨rfl, rfl⟩)
                | (go_at_call 19; refine (room_c _ (by exact (HS6.out.drewN 1).so.h) zr HZR.out).mono ?_; rintro y w7 ⟨rfl, hb⟩; have HS7 := Lib.hid ((HS6.out.drewN 1).below hb); clear hb)
                | (go_at_call 20; refine (roomR_c w7 HS7.out.rf zr HZR.out).mono ?_; rintro y w8 ⟨rfl, hb⟩; have HS8 := Lib.hid (HS7.out.below hb); clear hb))
              all_goals
                go_wp2
                go_roundw
                case rel => exact ⟨j + 1, T', A', by omega, by go_num, HS8.out, fun i => by have := HTB'.out i; omega⟩
                case measure => simp [intOf]; omega
      · obtain rfl : j = m := by omega
        have dj : decide ((j : Int) < (j : Int)) = false := by simp
        go_wp2_with (first
          | (go_at_call 22; refine (all_c _ HS2.out.so.h).mono ?_; rintro e w3 ⟨v3, rfl, ho, hb⟩; have HV3 := Lib.hid ho; have HS3 := Lib.hid (HS2.out.below hb); clear hb ho)
          | (go_at_call 11; refine (allR_c _ HS3.out.rf).mono ?_; rintro e w4 ⟨v4, rfl, ho, hb⟩; have HV4 := Lib.hid ho; have HV5 := Lib.hid ((Frame.of_below (F := fun _ => False) hb).owns HV3.out (fun _ _ e => e)); have HS4 := Lib.hid (HS3.out.below hb); clear hb ho)
          | (go_at_call 21; refine (sameHeld_c w4 rfl HV5.out HV4.out (allL_len _ _ _)).mono ?_; rintro e w5 ⟨rfl, hb⟩; have HS5 := Lib.hid (HS4.out.below hb); clear hb)
          | (go_at_call 9; refine (awake_c _).mono ?_; rintro e w6 ⟨rfl, hb⟩; have HS6 := Lib.hid (HS5.out.below hb); clear hb))
        go_ret
        exact ⟨rfl, HS6.out.so.old⟩
end Go.Proofs.Ytembjpfgoogbgaa.Fns
