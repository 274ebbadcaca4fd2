/- ClassFull: the walk. -/
import Derived.Test.YthhcajgkfolkjaaOne
namespace Go.Proofs.Ythhcajgkfolkjaa.Fns
open Go Go.RowKit

theorem one_start {w w1 : World} (ht : Tb w1 w.heap.size w.heap.size (.slice none 0 0) []) (hb : Below w.heap.size w w1) : One w w1 w.heap.size (.slice none 0 0) [] (.slice none 0 0) [] :=
  ⟨hb, ht, World.ownsRow_nil _ _ _ _⟩
theorem may_of_rise {f : Int} {xs : List Int} (h0 : 0 ≤ f) (h1 : f ≤ 1023) (h : rise f (-1) xs = true) : mayB f xs = true := by
  simp [mayB, h]; omega
/-- The told class's addresses, written over: what the writing keeps. -/
structure Over (w5 wr : World) (p : Nat) (f : Int) (A : Option Addr) (n c : Nat) (ys : List Value) : Prop where
  old : Below w5.heap.size w5 wr
  box : wr.heap[p]? = some (.cells #[.int .i64 f, .slice A n c] 26 (0, 0))
  ow : wr.ownsRow w5.heap.size 3 1 (.slice A n c) n ys
theorem Over.set {w5 wr : World} {p : Nat} {f : Int} {b n c : Nat} {ys : List Value} (h : Over w5 wr p f (some ⟨b, 0, none⟩) n c ys) (j : Nat) (u : Value) : Over w5 (wr.setCell ⟨b, j, none⟩ u) p f (some ⟨b, 0, none⟩) n c (ys.set j u) := by
  have hb : w5.heap.size ≤ b := own_base h.ow rfl
  have hne : b ≠ p := fun e => own_ne h.ow h.box (by decide) (by rw [e]; rfl)
  exact ⟨h.old.setCell hb _, (heap_setCell_other wr ⟨b, j, none⟩ p u (Ne.symm hne)).trans h.box, (h.ow.stored j u).1⟩
theorem Over.form {w5 wr : World} {p : Nat} {f : Int} {A : Option Addr} {n c : Nat} {ys : List Value} (h : Over w5 wr p f A n c ys) (hn : 0 < n) : ∃ b, A = some ⟨b, 0, none⟩ := by
  rcases h.ow.2 with ⟨h1, h2⟩ | ⟨b, _, _, h1, _⟩
  · omega
  · injection h1 with h1 _ _; exact ⟨b, h1⟩
theorem over_start {w5 w6 : World} {f : Int} {A : Option Addr} {n c : Nat} {ys : List Value} (ho : w6.ownsRow w5.heap.size 3 1 (.slice A n c) n ys) (hb : Below w5.heap.size w5 w6) : Over w5 (w6.alloc (.cells #[.int .i64 f, .slice A n c] 26)) w6.heap.size f A n c ys :=
  ⟨hb.alloc hb.size _, heap_alloc_new w6 _, ho.alloc _⟩

set_option maxRecDepth 100000 in
set_option maxHeartbeats 20000000 in
theorem full_law (f : Int) (A : Option Addr) (n c : Nat) (bs : List Int) (w : World) (hf : (Lit.int .u8 f).wf = true) (hbs : Bytes w A n bs ∧ n ≤ c ∧ c ≤ maxLen) :
    Calls Try.prog 5 #[.int .u8 f, .slice A n c] w fun e w' => e = .returned (.bool true) ∧ Below w.heap.size w w' := by
  obtain ⟨f0, f1⟩ := bounds_u8 hf
  obtain ⟨hbs, hn1, hn2⟩ := hbs
  have HBS := Lib.hid hbs
  clear hf hbs
  have hn3 : n ≤ 9223372036854775807 := by unfold maxLen at hn2; omega
  clear hn2
  obtain ⟨i0, hi0, hz0, hz1, hz2⟩ := info_parts info3
  have INFO := Lib.hid (And.intro hi0 (And.intro hz0 (And.intro hz1 hz2)))
  clear hi0 hz0 hz1 hz2
  go_enter Try.func5, Try.ntmps5
  go_wp2_with (first
    | (go_at_call 7; refine (new_c _).mono ?_; rintro e w1 ⟨rfl, ht, hb⟩; have HS := Lib.hid (one_start ht hb); clear ht hb))
  go_loopw [7, 8, 9] (fun lv i kv wr => ∃ (j : Nat) (v : Value) (xs : List Int), j ≤ n ∧ (j : Int) ≤ 4 + f ∧ lv = v ∧ i = .int .i64 (j : Int) ∧ xs.length ≤ j ∧ rise (4 + f) (-1) xs = true ∧ One w wr w.heap.size (.slice none 0 0) [] v xs) (fun _ i _ _ => n - (intOf i).toNat)
  case atStart => exact ⟨0, _, [], Nat.zero_le _, by omega, rfl, rfl, Nat.le_refl _, rfl, HS.out⟩
  case round =>
    obtain ⟨j, v, xs, hj, hjf, rfl, rfl, hxl, hr, hs⟩ := hrel
    have HS2 := Lib.hid hs
    have HXL := Lib.hid hxl
    have HR := Lib.hid hr
    clear hs hr
    by_cases hin : j < n ∧ (j : Int) < 4 + f
    · obtain ⟨hlt, hltf⟩ := hin
      have dj : decide ((j : Int) < (n : Int)) = true := by simp; omega
      have dj2 : decide (j < n) = true := by simp; omega
      have djf : decide ((j : Int) < 4 + f) = true := by simp; omega
      obtain ⟨ad, rfl, _, hc⟩ := (HBS.out.below HS2.out.old).2.1 (by omega)
      have hcj := hc j hlt
      obtain ⟨x, hxj⟩ : ∃ x, x = bs.getD j 0 := ⟨_, rfl⟩
      have hx : 0 ≤ x ∧ x ≤ 255 := by
        rw [hxj]
        refine HBS.out.2.2 _ ?_
        rw [List.getD_eq_getElem?_getD, List.getElem?_eq_getElem (by have := HBS.out.1; omega)]
        simp
      rw [← hxj] at hcj
      obtain ⟨x0, x1⟩ := hx
      clear hc hxj
      have g1 : (0 : Int) ≤ (j : Int) := by omega
      have g2 : (j : Int) < (n : Int) := by omega
      have hk0 : 0 ≤ x % (4 + f) := Int.emod_nonneg _ (by omega)
      have hk1 : x % (4 + f) < 4 + f := Int.emod_lt_of_pos _ (by omega)
      obtain ⟨A1, cp, rfl, hi⟩ := HS2.out.ints
      have HI := Lib.hid hi
      clear hi
      have z0 : (4 + f == 0) = false := by simp; omega
      rcases Nat.eq_zero_or_pos xs.length with hx0 | hx0
      · have e0 : ((xs.length : Int) == 0) = true := by simp [hx0]
        have e1 : (xs.length == 0) = true := by simp [hx0]
        have HX0 := Lib.hid hx0
        have HRK := Lib.hid (rise_push (4 + f) (x % (4 + f)) hk1 xs (-1) HR.out (fun _ => by omega) (fun h => absurd (List.eq_nil_of_length_eq_zero hx0) h))
        clear hx0
        go_wp2_with (at_builtin; refine wpList_push _ rfl (.tmp 64) (.tmp 66) 24 rfl w.heap.size 3 i0 Try.underlying24 INFO.out.1 INFO.out.2.1 INFO.out.2.2.1 INFO.out.2.2.2 _ xs.length _ (by simp [Act.eval]) (HS2.out.ow.alloc _) (wr.heap.size + 1) (some ⟨wr.heap.size, 0, none⟩) 1 1 _ rfl (ints_one wr _) (by omega) (Nat.le_trans HS2.out.old.size (by simp)) ?_; intro v2 w3 ho hg _; have HS3 := Lib.hid (HS2.out.push ho rfl hg); clear ho hg)
        go_roundw
        case rel => exact ⟨j + 1, v2, _, by omega, by omega, rfl, by go_num, by simp; omega, HRK.out, HS3.out⟩
        case measure => simp [intOf]; omega
      · have e0 : ((xs.length : Int) == 0) = false := beq_eq_false_iff_ne.2 (by omega)
        have e1 : (xs.length == 0) = false := beq_eq_false_iff_ne.2 (by omega)
        obtain ⟨ad2, rfl, _, hc2⟩ := HI.out.2 hx0
        have hcl := hc2 (xs.length - 1) (by omega)
        obtain ⟨y, hy⟩ : ∃ y, y = xs.getD (xs.length - 1) 0 := ⟨_, rfl⟩
        rw [← hy] at hcl
        have HY := Lib.hid hy
        clear hc2 hy
        have g3 : (0 : Int) ≤ (xs.length : Int) - 1 := by omega
        have g4 : (xs.length : Int) - 1 < (xs.length : Int) := by omega
        have g5 : ((xs.length : Int) - 1).toNat = xs.length - 1 := by omega
        have g6 : IntKind.i64.wrap ((xs.length : Int) - 1) = (xs.length : Int) - 1 := IntWalk.i64_in _ (by omega)
        by_cases e3 : y < x % (4 + f)
        · have t3 : decide (y < x % (4 + f)) = true := by simpa using e3
          have HRK := Lib.hid (rise_push (4 + f) (x % (4 + f)) hk1 xs (-1) HR.out (fun h => by rw [h] at hx0; simp at hx0) (fun _ => by rw [← HY.out]; exact e3))
          go_wp2_with (at_builtin; refine wpList_push _ rfl (.tmp 64) (.tmp 66) 24 rfl w.heap.size 3 i0 Try.underlying24 INFO.out.1 INFO.out.2.1 INFO.out.2.2.1 INFO.out.2.2.2 _ xs.length _ (by simp [Act.eval]) (HS2.out.ow.alloc _) (wr.heap.size + 1) (some ⟨wr.heap.size, 0, none⟩) 1 1 _ rfl (ints_one wr _) (by omega) (Nat.le_trans HS2.out.old.size (by simp)) ?_; intro v2 w3 ho hg _; have HS3 := Lib.hid (HS2.out.push ho rfl hg); clear ho hg)
          go_roundw
          case rel => exact ⟨j + 1, v2, _, by omega, by omega, rfl, by go_num, by simp; omega, HRK.out, HS3.out⟩
          case measure => simp [intOf]; omega
        · have t3 : decide (y < x % (4 + f)) = false := by simpa using e3
          go_wp2
          go_roundw
          case rel => exact ⟨j + 1, _, xs, by omega, by omega, rfl, by go_num, by omega, HR.out, HS2.out⟩
          case measure => simp [intOf]; omega
    · have HM := Lib.hid (may_of_rise (f := 4 + f) (xs := xs) (by omega) (by omega) HR.out)
      obtain ⟨A1, cp, rfl, hi⟩ := HS2.out.ints
      have HI := Lib.hid hi
      clear hi
      have ex : (decide ((j : Int) < (n : Int)) = false ∧ decide (j < n) = false) ∨ (decide ((j : Int) < (n : Int)) = true ∧ decide (j < n) = true ∧ decide ((j : Int) < 4 + f) = false) := by
        by_cases h1 : j < n
        · right; simp; omega
        · left; simp; omega
      rcases ex with ⟨dj, dj2⟩ | ⟨dj, dj2, djf⟩
      all_goals
        go_wp2
        go_loopw [10, 11, 12] (fun i idv ev wr => ∃ (q : Nat) (va : Value) (la : List Cl), q ≤ 256 ∧ i = .int .i64 (q : Int) ∧ la.length = q ∧ (∀ c ∈ la, c.f = 4 + f ∧ c.xs = xs) ∧ One w wr w.heap.size va la (.slice A1 xs.length cp) xs) (fun i _ _ _ => 256 - (intOf i).toNat)
        case atStart => exact ⟨0, _, [], by omega, rfl, rfl, by simp, HS2.out⟩
        case round =>
          obtain ⟨q, va, la, hq, rfl, hla, hall, hs⟩ := hrel
          have HS3 := Lib.hid hs
          have HLA := Lib.hid hla
          have HALL := Lib.hid hall
          clear hs hla hall
          by_cases hq2 : q < 256
          · have dq : decide ((q : Int) < 256) = true := by simp; omega
            have dq2 : decide (q < 256) = true := by simp; omega
            go_wp2_with (first
              | (go_at_call 15; refine (of_ok _ HS3.out.ta HS3.out.old.size (4 + f) _ A1 xs.length cp xs HS3.out.intsAt.2 (Nat.le_refl _) (by omega) HM.out (by rw [HLA.out]; exact hq2) ((q : Int) + 1) (by rw [HLA.out])).mono ?_; rintro e w3 ⟨rfl, va', ua, ht, hfr⟩; have HS4 := Lib.hid (HS3.out.add ht hfr); clear ht hfr)
              | (go_at_call 9; refine (err_c _ _).mono ?_; rintro e w' ⟨rfl, rfl⟩))
            go_roundw
            case rel => exact ⟨q + 1, va', _, by omega, by go_num, by simp [HLA.out], by simpa [or_imp, forall_and] using HALL.out, HS4.out⟩
            case measure => simp [intOf]; omega
          · obtain rfl : q = 256 := by omega
            have dq : decide ((256 : Int) < 256) = false := rfl
            obtain ⟨cl, hcl⟩ : ∃ cl, la[6]? = some cl := ⟨la[6]'(by rw [HLA.out]; omega), List.getElem?_eq_getElem _⟩
            obtain ⟨hcf, hcx⟩ := HALL.out cl (List.mem_of_getElem? hcl)
            obtain ⟨clf, clv, clx⟩ := cl
            simp only at hcf hcx
            subst hcf
            subst hcx
            have HCL := Lib.hid hcl
            clear hcl
            go_wp2_with (first
              | (go_at_call 15; have _ := HS4; refine (of_bad _ w.heap.size (-1) _ none 0 0 [] (Ints.nil _ 0 _) (Nat.zero_le _) (by omega) (by decide)).mono ?_; rintro e w5 ⟨rfl, hb⟩; have HS5 := Lib.hid (HS4.out.below hb); clear hb)
              | (go_at_call 15; refine (of_full _ HS3.out.ta (4 + f) _ A1 clx.length cp clx HS3.out.intsAt.2 (Nat.le_refl _) (by omega) HM.out (by rw [HLA.out]; exact Nat.le_refl _)).mono ?_; rintro e w4 ⟨rfl, hb⟩; have HS4 := Lib.hid (HS3.out.below hb); clear hb)
              | (go_at_call 13; refine (class_ok w5 HS5.out.ta 6 _ HCL.out (by rw [HLA.out]; exact Nat.le_refl _) (by simp; omega) 7 (by simp)).mono ?_; rintro e w6 ⟨u6, rfl, ho, hb⟩; obtain ⟨A6, c6, rfl⟩ := own_form ho; have HO6 := Lib.hid (over_start (f := 4 + f) ho hb); clear ho hb))
            go_loopw [19] (fun i wr => ∃ (m : Nat) (ys : List Value), m ≤ clx.length ∧ i = .int .i64 (m : Int) ∧ Over w5 wr w6.heap.size (4 + f) A6 clx.length c6 ys) (fun i _ => clx.length - (intOf i).toNat)
            case atStart => exact ⟨0, _, by omega, rfl, HO6.out⟩
            case round =>
              obtain ⟨m, ys, hm, rfl, ho⟩ := hrel
              have HO := Lib.hid ho
              clear ho
              have kb := cell_of_row _ _ 1 _ _ _ HO.out.box
              by_cases hm2 : m < clx.length
              · have dm : decide ((m : Int) < (clx.length : Int)) = true := by simp; omega
                have dm2 : decide (m < clx.length) = true := by simp; omega
                obtain ⟨b6, rfl⟩ := HO.out.form (by omega)
                have kc := HO.out.ow.cellAt m (by omega)
                have kf := HO.out.ow.frozenAt m
                have hyl : m < ys.length := by have := HO.out.ow.1; omega
                rw [List.getElem?_eq_getElem hyl] at kc
                have g1 : (0 : Int) ≤ (m : Int) := by omega
                have g2 : (m : Int) < (clx.length : Int) := by omega
                go_wp2
                go_roundw
                case rel => exact ⟨m + 1, _, by omega, by go_num, HO.out.set m _⟩
                case measure => simp [intOf]; omega
              · obtain rfl : m = clx.length := by omega
                have dm : decide ((clx.length : Int) < (clx.length : Int)) = false := by simp
                have HS6 := Lib.hid (HS5.out.below HO.out.old)
                go_wp2_with (first
                  | (go_at_call 13; have _ := HS7; refine (class_nil _).mono ?_; rintro e w8 ⟨rfl, hb⟩; have HG8 := Lib.hid ((HG7.out.1.below hb).below (w' := w8.alloc (.cells #[.int .i64 0, .slice none 0 0] 26)) ((Below.refl _ _).alloc (Nat.le_refl _) _)); have HS8 := Lib.hid ((HS7.out.below hb).below (w' := w8.alloc (.cells #[.int .i64 0, .slice none 0 0] 26)) ((Below.refl _ _).alloc (Nat.le_refl _) _)); clear hb)
                  | (go_at_call 13; refine (class_ok wr HS6.out.ta 6 _ HCL.out (by rw [HLA.out]; exact Nat.le_refl _) (by simp; omega) 7 (by simp)).mono ?_; rintro e w7 ⟨u7, rfl, ho, hb⟩; obtain ⟨A7, c7, rfl⟩ := own_form ho; have HG7 := Lib.hid (got_new w7 _ _ c7 A7 (4 + f) clx ho); have HS7 := Lib.hid ((HS6.out.below hb).below HG7.out.2); clear ho hb)
                  | (go_at_call 8; refine (add_nil _ _ _).mono ?_; rintro e w9 ⟨rfl, hb⟩; have HG9 := Lib.hid (HG8.out.below hb); have HS9 := Lib.hid (HS8.out.below hb); have k0 := HG9.out.c0; have k1 := HG9.out.c1; clear hb)
                  | (go_at_call 9; refine (err_c _ _).mono ?_; rintro e w' ⟨rfl, rfl⟩)
                  | (go_at_call 14; refine (same_c w9 _ _ A7 A1 _ _ c7 cp clx clx true HG9.out.ints HS9.out.intsAt.2 (by omega) (by omega) (by simp)).mono ?_; rintro e w10 ⟨rfl, hb⟩; have HS10 := Lib.hid (HS9.out.below hb); clear hb)
                  | (go_at_call 10; refine (classes_nil _).mono ?_; rintro e w' ⟨rfl, rfl⟩)
                  | (go_at_call 11; refine (awake_c _).mono ?_; rintro e w11 ⟨rfl, hb⟩; have HS11 := Lib.hid (HS10.out.below hb); clear hb))
                go_ret
                exact ⟨rfl, HS11.out.old⟩
end Go.Proofs.Ythhcajgkfolkjaa.Fns
