/- ClassOf: the walk. -/
import Derived.Test.YthhcajgkfolkjaaTwo
namespace Go.Proofs.Ythhcajgkfolkjaa.Fns
open Go Go.RowKit

theorem two_start {w w1 w2 : World} (ht1 : Tb w1 w.heap.size w.heap.size (.slice none 0 0) []) (hb1 : Below w.heap.size w w1) (ht2 : Tb w2 w1.heap.size w1.heap.size (.slice none 0 0) []) (hb2 : Below w1.heap.size w1 w2) :
    Two w w2 w.heap.size w1.heap.size (.slice none 0 0) (.slice none 0 0) [] [] (.slice none 0 0) [] :=
  ⟨hb1.trans (hb2.mono hb1.size), ht1.below hb2, ⟨hb1.size, ht2.cells, World.ownsRow_nil _ _ _ _, by simp⟩, fun e => by have := lt_of_block ht1.cells; omega, World.ownsRow_nil _ _ _ _⟩

set_option maxRecDepth 100000 in
set_option maxHeartbeats 8000000 in
theorem of_law (f : Int) (A : Option Addr) (n c : Nat) (bs : List Int) (w : World) (hf : (Lit.int .u8 f).wf = true) (hbs : Bytes w A n bs ∧ n ≤ c ∧ c ≤ maxLen) :
    Calls Try.prog 6 #[.int .u8 f, .slice A n c] w fun e w' => e = .returned (.bool true) ∧ Below w.heap.size w w' := by
  obtain ⟨f0, f1⟩ := bounds_u8 hf
  obtain ⟨hbs, hn1, hn2⟩ := hbs
  have HBS := Lib.hid hbs
  clear hf hbs
  unfold maxLen at hn2
  by_cases hbig : 20 < n
  · have db : decide ((20 : Int) < (n : Int)) = true := by simp; omega
    have db2 : decide (20 < n) = true := by simp; omega
    go_enter Try.func6, Try.ntmps6
    go_wp2_with (first
      | (go_at_call 7; have _ := HT1; refine (new_c _).mono ?_; rintro e w2 ⟨rfl, ht, hb⟩; have HB2 := Lib.hid hb; clear ht hb)
      | (go_at_call 7; refine (new_c _).mono ?_; rintro e w1 ⟨rfl, ht, hb⟩; have HT1 := Lib.hid ht; have HB1 := Lib.hid hb; clear ht hb)
      | (go_at_call 11; refine (awake_c _).mono ?_; rintro e w5 ⟨rfl, hb⟩; have HB5 := Lib.hid hb; clear hb))
    go_ret
    have b2 := HB1.out.trans (HB2.out.mono HB1.out.size)
    exact ⟨rfl, b2.trans (HB5.out.mono b2.size)⟩
  · have db : decide ((20 : Int) < (n : Int)) = false := by simp; omega
    have db2 : decide (20 < n) = false := by simp; omega
    obtain ⟨i0, hi0, hz0, hz1, hz2⟩ := info_parts info3
    have INFO := Lib.hid (And.intro hi0 (And.intro hz0 (And.intro hz1 hz2)))
    clear hi0 hz0 hz1 hz2
    go_enter Try.func6, Try.ntmps6
    go_wp2_with (first
      | (go_at_call 7; have _ := HT1; refine (new_c _).mono ?_; rintro e w2 ⟨rfl, ht, hb⟩; have HS := Lib.hid (two_start HT1.out HB1.out ht hb); clear ht hb)
      | (go_at_call 7; refine (new_c _).mono ?_; rintro e w1 ⟨rfl, ht, hb⟩; have HT1 := Lib.hid ht; have HB1 := Lib.hid hb; clear ht hb))
    go_loopw [7, 8] (fun lv i wr => ∃ (j : Nat) (v : Value) (xs : List Int), j ≤ n ∧ lv = v ∧ i = .int .i64 (j : Int) ∧ xs.length = j ∧ Two w wr w.heap.size w1.heap.size (.slice none 0 0) (.slice none 0 0) [] [] v xs) (fun _ i _ => n - (intOf i).toNat)
    case atStart => exact ⟨0, _, [], Nat.zero_le _, rfl, rfl, rfl, HS.out⟩
    case round =>
      obtain ⟨j, v, xs, hj, rfl, rfl, hxl, hs⟩ := hrel
      have HS2 := Lib.hid hs
      have HXL := Lib.hid hxl
      clear hs hxl
      by_cases hlt : j < n
      · have dj : decide ((j : Int) < (n : Int)) = true := by simp; omega
        have dj2 : decide (j < n) = true := by simp; omega
        obtain ⟨ad, rfl, _, hc⟩ := (HBS.out.below HS2.out.old).2.1 (by omega)
        have hcj := hc j hlt
        obtain ⟨x, hxj⟩ : ∃ x, x = bs.getD j 0 := ⟨_, rfl⟩
        have hx : 0 ≤ x ∧ x ≤ 255 := by
          rw [hxj]
          refine HBS.out.2.2 _ ?_
          rw [List.getD_eq_getElem?_getD, List.getElem?_eq_getElem (by have := HBS.out.1; omega)]
          simp
        rw [← hxj] at hcj
        obtain ⟨x0, x1⟩ := hx
        clear hc hxj
        have g1 : (0 : Int) ≤ (j : Int) := by omega
        have g2 : (j : Int) < (n : Int) := by omega
        have HR := Lib.hid (Int.emod_nonneg x (by decide : (50 : Int) ≠ 0))
        go_wp2_with (at_builtin; refine wpList_push _ rfl (.tmp 45) (.tmp 52) 24 rfl w.heap.size 3 i0 Try.underlying24 INFO.out.1 INFO.out.2.1 INFO.out.2.2.1 INFO.out.2.2.2 _ xs.length _ (by simp [Act.eval]) (HS2.out.ow.alloc _) (wr.heap.size + 1) (some ⟨wr.heap.size, 0, none⟩) 1 1 _ rfl (ints_one wr _) (by have := HXL.out; omega) (Nat.le_trans HS2.out.old.size (by simp)) ?_; intro v2 w3 ho hg _; have HS3 := Lib.hid (HS2.out.push ho rfl hg); clear ho hg)
        go_roundw
        case rel => exact ⟨j + 1, v2, _, by omega, rfl, by go_num, by simp [HXL.out], HS3.out⟩
        case measure => simp [intOf]; omega
      · obtain rfl : j = n := by omega
        have dj : decide ((j : Int) < (j : Int)) = false := by simp
        obtain ⟨A1, cp, rfl, hi⟩ := HS2.out.ints
        have HI := Lib.hid hi
        clear hi
        by_cases hm : mayB f xs = true
        · have HM := Lib.hid hm
          clear hm
          go_wp2_with (first
            | (go_at_call 15; refine (of_ok wr HS2.out.ta HS2.out.old.size f _ A1 xs.length cp xs HI.out (Nat.le_refl _) (by have := HXL.out; omega) HM.out (by simp) 1 (by simp)).mono ?_; rintro e w3 ⟨rfl, va, ua, ht, hfr⟩; have HS3 := Lib.hid (HS2.out.addA ht hfr); have I3 := Lib.hid HS3.out.intsAt.2; clear ht hfr)
            | (at_builtin; refine wpList_push _ rfl (.tmp 66) (.tmp 67) 24 rfl w3.heap.size 3 i0 Try.underlying24 INFO.out.1 INFO.out.2.1 INFO.out.2.2.1 INFO.out.2.2.2 _ 0 [] rfl (own_new0 w3) w3.heap.size A1 xs.length cp xs rfl (I3.out.below ((Below.refl _ _).alloc (Nat.le_refl _) _) (Nat.le_refl _)) (by have := HXL.out; omega) (by simp) ?_
               intro v4 w4 ho hg _
               rw [Nat.zero_add, List.nil_append] at ho
               obtain ⟨A4, c4, rfl, hi4⟩ := ints_own ho
               have I4 := Lib.hid hi4
               have HS4 := Lib.hid (HS3.out.below (((Below.refl _ _).alloc (Nat.le_refl _) _).grown hg (by simp) (fun k hk => Nat.le_of_eq (Option.some.inj hk))))
               clear ho hg hi4)
            | (go_at_call 8; refine (add_ok w4 HS4.out.tb HS4.out.old.size f _ A4 xs.length c4 xs I4.out (Nat.le_refl _) (by have := HXL.out; omega) HM.out (by simp) 1 (by simp)).mono ?_; rintro e w5 ⟨rfl, vb, ub, ht, hfr⟩; have HS5 := Lib.hid (HS4.out.addB ht hfr); clear ht hfr)
            | (go_at_call 13; have _ := HG6; refine (class_ok _ HS6.out.tb 0 ⟨f, ub, xs⟩ rfl (by simp) (by have := HXL.out; simp; omega) 1 (by simp)).mono ?_; rintro e w7 ⟨u7, rfl, ho, hb⟩; obtain ⟨A7, c7, rfl⟩ := own_form ho; have HG7 := Lib.hid (got_new w7 _ _ c7 A7 f xs ho); have HS7 := Lib.hid ((HS6.out.below hb).below HG7.out.2); have HG67 := Lib.hid ((HG6.out.1.below hb).below HG7.out.2); clear ho hb)
            | (go_at_call 13; refine (class_ok w5 HS5.out.ta 0 ⟨f, ua, xs⟩ rfl (by simp) (by have := HXL.out; simp; omega) 1 (by simp)).mono ?_; rintro e w6 ⟨u6, rfl, ho, hb⟩; obtain ⟨A6, c6, rfl⟩ := own_form ho; have HG6 := Lib.hid (got_new w6 _ _ c6 A6 f xs ho); have HS6 := Lib.hid ((HS5.out.below hb).below HG6.out.2); clear ho hb)
            | (go_at_call 12; refine (mayc_c _ f _ A1 xs.length cp xs true HS7.out.intsAt.2 (Nat.le_refl _) (by have := HXL.out; omega) HM.out).mono ?_; rintro e w8 ⟨rfl, hb⟩; have HS8 := Lib.hid (HS7.out.below hb); have GC8 := Lib.hid (HG67.out.below hb); have GD8 := Lib.hid (HG7.out.1.below hb); have k0 := GC8.out.c0; have k1 := GC8.out.c1; have k2 := GD8.out.c0; have k3 := GD8.out.c1; clear hb)
            | (go_at_call 9; refine (err_c _ _).mono ?_; rintro e w' ⟨rfl, rfl⟩)
            | (go_at_call 14; have _ := HS9; refine (same_c w9 _ _ A7 A1 _ _ c7 cp xs xs true GD9.out.ints HS9.out.intsAt.2 (by have := HXL.out; omega) (by have := HXL.out; omega) (by simp)).mono ?_; rintro e w10 ⟨rfl, hb⟩; have HS10 := Lib.hid (HS9.out.below hb); clear hb)
            | (go_at_call 14; refine (same_c w8 _ _ A6 A1 _ _ c6 cp xs xs true GC8.out.ints HS8.out.intsAt.2 (by have := HXL.out; omega) (by have := HXL.out; omega) (by simp)).mono ?_; rintro e w9 ⟨rfl, hb⟩; have HS9 := Lib.hid (HS8.out.below hb); have GD9 := Lib.hid (GD8.out.below hb); have k4 := GD9.out.c0; have k5 := GD9.out.c1; clear hb)
            | (go_at_call 10; with_reducible (first | refine (classes_c _ HS10.out.ta 1 (by simp)).mono ?_ | refine (classes_c _ HS10.out.tb 1 (by simp)).mono ?_); rintro e w' ⟨rfl, rfl⟩)
            | (go_at_call 11; refine (awake_c _).mono ?_; rintro e w11 ⟨rfl, hb⟩; have HS11 := Lib.hid (HS10.out.below hb); clear hb))
          go_ret
          exact ⟨rfl, HS11.out.old⟩
        · have hm' : mayB f xs = false := by simpa using hm
          have HM := Lib.hid hm'
          clear hm hm'
          go_wp2_with (first
            | (go_at_call 15; refine (of_bad wr w.heap.size f _ A1 xs.length cp xs HI.out (Nat.le_refl _) (by have := HXL.out; omega) HM.out).mono ?_; rintro e w3 ⟨rfl, hb⟩; have HS3 := Lib.hid (HS2.out.below hb); have I3 := Lib.hid HS3.out.intsAt.2; clear hb)
            | (at_builtin; refine wpList_push _ rfl (.tmp 66) (.tmp 67) 24 rfl w3.heap.size 3 i0 Try.underlying24 INFO.out.1 INFO.out.2.1 INFO.out.2.2.1 INFO.out.2.2.2 _ 0 [] rfl (own_new0 w3) w3.heap.size A1 xs.length cp xs rfl (I3.out.below ((Below.refl _ _).alloc (Nat.le_refl _) _) (Nat.le_refl _)) (by have := HXL.out; omega) (by simp) ?_
               intro v4 w4 ho hg _
               rw [Nat.zero_add, List.nil_append] at ho
               obtain ⟨A4, c4, rfl, hi4⟩ := ints_own ho
               have I4 := Lib.hid hi4
               have HS4 := Lib.hid (HS3.out.below (((Below.refl _ _).alloc (Nat.le_refl _) _).grown hg (by simp) (fun k hk => Nat.le_of_eq (Option.some.inj hk))))
               clear ho hg hi4)
            | (go_at_call 8; refine (add_bad w4 w1.heap.size f _ A4 xs.length c4 xs I4.out (Nat.le_refl _) (by have := HXL.out; omega) HM.out).mono ?_; rintro e w5 ⟨rfl, hb⟩; have HS5 := Lib.hid (HS4.out.below hb); clear hb)
            | (go_at_call 13; have _ := HS6; refine (class_none _ HS6.out.tb 1 (by simp)).mono ?_; rintro e w7 ⟨rfl, hb⟩; have HS7 := Lib.hid ((HS6.out.below hb).below (w' := w7.alloc (.cells #[.int .i64 0, .slice none 0 0] 26)) ((Below.refl _ _).alloc (Nat.le_refl _) _)); clear hb)
            | (go_at_call 13; refine (class_none w5 HS5.out.ta 1 (by simp)).mono ?_; rintro e w6 ⟨rfl, hb⟩; have HS6 := Lib.hid ((HS5.out.below hb).below (w' := w6.alloc (.cells #[.int .i64 0, .slice none 0 0] 26)) ((Below.refl _ _).alloc (Nat.le_refl _) _)); clear hb)
            | (go_at_call 12; refine (mayc_c _ f _ A1 xs.length cp xs false HS7.out.intsAt.2 (Nat.le_refl _) (by have := HXL.out; omega) HM.out).mono ?_; rintro e w8 ⟨rfl, hb⟩; have HS8 := Lib.hid (HS7.out.below hb); clear hb)
            | (go_at_call 9; refine (err_c _ _).mono ?_; rintro e w' ⟨rfl, rfl⟩)
            | (go_at_call 11; refine (awake_c _).mono ?_; rintro e w11 ⟨rfl, hb⟩; have HS11 := Lib.hid (HS8.out.below hb); clear hb))
          go_ret
          exact ⟨rfl, HS11.out.old⟩
end Go.Proofs.Ythhcajgkfolkjaa.Fns
