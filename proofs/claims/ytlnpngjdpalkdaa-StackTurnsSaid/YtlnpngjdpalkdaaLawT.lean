/- StackTurns answers true: what was pushed comes back the other way round, as much of it as there was room for; for every byte and every list within the form's reach. -/
import Derived.Test.YtlnpngjdpalkdaaWalks
namespace Go.Proofs.Ytlnpngjdpalkdaa.Fns
open Go Go.RowKit

theorem awake_s (w wr : World) (h : Below w.heap.size w wr) : Calls Try.prog 8 #[] wr fun e w' => e = .returned (.bool true) ∧ Below w.heap.size w w' :=
  (awake_c wr).mono fun _ _ ⟨he, hb⟩ => ⟨he, h.trans (hb.mono h.size)⟩

theorem pop_v (w wr : World) {g : Nat} {v : Value} {l : List Int} {room : Nat} {over : Bool} (h : Sy w wr g v l room over) (hl : 0 < l.length) (y : Int) (ys : List Int) (hy : l.getD (l.length - 1) 0 = y) (hys : l.take (l.length - 1) = ys) :
    Calls Try.prog 12 #[.pointer (some ⟨g, 0, none⟩)] wr fun e w' => e = .returned (.tuple #[.int .i64 y, .bool true]) ∧ ∃ v', Sy w w' g v' ys room over := by
  subst hy; subst hys
  exact (pop_s w wr h hl).mono fun _ _ ⟨he, v', hs, _, _⟩ => ⟨he, v', hs⟩
theorem push_none (w wr : World) {g : Nat} {v : Value} {room : Nat} {over : Bool} (h : Sy w wr g v [] room over) :
    Calls Try.prog 9 #[.pointer (some ⟨g, 0, none⟩), .slice none 0 0] wr fun e w' => e = .returned (.int .i64 0) ∧ Below w.heap.size w w' := by
  refine (push_s w wr h 0 none 0 0 [] (Ints.nil _ _ _) (Nat.le_refl _) (by simp [maxLen])).mono ?_
  rintro e w' ⟨rfl, v', hs, _, _⟩
  exact ⟨by simp, hs.old⟩

set_option maxHeartbeats 8000000 in
theorem turns_c (n : Int) (A : Option Addr) (m cap : Nat) (xs : List Int) (w : World) (hn : (Lit.int .u8 n).wf = true)
    (hr : Ints w w.heap.size A m xs) (hm : m * 8 ≤ 140737488351232 ∧ m ≤ cap ∧ cap ≤ maxLen) (_hw : ∀ x ∈ xs, (Lit.int .i64 x).wf = true) :
    Calls Try.prog 3 #[.int .u8 n, .slice A m cap] w fun e w' => e = .returned (.bool true) ∧ Below w.heap.size w w' := by
  obtain ⟨n0, n1⟩ := bounds_u8 hn
  have HR := Lib.hid hr
  obtain ⟨hm1, hm2, hm3⟩ := hm
  have hm4 : m ≤ 17592186044416 := by omega
  have HM := Lib.hid hm3
  clear hr _hw hn hm3
  by_cases g : 100 < m
  · go_enter Try.func3, Try.ntmps3
    go_wp2_with fail
    refine (new_s _ w w (Below.refl _ _) (by omega) (by omega)).mono ?_
    rintro e w1 ⟨rfl, h1⟩
    have H1 := Lib.hid h1
    clear h1
    go_wp2_with (first | (go_at_call 7; refine (err_c _ _).mono ?_; rintro e w' ⟨rfl, rfl⟩) | (go_at_call 8; refine (awake_s w _ H1.out.old).mono ?_; rintro e w' ⟨rfl, hb⟩; have HB := Lib.hid hb; clear hb))
    go_ret
    exact ⟨rfl, HB.out⟩
  · obtain ⟨k, hk⟩ : ∃ k : Nat, (k : Int) = 1 + n % 50 := ⟨(1 + n % 50).toNat, by omega⟩
    have k1 : 1 ≤ k := by omega
    have k2 : k ≤ 50 := by omega
    have HK := Lib.hid hk
    clear hk
    obtain ⟨M, hM⟩ : ∃ M, M = min m k := ⟨_, rfl⟩
    have HMM := Lib.hid hM
    have hMle : M ≤ m := by omega
    have hMk : M ≤ k := by omega
    clear hM
    rcases (show m < k ∨ m = k ∨ k < m by omega) with hc | hc | hc
    · have hv : M = m := by have := HMM.out; omega
      subst hv
      have d1 : decide ((100 : Int) < (M : Int)) = false := by first | (simp; done) | (simp; omega)
      have d2 : decide (k < M) = false := by first | (simp; done) | (simp; omega)
      go_enter Try.func3, Try.ntmps3
      go_wp2_with fail
      rw [← HK.out]
      refine (new_n k w w (Below.refl _ _) (by omega) (by omega)).mono ?_
      rintro e w1 ⟨rfl, h1⟩
      have H1 := Lib.hid h1
      clear h1
      go_wp2_with (first | (go_at_call 7; refine (err_c _ _).mono ?_; rintro e w' ⟨rfl, rfl⟩))
      have hx1 := HR.out.below H1.out.old (Nat.le_refl _)
      refine (push_s w w1 H1.out _ A M cap xs hx1 hm2 HM.out).mono ?_
      rintro e w2 ⟨rfl, v2, h2, _, _⟩
      rw [show min M (k - ([] : List Int).length) = M by first | (simp; done) | (simp; omega)]
      have h3 : Sy w w2 w.heap.size v2 (xs.take M) k false := by
        have e1 : ([] : List Int) ++ xs.take (k - ([] : List Int).length) = xs.take M := by
          simp only [List.nil_append, List.length_nil, Nat.sub_zero]
          have := HR.out.1
          rw [List.take_of_length_le (by omega), List.take_of_length_le (by omega)]
        have e2 : (false || decide (k - ([] : List Int).length < M)) = false := by first | (simp; done) | (simp; omega)
        rw [e1, e2] at h2; exact h2
      have H3 := Lib.hid h3
      have hxl : (xs.take M).length = M := by have := HR.out.1; rw [List.length_take]; omega
      have XL := Lib.hid hxl
      clear h2 h3 hx1 hxl
      go_wp2_with (first | (go_at_call 10; refine (over_c _ H3.out.st).mono ?_; rintro e w' ⟨rfl, rfl⟩) | (go_at_call 11; refine (depth_c _ H3.out.st).mono ?_; rintro e w' ⟨rfl, rfl⟩; rw [XL.out]))
      go_loopw [9] (fun i wr => ∃ (j : Nat) (v : Value), j ≤ M ∧ i = .int .i64 ((j : Int) - 1) ∧ Sy w wr w.heap.size v (xs.take j) k false) (fun i _ => (intOf i + 1).toNat)
      case atStart => exact ⟨M, v2, Nat.le_refl _, rfl, H3.out⟩
      case round =>
        obtain ⟨j, v, hj, rfl, hs⟩ := hrel
        have HS := Lib.hid hs
        clear hs
        by_cases hlt : 0 < j
        · have q0 : 0 ≤ (j : Int) - 1 := by omega
          have q1 : ((j : Int) - 1).toNat = j - 1 := by omega
          have q2 : (j : Int) - 1 < M := by omega
          have q3 : j - 1 < M := by omega
          obtain ⟨y, hy⟩ : ∃ y, y = xs.getD (j - 1) 0 := ⟨_, rfl⟩
          have hl := HR.out.1
          have y1 : (xs.take j).getD ((xs.take j).length - 1) 0 = y := by
            rw [hy, List.length_take, Nat.min_eq_left (by omega)]
            simp [List.getD_eq_getElem?_getD, show j - 1 < j by omega]
          have y2 : (xs.take j).take ((xs.take j).length - 1) = xs.take (j - 1) := by
            rw [List.length_take, Nat.min_eq_left (by omega), List.take_take, Nat.min_eq_left (by omega)]
          have y3 : 0 < (xs.take j).length := by first | (simp; done) | (simp; omega)
          have Y1 := Lib.hid y1
          have Y2 := Lib.hid y2
          have HY := Lib.hid hy
          clear hy hl y1 y2
          have CF : Hid (∀ w', Below w.heap.size w w' → ∃ ad, A = some ad ∧ w'.cell? (ad.add (j - 1)) = some (.int .i64 y)) := fun w' hb => by
            obtain ⟨ad, e, _, hc⟩ := (HR.out.below hb (Nat.le_refl _)).2 (by omega)
            exact ⟨ad, e, by rw [HY.out]; exact hc _ (by omega)⟩
          go_wp2_with (go_at_call 12; refine (pop_v w _ HS.out y3 _ _ Y1.out Y2.out).mono ?_; rintro e w' ⟨rfl, v', hs'⟩; obtain ⟨ad, rfl, hcell⟩ := CF.out _ hs'.old; have HS' := Lib.hid hs'; clear hs')
          go_roundw
          case rel => exact ⟨j - 1, v', by omega, by rw [show ((j - 1 : Nat) : Int) = (j : Int) - 1 by omega], HS'.out⟩
          case measure => simp [intOf]; omega
        · obtain rfl : j = 0 := by omega
          have h0 := HS.out
          rw [List.take_zero] at h0
          have H0 := Lib.hid h0
          clear h0
          go_wp2_with (first | (go_at_call 12; refine (pop_none _ H0.out.st).mono ?_; rintro e w' ⟨rfl, rfl⟩) | (go_at_call 10; refine (over_c _ H0.out.st).mono ?_; rintro e w' ⟨rfl, rfl⟩) | (go_at_call 9; refine (push_none w _ H0.out).mono ?_; rintro e w' ⟨rfl, hb⟩; have HB := Lib.hid hb; clear hb) | (go_at_call 8; refine (awake_s w _ HB.out).mono ?_; rintro e w' ⟨rfl, hb⟩; have HB2 := Lib.hid hb; clear hb))
          go_ret
          exact ⟨rfl, HB2.out⟩
    · have hv : M = m := by have := HMM.out; omega
      subst hv
      subst hc
      have d1 : decide ((100 : Int) < (M : Int)) = false := by first | (simp; done) | (simp; omega)
      have d2 : decide (M < M) = false := by first | (simp; done) | (simp; omega)
      go_enter Try.func3, Try.ntmps3
      go_wp2_with fail
      rw [← HK.out]
      refine (new_n M w w (Below.refl _ _) (by omega) (by omega)).mono ?_
      rintro e w1 ⟨rfl, h1⟩
      have H1 := Lib.hid h1
      clear h1
      go_wp2_with (first | (go_at_call 7; refine (err_c _ _).mono ?_; rintro e w' ⟨rfl, rfl⟩))
      have hx1 := HR.out.below H1.out.old (Nat.le_refl _)
      refine (push_s w w1 H1.out _ A M cap xs hx1 hm2 HM.out).mono ?_
      rintro e w2 ⟨rfl, v2, h2, _, _⟩
      rw [show min M (M - ([] : List Int).length) = M by first | (simp; done) | (simp; omega)]
      have h3 : Sy w w2 w.heap.size v2 (xs.take M) M false := by
        have e1 : ([] : List Int) ++ xs.take (M - ([] : List Int).length) = xs.take M := by
          simp only [List.nil_append, List.length_nil, Nat.sub_zero]
        have e2 : (false || decide (M - ([] : List Int).length < M)) = false := by first | (simp; done) | (simp; omega)
        rw [e1, e2] at h2; exact h2
      have H3 := Lib.hid h3
      have hxl : (xs.take M).length = M := by have := HR.out.1; rw [List.length_take]; omega
      have XL := Lib.hid hxl
      clear h2 h3 hx1 hxl
      go_wp2_with (first | (go_at_call 10; refine (over_c _ H3.out.st).mono ?_; rintro e w' ⟨rfl, rfl⟩) | (go_at_call 11; refine (depth_c _ H3.out.st).mono ?_; rintro e w' ⟨rfl, rfl⟩; rw [XL.out]))
      go_loopw [9] (fun i wr => ∃ (j : Nat) (v : Value), j ≤ M ∧ i = .int .i64 ((j : Int) - 1) ∧ Sy w wr w.heap.size v (xs.take j) M false) (fun i _ => (intOf i + 1).toNat)
      case atStart => exact ⟨M, v2, Nat.le_refl _, rfl, H3.out⟩
      case round =>
        obtain ⟨j, v, hj, rfl, hs⟩ := hrel
        have HS := Lib.hid hs
        clear hs
        by_cases hlt : 0 < j
        · have q0 : 0 ≤ (j : Int) - 1 := by omega
          have q1 : ((j : Int) - 1).toNat = j - 1 := by omega
          have q2 : (j : Int) - 1 < M := by omega
          have q3 : j - 1 < M := by omega
          obtain ⟨y, hy⟩ : ∃ y, y = xs.getD (j - 1) 0 := ⟨_, rfl⟩
          have hl := HR.out.1
          have y1 : (xs.take j).getD ((xs.take j).length - 1) 0 = y := by
            rw [hy, List.length_take, Nat.min_eq_left (by omega)]
            simp [List.getD_eq_getElem?_getD, show j - 1 < j by omega]
          have y2 : (xs.take j).take ((xs.take j).length - 1) = xs.take (j - 1) := by
            rw [List.length_take, Nat.min_eq_left (by omega), List.take_take, Nat.min_eq_left (by omega)]
          have y3 : 0 < (xs.take j).length := by first | (simp; done) | (simp; omega)
          have Y1 := Lib.hid y1
          have Y2 := Lib.hid y2
          have HY := Lib.hid hy
          clear hy hl y1 y2
          have CF : Hid (∀ w', Below w.heap.size w w' → ∃ ad, A = some ad ∧ w'.cell? (ad.add (j - 1)) = some (.int .i64 y)) := fun w' hb => by
            obtain ⟨ad, e, _, hc⟩ := (HR.out.below hb (Nat.le_refl _)).2 (by omega)
            exact ⟨ad, e, by rw [HY.out]; exact hc _ (by omega)⟩
          go_wp2_with (go_at_call 12; refine (pop_v w _ HS.out y3 _ _ Y1.out Y2.out).mono ?_; rintro e w' ⟨rfl, v', hs'⟩; obtain ⟨ad, rfl, hcell⟩ := CF.out _ hs'.old; have HS' := Lib.hid hs'; clear hs')
          go_roundw
          case rel => exact ⟨j - 1, v', by omega, by rw [show ((j - 1 : Nat) : Int) = (j : Int) - 1 by omega], HS'.out⟩
          case measure => simp [intOf]; omega
        · obtain rfl : j = 0 := by omega
          have h0 := HS.out
          rw [List.take_zero] at h0
          have H0 := Lib.hid h0
          clear h0
          go_wp2_with (first | (go_at_call 12; refine (pop_none _ H0.out.st).mono ?_; rintro e w' ⟨rfl, rfl⟩) | (go_at_call 10; refine (over_c _ H0.out.st).mono ?_; rintro e w' ⟨rfl, rfl⟩) | (go_at_call 9; refine (push_none w _ H0.out).mono ?_; rintro e w' ⟨rfl, hb⟩; have HB := Lib.hid hb; clear hb) | (go_at_call 8; refine (awake_s w _ HB.out).mono ?_; rintro e w' ⟨rfl, hb⟩; have HB2 := Lib.hid hb; clear hb))
          go_ret
          exact ⟨rfl, HB2.out⟩
    · have hv : M = k := by have := HMM.out; omega
      subst hv
      have d1 : decide ((100 : Int) < (m : Int)) = false := by first | (simp; done) | (simp; omega)
      have d2 : decide (M < m) = true := by first | (simp; done) | (simp; omega)
      go_enter Try.func3, Try.ntmps3
      go_wp2_with fail
      rw [← HK.out]
      refine (new_n M w w (Below.refl _ _) (by omega) (by omega)).mono ?_
      rintro e w1 ⟨rfl, h1⟩
      have H1 := Lib.hid h1
      clear h1
      go_wp2_with (first | (go_at_call 7; refine (err_c _ _).mono ?_; rintro e w' ⟨rfl, rfl⟩))
      have hx1 := HR.out.below H1.out.old (Nat.le_refl _)
      refine (push_s w w1 H1.out _ A m cap xs hx1 hm2 HM.out).mono ?_
      rintro e w2 ⟨rfl, v2, h2, _, _⟩
      rw [show min m (M - ([] : List Int).length) = M by first | (simp; done) | (simp; omega)]
      have h3 : Sy w w2 w.heap.size v2 (xs.take M) M true := by
        have e1 : ([] : List Int) ++ xs.take (M - ([] : List Int).length) = xs.take M := by
          simp only [List.nil_append, List.length_nil, Nat.sub_zero]
        have e2 : (false || decide (M - ([] : List Int).length < m)) = true := by first | (simp; done) | (simp; omega)
        rw [e1, e2] at h2; exact h2
      have H3 := Lib.hid h3
      have hxl : (xs.take M).length = M := by have := HR.out.1; rw [List.length_take]; omega
      have XL := Lib.hid hxl
      clear h2 h3 hx1 hxl
      go_wp2_with (first | (go_at_call 10; refine (over_c _ H3.out.st).mono ?_; rintro e w' ⟨rfl, rfl⟩) | (go_at_call 11; refine (depth_c _ H3.out.st).mono ?_; rintro e w' ⟨rfl, rfl⟩; rw [XL.out]))
      go_loopw [9] (fun i wr => ∃ (j : Nat) (v : Value), j ≤ M ∧ i = .int .i64 ((j : Int) - 1) ∧ Sy w wr w.heap.size v (xs.take j) M true) (fun i _ => (intOf i + 1).toNat)
      case atStart => exact ⟨M, v2, Nat.le_refl _, rfl, H3.out⟩
      case round =>
        obtain ⟨j, v, hj, rfl, hs⟩ := hrel
        have HS := Lib.hid hs
        clear hs
        by_cases hlt : 0 < j
        · have q0 : 0 ≤ (j : Int) - 1 := by omega
          have q1 : ((j : Int) - 1).toNat = j - 1 := by omega
          have q2 : (j : Int) - 1 < m := by omega
          have q3 : j - 1 < m := by omega
          obtain ⟨y, hy⟩ : ∃ y, y = xs.getD (j - 1) 0 := ⟨_, rfl⟩
          have hl := HR.out.1
          have y1 : (xs.take j).getD ((xs.take j).length - 1) 0 = y := by
            rw [hy, List.length_take, Nat.min_eq_left (by omega)]
            simp [List.getD_eq_getElem?_getD, show j - 1 < j by omega]
          have y2 : (xs.take j).take ((xs.take j).length - 1) = xs.take (j - 1) := by
            rw [List.length_take, Nat.min_eq_left (by omega), List.take_take, Nat.min_eq_left (by omega)]
          have y3 : 0 < (xs.take j).length := by first | (simp; done) | (simp; omega)
          have Y1 := Lib.hid y1
          have Y2 := Lib.hid y2
          have HY := Lib.hid hy
          clear hy hl y1 y2
          have CF : Hid (∀ w', Below w.heap.size w w' → ∃ ad, A = some ad ∧ w'.cell? (ad.add (j - 1)) = some (.int .i64 y)) := fun w' hb => by
            obtain ⟨ad, e, _, hc⟩ := (HR.out.below hb (Nat.le_refl _)).2 (by omega)
            exact ⟨ad, e, by rw [HY.out]; exact hc _ (by omega)⟩
          go_wp2_with (go_at_call 12; refine (pop_v w _ HS.out y3 _ _ Y1.out Y2.out).mono ?_; rintro e w' ⟨rfl, v', hs'⟩; obtain ⟨ad, rfl, hcell⟩ := CF.out _ hs'.old; have HS' := Lib.hid hs'; clear hs')
          go_roundw
          case rel => exact ⟨j - 1, v', by omega, by rw [show ((j - 1 : Nat) : Int) = (j : Int) - 1 by omega], HS'.out⟩
          case measure => simp [intOf]; omega
        · obtain rfl : j = 0 := by omega
          have h0 := HS.out
          rw [List.take_zero] at h0
          have H0 := Lib.hid h0
          clear h0
          go_wp2_with (first | (go_at_call 12; refine (pop_none _ H0.out.st).mono ?_; rintro e w' ⟨rfl, rfl⟩) | (go_at_call 10; refine (over_c _ H0.out.st).mono ?_; rintro e w' ⟨rfl, rfl⟩) | (go_at_call 9; refine (push_none w _ H0.out).mono ?_; rintro e w' ⟨rfl, hb⟩; have HB := Lib.hid hb; clear hb) | (go_at_call 8; refine (awake_s w _ HB.out).mono ?_; rintro e w' ⟨rfl, hb⟩; have HB2 := Lib.hid hb; clear hb))
          go_ret
          exact ⟨rfl, HB2.out⟩
end Go.Proofs.Ytlnpngjdpalkdaa.Fns
