/- Marking the objects of a chain: each leads to the one ahead of it. -/
import Derived.Test.YtibgbahaldojiaaGreatMark
namespace Go.Proofs.YtibgbahaldojiaaGreat.Fns
open Go Go.RowKit
/-- The kinds and the words of a chain. -/
def KL (i : Nat) : Int := if i = 0 then 3 else 2
def VL (x : Int) (i : Nat) : Int := if i = 0 then x else 64 + ((i - 1 : Nat) : Int) * 2
theorem KL_kind (i : Nat) : KL i = 2 ∨ KL i = 3 := by unfold KL; split <;> simp
theorem KL_succ (i : Nat) : KL (i + 1) = 2 := by simp [KL]
theorem VL_succ (x : Int) (i : Nat) : VL x (i + 1) = 64 + (i : Int) * 2 := by simp [VL]
/-- Marked are those from i to k. -/
def mkF (i k : Nat) : Nat → Bool := fun a => decide (64 + i * 2 ≤ a ∧ a ≤ 64 + k * 2 ∧ a % 2 = 0)
theorem mkF_put (i k : Nat) (h : i < k) : put (mkF (i + 1) k) (64 + i * 2) true = mkF i k := by
  funext a
  unfold put mkF
  by_cases e : a = 64 + i * 2
  · rw [if_pos e]; simp; omega
  · rw [if_neg e]; simp only [decide_eq_decide]; omega
theorem mkF_one (k : Nat) : put (fun _ => false) (64 + k * 2) true = mkF k k := by
  funext a
  unfold put mkF
  by_cases e : a = 64 + k * 2
  · rw [if_pos e]; simp; omega
  · rw [if_neg e]; simp; omega
theorem mkF_out (i k : Nat) : mkF (i + 1) k (64 + i * 2) = false := by simp [mkF]; omega
section
variable (w0 w : World) {B : HpB} {b : TrB} {n m N room : Nat} {f : Nat → Int} {F : Nat → Bool} {l : List Int} {over : Bool} {x : Int} {Fb : Nat → Bool}
set_option maxHeartbeats 1000000 in
theorem fields0_c (t : Tx w0 w b B.h N F l room over) (h : Hp w0 B n m f) (hc : Ch m f KL Fb (VL x)) (hm : m ≤ 32) (hn : 2 ≤ n) (hi : 0 < m) :
    Calls Tryz.prog 171 #[.pointer (some ⟨b.t, 0, none⟩), .int .i64 64] w fun e w' => e = .returned (.tuple #[]) ∧ Tx w0 w' b B.h N F l room over := by
  obtain ⟨v, deep, t⟩ := t
  have k1 := t.c1
  have HT := Lib.hid t
  have HC := Lib.hid (refs_c w (h.below t.old) hm hn 0 64 hi (by omega) 3 (Fb 0) (.inr rfl) (hc.head 0 hi))
  clear t h hc
  go_enter Tryz.func171, Tryz.ntmps171
  go_wp2_with (go_at_call 92; refine HC.out.mono ?_; rintro e w1 ⟨hb, ⟨h32, _⟩ | ⟨_, rfl⟩⟩; exact absurd h32 (by decide); have HB := Lib.hid hb; clear hb)
  go_loopw [15] (fun iv wr => iv = .int .i64 0 ∧ wr = w1) (fun _ _ => 0)
  case atStart => exact ⟨rfl, rfl⟩
  case round =>
    obtain ⟨rfl, rfl⟩ := hrel
    go_wp2
    go_end0
    exact ⟨rfl, v, deep, HT.out.far HB.out⟩
set_option maxHeartbeats 1000000 in
theorem fieldsS_c (t : Tx w0 w b B.h N F l room over) (h : Hp w0 B n m f) (hc : Ch m f KL Fb (VL x)) (hN : N = n * 64) (hm : m ≤ 32) (hn : 2 ≤ n) (i a : Nat) (hi : i + 1 < m) (ha : a = 64 + (i + 1) * 2) (hF : F (64 + i * 2) = false) (hl : l.length < room) (hr : room ≤ 4096) :
    Calls Tryz.prog 171 #[.pointer (some ⟨b.t, 0, none⟩), .int .i64 (a : Int)] w fun e w' => e = .returned (.tuple #[]) ∧ Tx w0 w' b B.h N (put F (64 + i * 2) true) (l ++ [64 + (i : Int) * 2]) room over := by
  obtain ⟨v, deep, t⟩ := t
  have k1 := t.c1
  have HT := Lib.hid t
  have H0 := Lib.hid h
  have hf : f a = hw 2 1 (Fb (i + 1)) := by rw [ha]; exact hc.head (i + 1) hi
  have HC := Lib.hid (refs_c w (h.below t.old) hm hn (i + 1) a hi ha 2 (Fb (i + 1)) (.inl rfl) hf)
  obtain ⟨q, hq⟩ : ∃ q, q = 64 + i * 2 := ⟨_, rfl⟩
  have HF := Lib.hid (fun w' (hb : Below w.heap.size w w') => field_c w' ((h.below t.old).below hb) hm hn (i + 1) a hi ha 2 (Fb (i + 1)) (.inl rfl) hf (q : Int) (by rw [ha]; have := hc.word (i + 1) hi; rw [VL_succ] at this; rw [this]; omega))
  have HO := Lib.hid (fun w' (t' : Tr w0 w' b B.h N F v l room over deep) => one_new w0 w' t' h hN hm hn i q (by omega) hq (KL i) (Fb i) (KL_kind i) (by rw [hq]; exact hc.head i (by omega)) (by rw [hq]; exact hF) hl hr)
  rw [show (64 : Int) + (i : Int) * 2 = (q : Int) by omega, ← hq]
  clear t h hc hf ha hF hN hq
  go_enter Tryz.func171, Tryz.ntmps171
  go_wp2_with (go_at_call 92; refine HC.out.mono ?_; rintro e w1 ⟨hb, ⟨_, s, c, rfl, hcell⟩ | ⟨h23, _⟩⟩; rotate_left; exact absurd h23 (by decide); have HB := Lib.hid hb; have HCL := Lib.hid hcell; clear hb hcell)
  go_loopw [5, 6, 7, 15] (fun _ _ _ iv wr => (iv = .int .i64 0 ∧ wr = w1) ∨ (iv = .int .i64 1 ∧ Tx w0 wr b B.h N (put F q true) (l ++ [(q : Int)]) room over)) (fun _ _ _ iv _ => 1 - (intOf iv).toNat)
  case atStart => exact .inl ⟨rfl, rfl⟩
  case round =>
    rcases hrel with ⟨rfl, rfl⟩ | ⟨rfl, ht⟩
    · have hcell := HCL.out
      have k1 := (HT.out.far HB.out).c1
      go_wp2_with (first
        | (go_at_call 60; refine (HF.out _ HB.out).mono ?_; rintro e w2 ⟨rfl, hb⟩; have HB2 := Lib.hid hb; clear hb)
        | (go_at_call 167; refine (HO.out _ ((HT.out.far HB.out).far HB2.out)).mono ?_; rintro e w3 ⟨rfl, ht⟩; have HT3 := Lib.hid ht; clear ht))
      go_roundw
      case rel => exact .inr ⟨by go_num, HT3.out⟩
      case measure => simp [intOf]
    · have HT3 := Lib.hid ht
      clear ht
      go_wp2
      go_end0
      exact ⟨rfl, HT3.out⟩
theorem pop_one (t : Tx w0 w b B.h N F [x] room over) : Calls Tryz.prog 201 #[.pointer (some ⟨b.sk, 0, none⟩)] w fun e w' => e = .returned (.tuple #[.int .i64 x, .bool true]) ∧ Tx w0 w' b B.h N F [] room over := by
  obtain ⟨v, deep, t⟩ := t
  refine (sk_pop_some w t.st (by simp)).mono ?_
  rintro e w' ⟨rfl, v', hs, ho, hf⟩
  exact ⟨rfl, v', deep, t.stack hs (hf.mono (fun k _ e => .inl e)) (.inl ho)⟩
theorem pop_no (t : Tx w0 w b B.h N F [] room over) : Calls Tryz.prog 201 #[.pointer (some ⟨b.sk, 0, none⟩)] w fun e w' => e = .returned (.tuple #[.int .i64 0, .bool false]) ∧ w = w' := by
  obtain ⟨v, deep, t⟩ := t
  exact sk_pop_none w t.st
set_option maxHeartbeats 1000000 in
theorem drain_c (h : Hp w0 B n m f) (hc : Ch m f KL Fb (VL x)) (hN : N = n * 64) (hm : m ≤ 32) (hn : 2 ≤ n) (k : Nat) (hk : k < m) (t : Tx w0 w b B.h N (mkF k k) [64 + (k : Int) * 2] room over) (hr0 : 0 < room) (hr : room ≤ 4096) :
    Calls Tryz.prog 168 #[.pointer (some ⟨b.t, 0, none⟩)] w fun e w' => e = .returned (.tuple #[]) ∧ Tx w0 w' b B.h N (mkF 0 k) [] room over := by
  have k2 : w.cell? ⟨b.t, 2, none⟩ = some (.pointer (some ⟨b.sk, 0, none⟩)) := by obtain ⟨v, deep, t⟩ := t; exact t.c2
  have HT := Lib.hid t
  have H := Lib.hid (And.intro h (And.intro hc hN))
  obtain ⟨a, ha⟩ : ∃ a, a = 64 + k * 2 := ⟨_, rfl⟩
  have HP := Lib.hid (show Calls Tryz.prog 201 #[.pointer (some ⟨b.sk, 0, none⟩)] w fun e w' => e = .returned (.tuple #[.int .i64 (a : Int), .bool true]) ∧ Tx w0 w' b B.h N (mkF k k) [] room over by rw [show (a : Int) = 64 + (k : Int) * 2 by omega]; exact pop_one w0 w t)
  have HA := Lib.hid ha
  clear t h hc hN ha
  go_enter Tryz.func168, Tryz.ntmps168
  go_wp2_with (go_at_call 201; refine HP.out.mono ?_; rintro e w1 ⟨rfl, ht⟩; have HT1 := Lib.hid ht; clear ht)
  go_loopw [2, 3] (fun av ov wr => ∃ i, i ≤ k ∧ ((ov = .bool true ∧ av = .int .i64 ((64 + i * 2 : Nat) : Int) ∧ Tx w0 wr b B.h N (mkF i k) [] room over) ∨ (i = 0 ∧ ov = .bool false ∧ av = .int .i64 0 ∧ Tx w0 wr b B.h N (mkF 0 k) [] room over))) (fun av _ _ => (intOf av).toNat)
  case atStart => exact ⟨k, Nat.le_refl _, .inl ⟨rfl, by rw [HA.out], HT1.out⟩⟩
  case round =>
    obtain ⟨i, hi, ⟨rfl, rfl, ht⟩ | ⟨rfl, rfl, rfl, ht⟩⟩ := hrel
    · have HT2 := Lib.hid ht
      have k2 : wr.cell? ⟨b.t, 2, none⟩ = some (.pointer (some ⟨b.sk, 0, none⟩)) := by obtain ⟨v, deep, t⟩ := ht; exact t.c2
      clear ht
      obtain ⟨h, hc, hN⟩ := H.out
      rcases i with _ | i
      · have HF := Lib.hid (fields0_c w0 wr HT2.out h hc hm hn (by omega))
        clear h hc hN
        go_wp2_with (first
          | (go_at_call 171; refine HF.out.mono ?_; rintro e w2 ⟨rfl, ht⟩; have HT3 := Lib.hid ht; have k2 : w2.cell? ⟨b.t, 2, none⟩ = some (.pointer (some ⟨b.sk, 0, none⟩)) := (by obtain ⟨v, deep, t⟩ := ht; exact t.c2); clear ht)
          | (go_at_call 201; refine (pop_no w0 _ HT3.out).mono ?_; rintro e w' ⟨rfl, rfl⟩))
        go_roundw
        case rel => exact ⟨0, Nat.zero_le _, .inr ⟨rfl, rfl, rfl, HT3.out⟩⟩
        case measure => simp [intOf]
      · obtain ⟨q, hq⟩ : ∃ q, q = 64 + (i + 1) * 2 := ⟨_, rfl⟩
        obtain ⟨p, hp⟩ : ∃ p, p = 64 + i * 2 := ⟨_, rfl⟩
        have HF := Lib.hid (fieldsS_c w0 wr HT2.out h hc hN hm hn i q (by omega) hq (mkF_out i k) (by simpa using hr0) hr)
        rw [mkF_put i k (by omega), show (64 : Int) + (i : Int) * 2 = (p : Int) by omega, List.nil_append] at HF
        rw [← hq]
        have HQ := Lib.hid (And.intro hq hp)
        clear h hc hN hq hp
        go_wp2_with (first
          | (go_at_call 171; refine HF.out.mono ?_; rintro e w2 ⟨rfl, ht⟩; have HT3 := Lib.hid ht; have k2 : w2.cell? ⟨b.t, 2, none⟩ = some (.pointer (some ⟨b.sk, 0, none⟩)) := (by obtain ⟨v, deep, t⟩ := ht; exact t.c2); clear ht)
          | (go_at_call 201; refine (pop_one w0 _ HT3.out).mono ?_; rintro e w3 ⟨rfl, ht⟩; have HT4 := Lib.hid ht; clear ht))
        go_roundw
        case rel => exact ⟨i, by omega, .inl ⟨rfl, by rw [← HQ.out.2], HT4.out⟩⟩
        case measure => simp [intOf]; have := HQ.out; omega
    · have HT3 := Lib.hid ht
      clear ht
      go_wp2
      go_end0
      exact ⟨rfl, HT3.out⟩
end
end Go.Proofs.YtibgbahaldojiaaGreat.Fns
