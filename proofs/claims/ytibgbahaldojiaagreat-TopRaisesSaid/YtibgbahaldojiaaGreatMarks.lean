/- A tracer: marking a row of roots; what is marked. -/
import Derived.Test.YtibgbahaldojiaaGreatChain
namespace Go.Proofs.YtibgbahaldojiaaGreat.Fns
open Go Go.RowKit
section
variable (w0 w : World) {B : HpB} {b : TrB} {n m N room : Nat} {f : Nat → Int} {F : Nat → Bool} {l : List Int} {over : Bool} {x : Int} {Fb : Nat → Bool}
theorem Tx.far {w0 w w' : World} {b : TrB} {h N room : Nat} {F : Nat → Bool} {l : List Int} {over : Bool} (t : Tx w0 w b h N F l room over) (hb : Below w.heap.size w w') : Tx w0 w' b h N F l room over := by
  obtain ⟨v, d, t⟩ := t
  exact ⟨v, d, t.far hb⟩
theorem Tx.old {w0 w : World} {b : TrB} {h N room : Nat} {F : Nat → Bool} {l : List Int} {over : Bool} (t : Tx w0 w b h N F l room over) : Below w0.heap.size w0 w := by
  obtain ⟨v, d, t⟩ := t
  exact t.old
theorem mark_none (t : Tx w0 w b B.h N F l room false) (A : Option Addr) (c : Nat) : Calls Tryz.prog 135 #[.pointer (some ⟨b.t, 0, none⟩), .slice A 0 c] w fun e w' => e = .returned (.tuple #[]) ∧ w = w' := by
  obtain ⟨v, d, t⟩ := t
  have k2 := t.c2
  have HT := Lib.hid t
  clear t
  go_enter Tryz.func135, Tryz.ntmps135
  go_wp2
  go_loopw [12] (fun iv wr => iv = .int .i64 0 ∧ wr = w) (fun _ _ => 0)
  case atStart => exact ⟨rfl, rfl⟩
  case round =>
    obtain ⟨rfl, rfl⟩ := hrel
    go_wp2
    go_loopw [35] (fun _ wx => wx = wr) (fun _ _ => 0)
    case atStart => rfl
    case round =>
      obtain rfl := hrel
      go_wp2_with (go_at_call 169; refine (sk_over_c _ HT.out.st).mono ?_; rintro e w' ⟨rfl, rfl⟩)
      go_end0
      exact ⟨rfl, rfl⟩
set_option maxHeartbeats 1000000 in
theorem mark_one (h : Hp w0 B n m f) (hc : Ch m f KL Fb (VL x)) (hN : N = n * 64) (hm : m ≤ 32) (hn : 2 ≤ n) (k : Nat) (hk : k < m) (t : Tx w0 w b B.h N (fun _ => false) [] room false) (hr0 : 0 < room) (hr : room ≤ 4096) (A : Option Addr) (c : Nat) (hA : Ints w w.heap.size A 1 [64 + (k : Int) * 2]) :
    Calls Tryz.prog 135 #[.pointer (some ⟨b.t, 0, none⟩), .slice A 1 c] w fun e w' => e = .returned (.tuple #[]) ∧ Tx w0 w' b B.h N (mkF 0 k) [] room false := by
  obtain ⟨a, ha⟩ : ∃ a, a = 64 + k * 2 := ⟨_, rfl⟩
  have HT := Lib.hid t
  have H := Lib.hid (And.intro h (And.intro hc hN))
  have HO := Lib.hid (show Calls Tryz.prog 167 #[.pointer (some ⟨b.t, 0, none⟩), .int .i64 (a : Int)] w fun e w' => e = .returned (.tuple #[]) ∧ Tx w0 w' b B.h N (mkF k k) [64 + (k : Int) * 2] room false by
    obtain ⟨v, d, t⟩ := t
    refine (one_new w0 w t h hN hm hn k a hk ha (KL k) (Fb k) (KL_kind k) (by rw [ha]; exact hc.head k hk) rfl (by simpa using hr0) hr).mono ?_
    rintro e w' ⟨rfl, ht⟩
    rw [ha, mkF_one, List.nil_append] at ht
    exact ⟨rfl, by rw [show ((64 + k * 2 : Nat) : Int) = 64 + (k : Int) * 2 by omega] at ht; exact ht⟩)
  obtain ⟨ad, rfl, had, hcell⟩ := hA.2 (by omega)
  have hcell := hcell 0 (by omega)
  rw [show ([64 + (k : Int) * 2] : List Int).getD 0 0 = (a : Int) by simp; omega, show ad.add 0 = ad by unfold Addr.add; simp] at hcell
  clear t h hc hN hA ha
  go_enter Tryz.func135, Tryz.ntmps135
  go_wp2
  go_loopw [5, 12] (fun _ iv wr => (iv = .int .i64 0 ∧ wr = w) ∨ (iv = .int .i64 1 ∧ Tx w0 wr b B.h N (mkF 0 k) [] room false)) (fun _ iv _ => 1 - (intOf iv).toNat)
  case atStart => exact .inl ⟨rfl, rfl⟩
  case round =>
    rcases hrel with ⟨rfl, rfl⟩ | ⟨rfl, ht⟩
    · go_wp2_with (first
        | (go_at_call 167; refine HO.out.mono ?_; rintro e w1 ⟨rfl, ht⟩; have HT1 := Lib.hid ht; clear ht)
        | (go_at_call 168; refine (drain_c w0 _ H.out.1 H.out.2.1 H.out.2.2 hm hn k hk HT1.out hr0 hr).mono ?_; rintro e w2 ⟨rfl, ht⟩; have HT2 := Lib.hid ht; clear ht))
      go_roundw
      case rel => exact .inr ⟨by go_num, HT2.out⟩
      case measure => simp [intOf]
    · have HT2 := Lib.hid ht
      have k2 : wr.cell? ⟨b.t, 2, none⟩ = some (.pointer (some ⟨b.sk, 0, none⟩)) := by obtain ⟨v, deep, t⟩ := ht; exact t.c2
      have HV := Lib.hid (show Calls Tryz.prog 169 #[.pointer (some ⟨b.sk, 0, none⟩)] wr fun e w' => e = .returned (.bool false) ∧ wr = w' by obtain ⟨v, deep, t⟩ := ht; exact sk_over_c _ t.st)
      clear ht
      go_wp2
      go_loopw [35] (fun _ wx => wx = wr) (fun _ _ => 0)
      case atStart => rfl
      case round =>
        obtain rfl := hrel
        go_wp2_with (go_at_call 169; refine HV.out.mono ?_; rintro e w' ⟨rfl, rfl⟩)
        go_end0
        exact ⟨rfl, HT2.out⟩
theorem marked_c (t : Tx w0 w b B.h N F l room over) (a : Nat) (ha : a < N) (z : Bool) (hz : F a = z) : Calls Tryz.prog 176 #[.pointer (some ⟨b.t, 0, none⟩), .int .i64 (a : Int)] w fun e w' => e = .returned (.bool z) ∧ w = w' := by
  obtain ⟨v, d, t⟩ := t
  have H := Lib.hid (show (decide (0 ≤ (a : Int) ∧ (a : Int) < N) && F (a : Int).toNat) = z by rw [Int.toNat_natCast, hz, decide_eq_true (by omega), Bool.true_and])
  have k0 := t.c0
  have HT := Lib.hid t
  clear t hz
  go_enter Tryz.func176, Tryz.ntmps176
  go_wp2_with (go_at_call 129; refine (btHas_c _ HT.out.bits _ z H.out).mono ?_; rintro e w' ⟨rfl, rfl⟩)
  go_ret
  exact ⟨rfl, rfl⟩
/-- The places below n that are so. -/
def allF (F : Nat → Bool) : Nat → List Int
  | 0 => []
  | n + 1 => allF F n ++ if F n = true then [(n : Int)] else []
theorem allF_skip (F : Nat → Bool) (fr : Nat) : ∀ k, fr ≤ k → (∀ j, fr ≤ j → j < k → F j ≠ true) → allF F k = allF F fr
  | 0, h, _ => by obtain rfl : fr = 0 := by omega
                  rfl
  | k + 1, h, hn => by
    rcases Nat.eq_or_lt_of_le h with h1 | h1
    · rw [h1]
    · have := allF_skip F fr k (by omega) (fun j h2 h3 => hn j h2 (by omega))
      simp only [allF]
      rw [if_neg (hn k (by omega) (by omega)), this, List.append_nil]
theorem allF_len (F : Nat → Bool) : ∀ n, (allF F n).length ≤ n
  | 0 => Nat.le_refl _
  | n + 1 => by have := allF_len F n; simp only [allF]; split <;> simp <;> omega
theorem allF_none (n : Nat) : allF (fun _ => false) n = [] := by
  exact allF_skip _ 0 n (Nat.zero_le _) (fun _ _ _ => by simp)
theorem allF_mk (k : Nat) : ∀ j, j ≤ k + 1 → allF (mkF 0 k) (64 + j * 2) = ats j
  | 0, _ => by
    rw [allF_skip _ 0 _ (Nat.zero_le _) (fun q _ h => by simp only [mkF, ne_eq, decide_eq_true_eq]; omega)]
    rfl
  | j + 1, h => by
    have ih := allF_mk k j (by omega)
    rw [ats_succ, ← ih, show 64 + (j + 1) * 2 = 64 + j * 2 + 1 + 1 by omega]
    have e1 : mkF 0 k (64 + j * 2 + 1) ≠ true := by simp only [mkF, ne_eq, decide_eq_true_eq]; omega
    have e2 : mkF 0 k (64 + j * 2) = true := by simp only [mkF, decide_eq_true_eq]; omega
    simp only [allF]
    rw [if_neg e1, if_pos e2, List.append_nil]
    congr 2
theorem allF_line (k N : Nat) (h : 64 + (k + 1) * 2 ≤ N) : allF (mkF 0 k) N = ats (k + 1) := by
  rw [allF_skip _ (64 + (k + 1) * 2) N (by omega) (fun q h1 _ => by simp only [mkF, ne_eq, decide_eq_true_eq]; omega)]
  exact allF_mk k (k + 1) (Nat.le_refl _)
set_option maxHeartbeats 1000000 in
theorem bitsAll_c (tt bb br : Nat) (k0 : w.cell? ⟨tt, 0, none⟩ = some (.pointer (some ⟨bb, 0, none⟩))) (t : Bt w bb br N F) (hN : N ≤ 16384) : Calls Tryz.prog 140 #[.pointer (some ⟨tt, 0, none⟩)] w fun e w' => ∃ v, e = .returned v ∧ w'.ownsRow w.heap.size 3 1 v (allF F N).length ((allF F N).map (Value.int .i64)) ∧ Below w.heap.size w w' := by
  obtain ⟨i0, hi0, hz0, hz1, hz2⟩ := info_parts info3
  have INFO := Lib.hid (And.intro hi0 (And.intro hz0 (And.intro hz1 hz2)))
  clear hi0 hz0 hz1 hz2
  have K0 := Lib.hid k0
  have HT := Lib.hid t
  obtain ⟨z0, hz0⟩ : ∃ z0, z0 = nxtF F N 0 := ⟨_, rfl⟩
  have HZ0 := Lib.hid hz0
  clear t hz0
  go_enter Tryz.func140, Tryz.ntmps140
  go_wp2_with (go_at_call 110; refine (btNext0_c _ HT.out true z0 (by rw [HZ0.out]; exact nxtF_spec F N 0 N (by omega))).mono ?_; rintro e w' ⟨rfl, rfl⟩)
  go_loopw [3, 4] (fun v iv wr => ∃ fr : Nat, fr ≤ N ∧ wr.ownsRow w.heap.size 3 1 v (allF F fr).length ((allF F fr).map (Value.int .i64)) ∧ iv = .int .i64 (nxtF F (N - fr) fr) ∧ Below w.heap.size w wr) (fun _ iv _ => mz N (intOf iv))
  case atStart => exact ⟨0, by omega, World.ownsRow_nil _ _ _ _, by rw [HZ0.out]; rfl, Below.refl _ _⟩
  case round =>
    obtain ⟨fr, hfr, ho, rfl, hb⟩ := hrel
    have HO := Lib.hid ho
    have HB := Lib.hid hb
    have hle := allF_len F fr
    obtain ⟨A, c, rfl⟩ := own_form ho
    rcases nxtF_spec F (N - fr) fr N (by omega) with ⟨k, h1, h2, h3, h4, h5⟩ | ⟨h1, h2⟩
    · have HC := Lib.hid (show allF F (k + 1) = allF F fr ++ [(k : Int)] by simp only [allF]; rw [if_pos h4, allF_skip F fr k h2 h5])
      rw [h1]
      obtain ⟨z1, hz1⟩ : ∃ z1, z1 = nxtF F (N - (k + 1)) (k + 1) := ⟨_, rfl⟩
      have HS := Lib.hid (nxtF_spec F (N - (k + 1)) (k + 1) N (by omega))
      have HZ1 := Lib.hid hz1
      have g1 : decide ((0 : Int) ≤ (k : Int)) = true := by simp
      obtain ⟨L, hL⟩ : ∃ L, L = (allF F fr).length := ⟨_, rfl⟩
      have HL := Lib.hid hL
      rw [← hL] at HO hle ⊢
      clear h1 h4 h5 hz1 ho hb hL
      go_wp2_with (first
        | (at_builtin; refine wpList_push _ rfl (.tmp 21) (.tmp 23) 51 rfl w.heap.size 3 i0 Tryz.underlying51 INFO.out.1 INFO.out.2.1 INFO.out.2.2.1 INFO.out.2.2.2 (.slice A L c) L _ (by simp [Act.eval]) (HO.out.alloc _) (wr.heap.size + 1) (some ⟨wr.heap.size, 0, none⟩) 1 1 _ rfl (ints_one wr _) (by omega) (Nat.le_trans HB.out.size (by simp)) ?_; intro v2 w3 ho hg _; have HO3 := Lib.hid ho; have HB3 := Lib.hid ((HB.out.alloc HB.out.size _).grown hg (Nat.le_trans HB.out.size (by simp)) (fun k hk => (HO.out.lt k hk).1)); have HT4 := Lib.hid (HT.out.below HB3.out); have k3 := (HB3.out.cell (World.block_lt_of_cell? _ _ K0.out)).trans K0.out; clear ho hg)
        | (go_at_call 110; refine (btNext_c _ HT4.out (k + 1) (by omega) true z1 (by rw [HZ1.out]; exact HS.out)).mono ?_; rintro e w' ⟨rfl, rfl⟩))
      go_roundw
      case rel => exact ⟨k + 1, by omega, by rw [HC.out]; simpa [HL.out] using HO3.out, by rw [HZ1.out], HB3.out⟩
      case measure =>
        have hs := HS.out
        rw [← HZ1.out] at hs
        show mz N z1 < mz N (k : Int)
        unfold mz
        rcases hs with ⟨k', h1, h2, h3, _⟩ | ⟨h1, _⟩
        · rw [h1, if_neg (by omega), if_neg (by omega)]; omega
        · rw [h1, if_pos (by omega), if_neg (by omega)]; omega
    · have HC := Lib.hid (show allF F N = allF F fr from allF_skip F fr N hfr h2)
      rw [h1]
      clear h1 h2 ho hb
      go_wp2
      go_ret
      exact ⟨_, rfl, by rw [HC.out]; exact HO.out, HB.out⟩
theorem trAll_c (t : Tx w0 w b B.h N F l room over) (hN : N ≤ 16384) : Calls Tryz.prog 140 #[.pointer (some ⟨b.t, 0, none⟩)] w fun e w' => ∃ v, e = .returned v ∧ w'.ownsRow w.heap.size 3 1 v (allF F N).length ((allF F N).map (Value.int .i64)) ∧ Below w.heap.size w w' := by
  obtain ⟨v, d, t⟩ := t
  exact bitsAll_c w _ _ _ t.c0 t.bits hN
end
end Go.Proofs.YtibgbahaldojiaaGreat.Fns
