/- OpKnown's plain law: what the printed function computes is true. -/
import Derived.Test.YtkandpfaonlncaaPOpKnownx2
import Derived.Test.YtkandpfaonlncaaSpecKnown
import Derived.OpenShut
namespace Go.Proofs.Ytkandpfaonlncaa.Pure
open Go Go.RowKit Go.Proofs.Ytkandpfaonlncaa.POpKnown Go.Proofs.Ytkandpfaonlncaa.SpecKnown Go.Proofs.YtkandpfaonlncaaW.PrintWords Go.Proofs.YtkandpfaonlncaaW.PrintLast

/-- The bytes of one operation, at their places. -/
theorem put_at (o : S37) (s : ByteArray) (hs : s = strOfNums (put [o])) (j : Nat) (hj : j < 8) : bt s (j : Int) = byt o.f0 j ∧ bt s ((8 + j : Nat) : Int) = byt o.f1 j ∧ bt s ((16 + j : Nat) : Int) = byt o.f2 j ∧ bt s ((24 + j : Nat) : Int) = byt o.f3 j := by
  subst hs
  have hl : (put [o]).length = 32 := put_len [o]
  have e : put [o] = opB o := by unfold put; rw [List.flatMap_cons, List.flatMap_nil, List.append_nil]
  obtain ⟨h0, h1, h2, h3⟩ := opB_at o j hj
  refine ⟨?_, ?_, ?_, ?_⟩
  · rw [bt_nums _ (put_range [o]) _ (by omega), e, h0]
  · rw [bt_nums _ (put_range [o]) _ (by omega), e, h1]
  · rw [bt_nums _ (put_range [o]) _ (by omega), e, h2]
  · rw [bt_nums _ (put_range [o]) _ (by omega), e, h3]
theorem byt_small (a : Int) (j : Nat) (h0 : 0 ≤ a) (h1 : a < 256) (hj : 0 < j) (hj8 : j < 8) : byt a j = 0 := by
  unfold byt uu
  rcases (show j = 1 ∨ j = 2 ∨ j = 3 ∨ j = 4 ∨ j = 5 ∨ j = 6 ∨ j = 7 by omega) with e | e | e | e | e | e | e <;> subst e <;> simp only [Nat.reduceMul, Int.reducePow] <;> omega

theorem w64_in (x : Int) (h : -9223372036854775808 ≤ x ∧ x ≤ 9223372036854775807) : wrap64 x = x := by unfold wrap64; omega
theorem e16 (j : Nat) (h : j < 8) : wrap64 (16 + (j : Int)) = ((16 + j : Nat) : Int) := by
  have e : ((16 + j : Nat) : Int) = 16 + (j : Int) := by omega
  rw [e]
  exact w64_in _ (by omega)
theorem e24 (j : Nat) (h : j < 8) : wrap64 (24 + (j : Int)) = ((24 + j : Nat) : Int) := by
  have e : ((24 + j : Nat) : Int) = 24 + (j : Int) := by omega
  rw [e]
  exact w64_in _ (by omega)
theorem e8 (j : Nat) (h : j < 8) : wrap64 (8 * (j : Int)) = ((8 * j : Nat) : Int) := by unfold wrap64; omega
theorem step (a0 a2 a3 : Int) (s : ByteArray) (k : Nat) (X P R T Y : Int) (g0 : 0 ≤ X ∧ X < (s.size : Int) ∧ X < 8) (q0 : X > 0 → bt s X = 0) (e3 : wrap64 (16 + X) = P) (e4 : wrap64 (24 + X) = R) (e1 : wrap64 (8 * X) = T) (e2 : wrap64 (X + 1) = Y) (e5 : wrap64 a2 = a2)
    (g3 : 0 ≤ P ∧ P < (s.size : Int)) (g4 : 0 ≤ R ∧ R < (s.size : Int)) (g1 : 0 ≤ T) (q2 : bt s P = shr .u64 (IntKind.u64.wrap a2) T % 256) (q3 : bt s R = shr .u64 (IntKind.u64.wrap a3) T % 256) :
    gloaminglaw22_OpKnown.l0 (k + 1) a0 a2 a3 s X = gloaminglaw22_OpKnown.l0 k a0 a2 a3 s Y := by
  rw [gloaminglaw22_OpKnown.l0, if_pos g0.2.2, e3, e4, e1, e2, e5]
  by_cases h : X > 0
  · rw [if_pos h, if_pos g0.1, if_pos g0.2.1, if_pos (q0 h), if_pos g3.1, if_pos g3.2, if_pos g1, if_pos q2, if_pos g4.1, if_pos g4.2, if_pos q3]
  · rw [if_neg h, if_pos g3.1, if_pos g3.2, if_pos g1, if_pos q2, if_pos g4.1, if_pos g4.2, if_pos q3]

theorem loop (a0 a1 a2 a3 : Int) (h0 : 0 ≤ a0 ∧ a0 < 256) (ho : Okay ⟨a0, a1, a2, a3⟩) (s : ByteArray) (hs : s = strOfNums (put [⟨a0, a1, a2, a3⟩])) (d : Nat) : ∀ (k j : Nat), j + d = 8 → d + 60 ≤ k → gloaminglaw22_OpKnown.l0 k a0 a2 a3 s (j : Int) = some true := by
  have hz : s.size = 32 := by rw [hs]; exact put_size _
  induction d with
  | zero =>
    intro k j hj hk
    obtain ⟨k, rfl⟩ : ∃ m, k = m + 1 := ⟨k - 1, by omega⟩
    have hg := get_of_put [⟨a0, a1, a2, a3⟩] (fun o h => by rw [List.mem_singleton] at h; rw [h]; exact ho) (by simp) k (by simp; omega)
    rw [← hs] at hg
    have hw : a0 = wrap64 a0 := by unfold wrap64; omega
    simp only [gloaminglaw22_OpKnown.l0]
    rw [if_neg (by omega), hg]
    simp only [Option.bind_some]
    rw [err_eq]
    simp only [Option.bind_some]
    rw [if_pos trivial, awake_eq k (by omega)]
    show (if a0 = wrap64 a0 then (if a3 = a3 then some true else _) else _) = some true
    rw [if_pos hw, if_pos rfl]
  | succ d ih =>
    intro k j hj hk
    obtain ⟨k, rfl⟩ : ∃ m, k = m + 1 := ⟨k - 1, by omega⟩
    have hr := ih k (j + 1) (by omega) (by omega)
    have hj8 : j < 8 := by omega
    have e1 := e8 j hj8
    have e2 : wrap64 ((j : Int) + 1) = ((j + 1 : Nat) : Int) := by unfold wrap64; omega
    have e3 := e16 j hj8
    have e4 := e24 j hj8
    have e5 : wrap64 a2 = a2 := w64_in _ ho.2.2.1
    have g3 : (0 : Int) ≤ ((16 + j : Nat) : Int) ∧ ((16 + j : Nat) : Int) < (s.size : Int) := by omega
    have g4 : (0 : Int) ≤ ((24 + j : Nat) : Int) ∧ ((24 + j : Nat) : Int) < (s.size : Int) := by omega
    have g1 : (0 : Int) ≤ ((8 * j : Nat) : Int) := by omega
    have g0 : (0 : Int) ≤ (j : Int) ∧ (j : Int) < (s.size : Int) ∧ (j : Int) < 8 := by omega
    have gj : (j : Int) > 0 → 0 < j := by omega
    obtain ⟨p0, p1, p2, p3⟩ := put_at ⟨a0, a1, a2, a3⟩ s hs j hj8
    dsimp only at p0 p1 p2 p3
    have q2 : bt s ((16 + j : Nat) : Int) = shr .u64 (IntKind.u64.wrap a2) ((8 * j : Nat) : Int) % 256 := p2.trans (shr_byt a2 j hj8).symm
    have q3 : bt s ((24 + j : Nat) : Int) = shr .u64 (IntKind.u64.wrap a3) ((8 * j : Nat) : Int) % 256 := p3.trans (shr_byt a3 j hj8).symm
    have q0 : (j : Int) > 0 → bt s (j : Int) = 0 := fun h => p0.trans (byt_small a0 j h0.1 h0.2 (gj h) hj8)
    clear p0 p1 p2 p3
    generalize ((16 + j : Nat) : Int) = P at *
    generalize ((24 + j : Nat) : Int) = R at *
    generalize ((8 * j : Nat) : Int) = T at *
    generalize ((j + 1 : Nat) : Int) = Y at *
    generalize (j : Int) = X at *
    exact (step a0 a2 a3 s k X P R T Y g0 q0 e3 e4 e1 e2 e5 g3 g4 g1 q2 q3).trans hr

theorem OpKnown : gloaminglaw22_OpKnown.Pure := by
  intro a0 a1 a2 a3 w0 w1 w2 w3
  have b0 := bounds_u8 w0
  have b1 := bounds_u16 w1
  have b2 := bounds_i32 w2
  have b3 := bounds_i64 w3
  refine ⟨100, ?_⟩
  have ho : Okay ⟨a0, a1, a2, a3⟩ := ⟨by dsimp only; omega, by dsimp only; omega, by dsimp only; omega, by dsimp only; omega⟩
  obtain ⟨s, hs⟩ : ∃ s, s = strOfNums (put [⟨a0, a1, a2, a3⟩]) := ⟨_, rfl⟩
  have hz : s.size = 32 := by rw [hs]; exact put_size _
  have hp : op_Put.f 100 [⟨a0, a1, a2, a3⟩] = some s := by rw [hs]; exact put_eq _ (by simp) 100 (by simp)
  have e0 : wrap64 a0 = a0 := by unfold wrap64; omega
  have e1 : wrap64 a1 = a1 := by unfold wrap64; omega
  have e2 : wrap64 a2 = a2 := by unfold wrap64; omega
  have t0 : byt a0 0 = a0 := by unfold byt uu; simp only [Nat.reduceMul, Int.reducePow]; omega
  have t1 : byt a1 0 = a1 % 256 := by unfold byt uu; simp only [Nat.reduceMul, Int.reducePow]; omega
  have t2 : byt a1 1 = a1 / 256 % 256 := by unfold byt uu; simp only [Nat.reduceMul, Int.reducePow]; omega
  have t3 : byt a1 2 = 0 := by unfold byt uu; simp only [Nat.reduceMul, Int.reducePow]; omega
  have z0 : (s.size : Int) = 32 := by omega
  have z1 : (0 : Int) < (s.size : Int) ∧ (8 : Int) < (s.size : Int) ∧ (9 : Int) < (s.size : Int) ∧ (10 : Int) < (s.size : Int) := by omega
  have h256 : 0 ≤ a0 ∧ a0 < 256 := by omega
  obtain ⟨p0, p1, _, _⟩ := put_at ⟨a0, a1, a2, a3⟩ s hs 0 (by decide)
  obtain ⟨_, q1, _, _⟩ := put_at ⟨a0, a1, a2, a3⟩ s hs 1 (by decide)
  obtain ⟨_, r1, _, _⟩ := put_at ⟨a0, a1, a2, a3⟩ s hs 2 (by decide)
  dsimp only at p0 p1 q1 r1
  have p0 : bt s 0 = a0 := p0.trans t0
  have p1 : bt s 8 = a1 % 256 := p1.trans t1
  have q1 : bt s 9 = a1 / 256 % 256 := q1.trans t2
  have r1 : bt s 10 = 0 := r1.trans t3
  unfold gloaminglaw22_OpKnown.f
  rw [e0, e1, e2, hp]
  simp only [Option.bind_some]
  rw [if_pos z0, if_pos z1.1, if_pos p0, if_pos z1.2.1, if_pos p1, if_pos z1.2.2.1, if_pos q1, if_pos z1.2.2.2, show (bt s 10 != 0) = false by rw [r1]; rfl]
  simp only [gloaminglaw22_OpKnown.j0]
  rw [if_neg (by simp)]
  exact loop a0 a1 a2 a3 h256 ho s hs 8 99 0 rfl (by decide)
end Go.Proofs.Ytkandpfaonlncaa.Pure
