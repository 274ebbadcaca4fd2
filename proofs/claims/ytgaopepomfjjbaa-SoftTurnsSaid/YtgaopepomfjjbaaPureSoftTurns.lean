/- Proved: for all numbers a reference is kept just when it was idle no longer than its limit, the idle time is what lies between and never below 0, and the limit is 0 without room or rate and else at least each of the two; without conditions. -/
import Derived.Test.YtgaopepomfjjbaaPSoftTurnsx1
import Derived.Lib.Mul64
import Derived.Laws.Bits64b
import Derived.OpenShut
namespace Go.Proofs.Ytgaopepomfjjbaa.Pure
open Go Go.RowKit Go.Proofs.Ytgaopepomfjjbaa.PSoftTurns Go.Proofs.YtgaopepomfjjbaaW.PrintWords Go.Proofs.YtgaopepomfjjbaaW.PrintLast Go.Proofs.YtgaopepomfjjbaaW.PrintMore

/-- What is kept at most: the product of two numbers from 0 on, or the greatest number. -/
def lim (a b : Int) : Int := if mx 0 a * mx 0 b > 9223372036854775807 then 9223372036854775807 else mx 0 a * mx 0 b
def idl (a b : Int) : Int := mx 0 (mx 0 a - mx 0 b)

theorem mx0 (a : Int) : 0 ≤ mx 0 a ∧ a ≤ mx 0 a ∧ (mx 0 a = 0 ∨ mx 0 a = a) := by unfold mx; split <;> omega

theorem idle_eq (a b : Int) (ha : -9223372036854775808 ≤ a ∧ a ≤ 9223372036854775807) (hb : -9223372036854775808 ≤ b ∧ b ≤ 9223372036854775807) :
    soft_Idle.f a b = some (idl a b) := by
  have e : wrap64 (mx 0 a - mx 0 b) = mx 0 a - mx 0 b := by
    have := mx0 a; have := mx0 b
    unfold wrap64; omega
  simp only [soft_Idle.f, soft_none.f, Option.bind_some, e, idl]

theorem maskN (a : Nat) (ha : a < 18446744073709551616) : Go.bits .and .u64 (a : Int) 4294967295 = ((a % 4294967296 : Nat) : Int) := by
  have h := bits_and_u64_nat a 4294967295 ha (by omega)
  have e : a &&& 4294967295 = a % 4294967296 := Nat.and_two_pow_sub_one_eq_mod a 32
  rw [e] at h
  exact h
theorem divN (a : Nat) : (a : Int) / 4294967296 = ((a / 4294967296 : Nat) : Int) := by omega
theorem mulN (a b : Nat) : (a : Int) * (b : Int) = ((a * b : Nat) : Int) := (Int.natCast_mul a b).symm
theorem addN (a b : Nat) : (a : Int) + (b : Int) = ((a + b : Nat) : Int) := (Int.natCast_add a b).symm
theorem wrapN (a : Nat) (ha : a < 18446744073709551616) : IntKind.u64.wrap (a : Int) = (a : Int) := by rw [IntKind.wrap_u64]; omega
theorem wrapM (a : Nat) : IntKind.u64.wrap (a : Int) = ((a % 18446744073709551616 : Nat) : Int) := by rw [IntKind.wrap_u64]; omega

theorem mul_eq (x y : Nat) (hx : x < 18446744073709551616) (hy : y < 18446744073709551616) :
    bits_Mul64.f x y = some (((x * y / 18446744073709551616 : Nat) : Int), ((x * y % 18446744073709551616 : Nat) : Int)) := by
  obtain ⟨bd, bt, bw, hhi⟩ := Lib.mul64_hi x y hx hy
  have ba := Lib.half_mul_le (a := x / 4294967296) (b := y / 4294967296) (by omega) (by omega)
  have bb := Lib.half_mul_le (a := x / 4294967296) (b := y % 4294967296) (by omega) (by omega)
  have bc := Lib.half_mul_le (a := x % 4294967296) (b := y / 4294967296) (by omega) (by omega)
  have ba' : x / 4294967296 * (y / 4294967296) < 18446744073709551616 := by omega
  have bb' : x / 4294967296 * (y % 4294967296) < 18446744073709551616 := by omega
  have bc' : x % 4294967296 * (y / 4294967296) < 18446744073709551616 := by omega
  have bh1 : x / 4294967296 * (y / 4294967296) + (x / 4294967296 * (y % 4294967296) + x % 4294967296 * (y % 4294967296) / 4294967296) / 4294967296 < 18446744073709551616 := by omega
  have bh : x / 4294967296 * (y / 4294967296) + (x / 4294967296 * (y % 4294967296) + x % 4294967296 * (y % 4294967296) / 4294967296) / 4294967296 + ((x / 4294967296 * (y % 4294967296) + x % 4294967296 * (y % 4294967296) / 4294967296) % 4294967296 + x % 4294967296 * (y / 4294967296)) / 4294967296 < 18446744073709551616 := by omega
  unfold bits_Mul64.f
  simp only [maskN x hx, maskN y hy, divN, mulN, addN, wrapN _ bd, wrapN _ bb', wrapN _ bt, maskN _ bt, wrapN _ bc', wrapN _ bw, wrapN _ ba', wrapN _ bh1, wrapN _ bh, wrapM (x * y)]
  rw [hhi]

theorem limit_eq (a b : Int) (ha : a ≤ 9223372036854775807) (hb : b ≤ 9223372036854775807) : soft_Limit.f a b = some (lim a b) := by
  have h1 := mx0 a; have h2 := mx0 b
  unfold soft_Limit.f soft_none.f lim
  generalize mx 0 a = p at *
  generalize mx 0 b = q at *
  obtain ⟨x, rfl⟩ := Int.eq_ofNat_of_zero_le h1.1
  obtain ⟨y, rfl⟩ := Int.eq_ofNat_of_zero_le h2.1
  simp only [Option.bind_some]
  rw [wrapN x (by omega), wrapN y (by omega), mul_eq x y (by omega) (by omega)]
  simp only [Option.bind_some, mulN]
  generalize x * y = z
  by_cases g : z > 9223372036854775807
  · rw [if_pos (show ((z : Nat) : Int) > 9223372036854775807 by omega)]
    by_cases g2 : ((z / 18446744073709551616 : Nat) : Int) > 0
    · rw [if_pos g2]
    · rw [if_neg g2, if_pos (by omega)]
  · rw [if_neg (by omega), if_neg (by omega), if_neg (by omega)]
    congr 1
    unfold wrap64; omega

theorem keep_eq (a b c d : Int) (ha : -9223372036854775808 ≤ a ∧ a ≤ 9223372036854775807) (hb : -9223372036854775808 ≤ b ∧ b ≤ 9223372036854775807)
    (hc : c ≤ 9223372036854775807) (hd : d ≤ 9223372036854775807) : soft_Keep.f a b c d = some (decide (idl a b ≤ lim c d)) := by
  unfold soft_Keep.f
  rw [idle_eq a b ha hb, limit_eq c d hc hd]; rfl

theorem awake_eq : gloaminglaw14_awake.f = some true := by
  unfold gloaminglaw14_awake.f
  rw [limit_eq _ _ (by omega) (by omega), idle_eq _ _ (by omega) (by omega), keep_eq _ _ _ _ (by omega) (by omega) (by omega) (by omega)]
  decide

theorem lim_pos (a b : Int) (ha : a ≤ 9223372036854775807) (hb : b ≤ 9223372036854775807) :
    0 ≤ lim a b ∧ lim a b ≤ 9223372036854775807 ∧ ((a ≤ 0 ∨ b ≤ 0) → lim a b = 0) ∧ (0 < a → 0 < b → a ≤ lim a b ∧ b ≤ lim a b) := by
  have h1 := mx0 a; have h2 := mx0 b
  have hp : 0 ≤ mx 0 a * mx 0 b := Int.mul_nonneg h1.1 h2.1
  refine ⟨?_, ?_, ?_, ?_⟩
  · unfold lim; split <;> omega
  · unfold lim; split <;> omega
  · intro h
    have : mx 0 a * mx 0 b = 0 := by
      rcases h with h | h
      · rw [show mx 0 a = 0 by omega, Int.zero_mul]
      · rw [show mx 0 b = 0 by omega, Int.mul_zero]
    unfold lim; rw [this]; decide
  · intro ga gb
    rw [show lim a b = if a * b > 9223372036854775807 then 9223372036854775807 else a * b by unfold lim; rw [show mx 0 a = a by omega, show mx 0 b = b by omega]]
    have t1 : a * 1 ≤ a * b := Int.mul_le_mul_of_nonneg_left (by omega) (by omega)
    have t2 : 1 * b ≤ a * b := Int.mul_le_mul_of_nonneg_right (by omega) (by omega)
    rw [Int.mul_one] at t1; rw [Int.one_mul] at t2
    split <;> omega

set_option maxHeartbeats 4000000 in
theorem SoftTurns : gloaminglaw14_SoftTurns.Pure := by
  intro a b c d ha hb hc hd
  have ha := bounds_i64 ha
  have hb := bounds_i64 hb
  have hc := bounds_i64 hc
  have hd := bounds_i64 hd
  have l := lim_pos c d hc.2 hd.2
  have i : idl a b = if mx a 0 > mx b 0 then mx a 0 - mx b 0 else 0 := by
    unfold idl mx; repeat' split
    all_goals omega
  have hw : wrap64 (mx a 0 - mx b 0) = mx a 0 - mx b 0 := by
    have h : mx a 0 = mx 0 a ∧ mx b 0 = mx 0 b := by
      unfold mx; constructor <;> (repeat' split) <;> omega
    have := mx0 a; have := mx0 b
    rw [h.1, h.2]
    unfold wrap64; omega
  unfold gloaminglaw14_SoftTurns.f
  rw [idle_eq a b ha hb, limit_eq c d hc.2 hd.2, keep_eq a b c d ha hb hc.2 hd.2, awake_eq]
  simp only [Option.bind_some, hw]
  rw [i]
  simp only [beq_self_eq_true, if_true]
  generalize lim c d = L at *
  generalize mx a 0 = p at *
  generalize mx b 0 = q at *
  clear i hw
  repeat' split
  all_goals first
    | rfl
    | (exfalso; omega)
    | trace_state

end Go.Proofs.Ytgaopepomfjjbaa.Pure
