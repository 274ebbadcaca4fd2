/- OpBack's plain law: what the printed function computes is true; and the contract that follows. -/
import Derived.Test.YtkandpfaonlncaaPOpBackx3
import Derived.Test.YtkandpfaonlncaaOpenBack
namespace Go.Proofs.Ytkandpfaonlncaa.FnsBack
open Go Go.RowKit Go.Proofs.Ytkandpfaonlncaa.POpBack Go.Proofs.Ytkandpfaonlncaa.SpecBack Go.Proofs.YtkandpfaonlncaaW.PrintWords Go.Proofs.YtkandpfaonlncaaW.PrintLast

theorem nums_append (xs ys : List Int) : strOfNums xs ++ strOfNums ys = strOfNums (xs ++ ys) := by
  apply ByteArray.ext
  rw [ByteArray.data_append]
  simp [strOfNums]
theorem same_self (l : List S37) (hx : l.length ≤ 1000) (k : Nat) (hk : l.length < k) : gloamingref20_SameOps.f k l l = some true := by
  obtain ⟨r, h1, h2⟩ := same_eq l l (by omega) k hk
  rw [h2.2 rfl] at h1
  exact h1
theorem get_none (s : ByteArray) (hs : s.size ≤ 64000) (k : Nat) (hk : 2100 < k) (h : (s.size : Int) % 32 ≠ 0) : op_Get.f k s = some ([], 7) := by
  rw [get_eq s (by omega) k (by omega), if_neg h]
theorem bind_pure {α : Type} (x : Option α) : (x.bind fun t => some t) = x := by cases x <;> rfl

theorem back_j1 (k : Nat) (l m : List S37) (s : ByteArray) (hs : s.size = 32 * l.length) (hl : l.length ≤ 40) (hm : m.length ≤ 40) (hk : 4000 ≤ k) : gloaminglaw22_OpBack.j1 (k + 1) l m s l (l ++ m) false = some true := by
  have hlm : (l ++ m).length ≤ 80 := by rw [List.length_append]; omega
  have t1 : ([] : List S37).length + l.length < 4398046511104 := by simp; omega
  have t2 : ([] ++ l : List S37).length + m.length < 4398046511104 := by simp; omega
  have e1 := same_self l (by omega) k (by omega)
  have e2 : gloamingref20_SameOps.f k (l ++ m) ([] ++ l ++ m) = some true := by rw [List.nil_append]; exact same_self (l ++ m) (by omega) k (by omega)
  have e3 := awake_eq k (by omega)
  have tail : ((some (([] : List S37) : List S37)).bind fun y160 => (if y160.length + l.length < 4398046511104 then ((some (y160 ++ l : List S37)).bind fun y163 => (if y163.length + m.length < 4398046511104 then ((gloamingref20_SameOps.f k (l ++ m) (y163 ++ m)).bind fun t169 => (if t169 = true then ((gloaminglaw22_awake.f k).bind fun t170 => (some t170)) else (some false))) else (none))) else (none))) = some true := by
    rw [Option.bind_some, if_pos t1, Option.bind_some, if_pos t2, e2, Option.bind_some, if_pos rfl, e3]; rfl
  rw [gloaminglaw22_OpBack.j1, if_neg (by simp)]
  by_cases h : (s.size : Int) > 0
  · have e5 : wrap64 ((s.size : Int) - 1) = ((s.size - 1 : Nat) : Int) := by unfold wrap64; omega
    have e6 : (s.extract 0 (s.size - 1)).size = s.size - 1 := by rw [ByteArray.size_extract]; omega
    have e4 := get_none (s.extract 0 (s.size - 1)) (by rw [e6]; omega) k (by omega) (by rw [e6]; omega)
    have u1 : (0 : Int) ≤ ((s.size - 1 : Nat) : Int) := by omega
    have u2 : ((s.size - 1 : Nat) : Int) ≤ (s.size : Int) := by omega
    rw [if_pos h, e5, if_pos u1, if_pos u2, Int.toNat_natCast, e4, Option.bind_some, err_eq, Option.bind_some, if_pos rfl, e1, Option.bind_some, if_pos rfl]
    exact tail
  · rw [if_neg h, e1, Option.bind_some, if_pos rfl]
    exact tail

theorem back_f (l m : List S37) (hl : ∀ o ∈ l, Okay o) (hm : ∀ o ∈ m, Okay o) : gloaminglaw22_OpBack.f 5000 l m = some true := by
  have aw : gloaminglaw22_OpBack.j0 5000 l m true = some true := by
    rw [gloaminglaw22_OpBack.j0, if_pos rfl, awake_eq _ (by decide)]; rfl
  unfold gloaminglaw22_OpBack.f
  by_cases h1 : (l.length : Int) > 40
  · rw [if_pos h1]; exact aw
  · rw [if_neg h1]
    by_cases h2 : (m.length : Int) > 40
    · rw [show decide ((m.length : Int) > 40) = true by simpa using h2]; exact aw
    · rw [show decide ((m.length : Int) > 40) = false by simpa using h2]
      have hl1 : l.length ≤ 40 := by omega
      have hm1 : m.length ≤ 40 := by omega
      have hlm : (l ++ m).length ≤ 80 := by rw [List.length_append]; omega
      have s1 := put_size l
      have s2 := put_size m
      have p1 := put_eq l (by omega) 4999 (by omega)
      have p2 := put_eq m (by omega) 4999 (by omega)
      have g1 := get_of_put l hl (by omega) 4999 (by omega)
      have g2 := get_of_put (l ++ m) (fun o h => (List.mem_append.1 h).elim (hl o) (hm o)) (by omega) 4999 (by omega)
      rw [put_append, ← nums_append] at g2
      have z3 : (strOfNums (put l) ++ (⟨#[120]⟩ : ByteArray)).size = 32 * l.length + 1 := by rw [ByteArray.size_append, s1]; rfl
      have g3 := get_none (strOfNums (put l) ++ (⟨#[120]⟩ : ByteArray)) (by rw [z3]; omega) 4999 (by decide) (by rw [z3]; omega)
      have b1 : (strOfNums (put l)).size + (strOfNums (put m)).size ≤ 9223372036854775807 := by rw [s1, s2]; omega
      have b2 : (strOfNums (put l)).size + 1 ≤ 9223372036854775807 := by rw [s1]; omega
      have b3 : (((strOfNums (put l)).size : Int) != wrap64 (32 * (l.length : Int))) = false := by
        have : wrap64 (32 * (l.length : Int)) = ((strOfNums (put l)).size : Int) := by rw [s1]; unfold wrap64; omega
        rw [this]; simp
      have b4 : wrap64 ((0 : Int) + 0) = 0 := by unfold wrap64; rfl
      have b5 := back_j1 4998 l m _ s1 hl1 hm1 (by decide)
      rw [gloaminglaw22_OpBack.j0, if_neg (by simp), p1, Option.bind_some, p2, Option.bind_some, g1, Option.bind_some, if_pos b1, g2, Option.bind_some, if_pos b2, g3, Option.bind_some, err_eq, Option.bind_some, err_eq, Option.bind_some, if_pos b4, Option.bind_some, if_pos rfl, b3]
      exact b5

theorem back_law (A0 : Option Addr) (n0 c0 : Nat) (l0 : List S37) (A1 : Option Addr) (n1 c1 : Nat) (l1 : List S37) (w : World) (h0 : OpsAt w A0 n0 l0 ∧ n0 ≤ c0 ∧ c0 ≤ maxLen ∧ ∀ o ∈ l0, Okay o) (h1 : OpsAt w A1 n1 l1 ∧ n1 ≤ c1 ∧ c1 ≤ maxLen ∧ ∀ o ∈ l1, Okay o) :
    Calls Try.prog 4 #[.slice A0 n0 c0, .slice A1 n1 c1] w fun e w' => e = .returned (.bool true) ∧ Below w.heap.size w w' := by
  obtain ⟨h00, h01, _, h02⟩ := h0
  obtain ⟨h10, h11, _, h12⟩ := h1
  obtain rfl := h00.len
  obtain rfl := h10.len
  exact gloaminglaw22_OpBack.calls 5000 A0 c0 l0 A1 c1 l1 true w h00 h01 h10 h11 (back_f l0 l1 h02 h12)
end Go.Proofs.Ytkandpfaonlncaa.FnsBack
