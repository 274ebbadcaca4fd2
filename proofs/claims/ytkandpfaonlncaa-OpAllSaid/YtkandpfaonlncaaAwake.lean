/- What the example awake tells, and the bytes of one operation, in plain lists. -/
import Derived.Test.YtkandpfaonlncaaSpec
namespace Go.Proofs.Ytkandpfaonlncaa.Spec
open Go Go.RowKit Go.Proofs.Ytkandpfaonlncaa.POpAll Go.Proofs.YtkandpfaonlncaaW.PrintWords Go.Proofs.YtkandpfaonlncaaW.PrintLast Go.Proofs.YtkandpfaonlncaaW.PrintMore

theorem put_size (l : List S37) : (strOfNums (put l)).size = 32 * l.length := by rw [strOfNums_size, put_len]
theorem get_of_put (l : List S37) (hl : ∀ o ∈ l, Okay o) (hx : l.length ≤ 1000) (k : Nat) (hk : l.length + 10 < k) : op_Get.f k (strOfNums (put l)) = some (l, 0) := by
  rw [get_eq _ (by rw [put_size]; omega) k (by rw [put_size]; omega), if_pos (by rw [put_size]; omega), get_put l hl]
theorem err_eq (n : Int) : gloaminglaw1_Err.f n = some n := rfl
theorem awake_eq (k : Nat) (hk : 40 ≤ k) : gloaminglaw22_awake.f k = some true := by
  unfold gloaminglaw22_awake.f
  have h1 : ∀ o ∈ [(⟨1, 2, 3, -1⟩ : S37)], Okay o := by
    intro o ho
    obtain rfl : o = ⟨1, 2, 3, -1⟩ := by simpa using ho
    unfold Okay
    dsimp only
    refine ⟨⟨by omega, by omega⟩, ⟨by omega, by omega⟩, ⟨by omega, by omega⟩, by omega, by omega⟩
  have h3 := put_size [(⟨1, 2, 3, -1⟩ : S37)]
  have h4 : (strOfNums (put ([] : List S37))).toList = ([] : List UInt8) := by rw [size_zero, put_size]; rfl
  rw [put_eq _ (by simp) k (by simp; omega)]
  simp only [Option.bind_some]
  rw [get_of_put _ h1 (by simp) k (by simp; omega)]
  simp only [Option.bind_some]
  rw [put_eq [] (by simp) k (by simp; omega)]
  simp only [Option.bind_some]
  rw [if_pos h4, if_pos (by rw [h3]; rfl), err_eq]
  rfl
end Go.Proofs.Ytkandpfaonlncaa.Spec
