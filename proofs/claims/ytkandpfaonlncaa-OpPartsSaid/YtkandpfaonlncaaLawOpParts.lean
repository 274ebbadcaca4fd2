/- OpParts' plain law: what the printed function computes is true; and the contract that follows. -/
import Derived.Test.YtkandpfaonlncaaPOpPartsx2
import Derived.Test.YtkandpfaonlncaaOpenParts
namespace Go.Proofs.Ytkandpfaonlncaa.FnsParts
open Go Go.RowKit Go.Proofs.Ytkandpfaonlncaa.POpParts Go.Proofs.Ytkandpfaonlncaa.SpecParts Go.Proofs.YtkandpfaonlncaaW.PrintWords Go.Proofs.YtkandpfaonlncaaW.PrintLast

theorem wrap_toNat (x : BitVec 64) : IntKind.i64.wrap (x.toNat : Int) = x.toInt := by
  have h := x.isLt
  simp only [IntKind.wrap, IntKind.bits, IntKind.signed, BitVec.toInt_eq_toNat_cond]
  simp
  split <;> split <;> omega
theorem toInt_of (a : Int) (h : -9223372036854775808 ≤ a ∧ a ≤ 9223372036854775807) : (BitVec.ofInt 64 a).toInt = a := by
  rw [BitVec.toInt_ofInt]
  exact Int.bmod_eq_of_le (by omega) (by omega)
theorem xor_range (a b : Int) : -9223372036854775808 ≤ Go.bits .xor .i64 a b ∧ Go.bits .xor .i64 a b ≤ 9223372036854775807 := by
  show -9223372036854775808 ≤ IntKind.i64.wrap ((BitVec.ofInt 64 a ^^^ BitVec.ofInt 64 b).toNat : Int) ∧ IntKind.i64.wrap ((BitVec.ofInt 64 a ^^^ BitVec.ofInt 64 b).toNat : Int) ≤ 9223372036854775807
  rw [wrap_toNat]
  generalize BitVec.ofInt 64 a ^^^ BitVec.ofInt 64 b = X
  have h1 := X.le_toInt
  have h2 := X.toInt_lt
  simp at h1 h2
  omega
theorem xor_same (a b : Int) (ha : -9223372036854775808 ≤ a ∧ a ≤ 9223372036854775807) (hb : -9223372036854775808 ≤ b ∧ b ≤ 9223372036854775807) : Go.bits .xor .i64 a b = a ↔ b = 0 := by
  show IntKind.i64.wrap ((BitVec.ofInt 64 a ^^^ BitVec.ofInt 64 b).toNat : Int) = a ↔ b = 0
  rw [wrap_toNat]
  constructor
  · intro h
    have e : BitVec.ofInt 64 a ^^^ BitVec.ofInt 64 b = BitVec.ofInt 64 a := by
      have := congrArg (BitVec.ofInt 64) h
      rwa [BitVec.ofInt_toInt] at this
    have e2 : BitVec.ofInt 64 b = 0 := by
      have := congrArg (fun x => BitVec.ofInt 64 a ^^^ x) e
      simpa [← BitVec.xor_assoc] using this
    have := congrArg BitVec.toInt e2
    rw [toInt_of b hb] at this
    simpa using this
  · rintro rfl
    simp [toInt_of a ha]

theorem nums_append (xs ys : List Int) : strOfNums xs ++ strOfNums ys = strOfNums (xs ++ ys) := by
  apply ByteArray.ext
  rw [ByteArray.data_append]
  simp [strOfNums]
theorem put_inj (l m : List S37) (hl : ∀ o ∈ l, Okay o) (hm : ∀ o ∈ m, Okay o) : ((strOfNums (put l)).toList == (strOfNums (put m)).toList) = true ↔ l = m := by
  rw [beq_iff_eq]
  constructor
  · intro e
    have e1 : strOfNums (put l) = strOfNums (put m) := by
      rw [ByteArray.toList_eq, ByteArray.toList_eq] at e
      exact ByteArray.ext (Array.toList_inj.1 e)
    rw [← get_put l hl, e1, get_put m hm]
  · rintro rfl; rfl

/-- The bytes differ just where the number is changed. -/
theorem changed (l : List S37) (hl : ∀ o ∈ l, Okay o) (i : Nat) (hi : i < l.length) (x : Int) (hx : -9223372036854775808 ≤ x ∧ x ≤ 9223372036854775807) :
    (((strOfNums (put (l.set i ⟨(rd_T37 l (i : Int)).f0, (rd_T37 l (i : Int)).f1, Go.bits .xor .i64 (rd_T37 l (i : Int)).f2 x, (rd_T37 l (i : Int)).f3⟩))).toList == (strOfNums (put l)).toList) == (x == 0)) = true := by
  have er : rd_T37 l (i : Int) = l[i] := by simp [rd_T37, List.getD_eq_getElem?_getD, List.getElem?_eq_getElem hi]
  have ho := hl l[i] (List.getElem_mem hi)
  rw [er]
  obtain ⟨o0, o1, o2, o3⟩ := ho
  have hp := put_inj (l.set i ⟨l[i].f0, l[i].f1, Go.bits .xor .i64 l[i].f2 x, l[i].f3⟩) l (fun o h => by
    rcases List.mem_or_eq_of_mem_set h with h | h
    · exact hl o h
    · rw [h]; exact ⟨o0, o1, xor_range _ _, o3⟩) hl
  have hs := xor_same l[i].f2 x o2 hx
  by_cases h : x = 0
  · have e := hs.2 h
    have e2 : l.set i ⟨l[i].f0, l[i].f1, Go.bits .xor .i64 l[i].f2 x, l[i].f3⟩ = l := by
      rw [e]; exact List.set_getElem_self hi
    rw [hp.2 e2, h]; rfl
  · have : ¬ l.set i ⟨l[i].f0, l[i].f1, Go.bits .xor .i64 l[i].f2 x, l[i].f3⟩ = l := by
      intro e
      have e2 : (l.set i ⟨l[i].f0, l[i].f1, Go.bits .xor .i64 l[i].f2 x, l[i].f3⟩)[i]'(by simpa using hi) = l[i] := by simp only [e]
      rw [List.getElem_set_self] at e2
      exact h (hs.1 (congrArg S37.f2 e2))
    have hf : ((strOfNums (put (l.set i ⟨l[i].f0, l[i].f1, Go.bits .xor .i64 l[i].f2 x, l[i].f3⟩))).toList == (strOfNums (put l)).toList) = false := Bool.eq_false_iff.2 (fun h => this (hp.1 h))
    rw [hf]
    simp [h]

theorem put_one (l : List S37) (i : Nat) (hi : i < l.length) : put (l.take (i + 1)) = put (l.take i) ++ put [⟨(rd_T37 l (i : Int)).f0, (rd_T37 l (i : Int)).f1, (rd_T37 l (i : Int)).f2, (rd_T37 l (i : Int)).f3⟩] := by
  have er : rd_T37 l (i : Int) = l[i] := by simp [rd_T37, List.getD_eq_getElem?_getD, List.getElem?_eq_getElem hi]
  rw [er, List.take_succ_eq_append_getElem hi, put_append]
theorem parts_end (l : List S37) (hl : ∀ o ∈ l, Okay o) (h40 : l.length ≤ 40) (a x : Int) (ha : 0 ≤ a ∧ a ≤ 255) (hx : -9223372036854775808 ≤ x ∧ x ≤ 9223372036854775807) (k : Nat) (hk : 1000 ≤ k) : gloaminglaw22_OpParts.l0 (k + 1) l a x (strOfNums (put l)) (l.length : Int) = some true := by
  have p1 := put_eq l (by omega) k (by omega)
  have aw := awake_eq k (by omega)
  have n0 : ¬ (l.length : Int) < (l.length : Int) := by omega
  rw [gloaminglaw22_OpParts.l0, if_neg n0, p1, Option.bind_some, if_pos rfl]
  by_cases h : (l.length : Int) = 0
  · have h4 : (strOfNums (put l)).toList = ([] : List UInt8) := by rw [size_zero, put_size]; omega
    rw [if_pos h, if_pos h4, aw]; rfl
  · have t1 : ([] : List S37).length + l.length < 4398046511104 := by simp; omega
    have ew : wrap64 a = a := by unfold wrap64; omega
    obtain ⟨n, rfl⟩ := Int.eq_ofNat_of_zero_le ha.1
    have em : Int.tmod ((n : Nat) : Int) (l.length : Int) = ((n % l.length : Nat) : Int) := rfl
    have hlt : n % l.length < l.length := Nat.mod_lt _ (by omega)
    have g0 : (0 : Int) ≤ ((n % l.length : Nat) : Int) := by omega
    have g1 : ((n % l.length : Nat) : Int) < (l.length : Int) := by omega
    have hc := changed l hl (n % l.length) hlt x hx
    rw [if_neg h, Option.bind_some, if_pos t1, List.nil_append, Option.bind_some, if_neg h, ew, em, if_pos g0, if_pos g1, Int.toNat_natCast, put_eq _ (by simp; omega) k (by simp; omega), Option.bind_some, if_pos hc, aw]; rfl
theorem parts_l0 (l : List S37) (hl : ∀ o ∈ l, Okay o) (h40 : l.length ≤ 40) (a x : Int) (ha : 0 ≤ a ∧ a ≤ 255) (hx : -9223372036854775808 ≤ x ∧ x ≤ 9223372036854775807) (d : Nat) : ∀ (k i : Nat), i + d = l.length → 1100 + d ≤ k → gloaminglaw22_OpParts.l0 k l a x (strOfNums (put (l.take i))) (i : Int) = some true := by
  induction d with
  | zero =>
    intro k i hi hk
    obtain ⟨k, rfl⟩ : ∃ m, k = m + 1 := ⟨k - 1, by omega⟩
    obtain rfl : i = l.length := by omega
    rw [List.take_length]
    exact parts_end l hl h40 a x ha hx k (by omega)
  | succ d ih =>
    intro k i hi hk
    obtain ⟨k, rfl⟩ : ∃ m, k = m + 1 := ⟨k - 1, by omega⟩
    have hlt : i < l.length := by omega
    have g1 : (i : Int) < (l.length : Int) := by omega
    have g0 : (0 : Int) ≤ (i : Int) := by omega
    have e2 : wrap64 ((i : Int) + 1) = ((i + 1 : Nat) : Int) := by unfold wrap64; omega
    have hr := ih k (i + 1) (by omega) (by omega)
    rw [put_one l i hlt, ← nums_append] at hr
    have hz : (strOfNums (put (l.take i))).size + (strOfNums (put [(⟨(rd_T37 l (i : Int)).f0, (rd_T37 l (i : Int)).f1, (rd_T37 l (i : Int)).f2, (rd_T37 l (i : Int)).f3⟩ : S37)])).size ≤ 9223372036854775807 := by
      rw [put_size, put_size, List.length_take, List.length_singleton]; omega
    rw [gloaminglaw22_OpParts.l0, if_pos g1, if_pos g0, put_eq _ (by simp) k (by simp; omega), Option.bind_some, if_pos hz, e2]
    exact hr
theorem parts_f (l : List S37) (hl : ∀ o ∈ l, Okay o) (a x : Int) (ha : 0 ≤ a ∧ a ≤ 255) (hx : -9223372036854775808 ≤ x ∧ x ≤ 9223372036854775807) : gloaminglaw22_OpParts.f 2000 l a x = some true := by
  unfold gloaminglaw22_OpParts.f
  by_cases h : (l.length : Int) > 40
  · rw [if_pos h, awake_eq 2000 (by decide)]; rfl
  · rw [if_neg h]
    have h40 : l.length ≤ 40 := by omega
    exact parts_l0 l hl h40 a x ha hx l.length 2000 0 (by omega) (by omega)
theorem parts_law (A0 : Option Addr) (n0 c0 : Nat) (l0 : List S37) (a1 a2 : Int) (w : World) (h0 : OpsAt w A0 n0 l0 ∧ n0 ≤ c0 ∧ c0 ≤ maxLen ∧ ∀ o ∈ l0, Okay o) (w1 : (Lit.int .u8 a1).wf = true) (w2 : (Lit.int .i64 a2).wf = true) :
    Calls Try.prog 6 #[.slice A0 n0 c0, .int .u8 a1, .int .i64 a2] w fun e w' => e = .returned (.bool true) ∧ Below w.heap.size w w' := by
  obtain ⟨h00, h01, _, h02⟩ := h0
  obtain rfl := h00.len
  exact gloaminglaw22_OpParts.calls 2000 A0 c0 l0 a1 a2 true w h00 h01 (parts_f l0 h02 a1 a2 (bounds_u8 w1) (bounds_i64 w2))
end Go.Proofs.Ytkandpfaonlncaa.FnsParts
