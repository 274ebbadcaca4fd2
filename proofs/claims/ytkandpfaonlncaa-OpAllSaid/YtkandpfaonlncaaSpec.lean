/- What the functions of the package op, and their references, compute, in plain lists: a number's bytes, lowest first, and back; without conditions but the sizes named. -/
import Derived.Test.YtkandpfaonlncaaPOpAllx2
import Derived.Test.YtkandpfaonlncaaPOpAllx3
import Derived.Laws.Bits64b
import Derived.OpenShut
namespace Go.Proofs.Ytkandpfaonlncaa.Spec
open Go Go.RowKit Go.Proofs.Ytkandpfaonlncaa.POpAll Go.Proofs.YtkandpfaonlncaaW.PrintWords Go.Proofs.YtkandpfaonlncaaW.PrintLast Go.Proofs.YtkandpfaonlncaaW.PrintMore

/-- A number as an unsigned one. -/
def uu (n : Int) : Int := n % 18446744073709551616
def byt (n : Int) (j : Nat) : Int := uu n / 2 ^ (8 * j) % 256
def nums8 (n : Int) : List Int := [byt n 0, byt n 1, byt n 2, byt n 3, byt n 4, byt n 5, byt n 6, byt n 7]
def opB (o : S37) : List Int := nums8 o.f0 ++ (nums8 o.f1 ++ (nums8 o.f2 ++ nums8 o.f3))
def put (l : List S37) : List Int := l.flatMap opB

theorem shr_byt (n : Int) (j : Nat) (h : j < 8) : shr .u64 (IntKind.u64.wrap n) (8 * j : Nat) % 256 = byt n j := by
  unfold shr byt uu
  rw [IntKind.wrap_u64, show min ((8 * j : Nat) : Int).toNat IntKind.u64.bits = 8 * j by simp [IntKind.bits]; omega]

theorem number_step (n : Int) (acc : List Int) (j k : Nat) (hj : j < 8) (ha : acc.length < 100) : op_number.l0 (k + 1) n acc (j : Int) = op_number.l0 k n (acc ++ [byt n j]) ((j + 1 : Nat) : Int) := by
  have e1 : wrap64 (8 * (j : Int)) = ((8 * j : Nat) : Int) := by unfold wrap64; omega
  have e2 : wrap64 ((j : Int) + 1) = ((j + 1 : Nat) : Int) := by unfold wrap64; omega
  simp only [op_number.l0]
  rw [if_pos (by omega), e1, if_pos (by omega), if_pos (by omega), shr_byt n j hj, e2]
theorem number_end (n : Int) (acc : List Int) (k : Nat) : op_number.l0 (k + 1) n acc ((8 : Nat) : Int) = some acc := by
  simp only [op_number.l0]
  rw [if_neg (by omega)]
theorem number_eq (n : Int) (k : Nat) (hk : 9 ≤ k) : op_number.f k n = some (nums8 n) := by
  refine at_rounds (op_number.mono n) hk ?_
  unfold op_number.f
  rw [show (0 : Int) = ((0 : Nat) : Int) from rfl, number_step n _ 0 8 (by omega) (by simp), number_step n _ 1 7 (by omega) (by simp), number_step n _ 2 6 (by omega) (by simp), number_step n _ 3 5 (by omega) (by simp),
    number_step n _ 4 4 (by omega) (by simp), number_step n _ 5 3 (by omega) (by simp), number_step n _ 6 2 (by omega) (by simp), number_step n _ 7 1 (by omega) (by simp), number_end]
  rfl
theorem nums8_len (n : Int) : (nums8 n).length = 8 := rfl
theorem opB_len (o : S37) : (opB o).length = 32 := rfl
theorem put_len (l : List S37) : (put l).length = 32 * l.length := by
  induction l with
  | nil => rfl
  | cons o l ih => simp only [put, List.flatMap_cons, List.length_append, List.length_cons] at ih ⊢; rw [ih, opB_len]; omega
theorem put_append (l m : List S37) : put (l ++ m) = put l ++ put m := by simp [put]
theorem byt_range (n : Int) (j : Nat) : 0 ≤ byt n j ∧ byt n j < 256 := by unfold byt; omega

/-- The bytes from p on of a string, lowest first: j of them, as a number. -/
def leo (s : ByteArray) (p : Nat) : Nat → Int
  | 0 => 0
  | j + 1 => leo s p j + bt s ((p + j : Nat) : Int) * 2 ^ (8 * j)
theorem leo_range (s : ByteArray) (p : Nat) : ∀ j, 0 ≤ leo s p j ∧ leo s p j < 2 ^ (8 * j)
  | 0 => by simp [leo]
  | j + 1 => by
    obtain ⟨h0, h1⟩ := leo_range s p j
    obtain ⟨b0, b1⟩ := bt_range s ((p + j : Nat) : Int)
    have hp : (0 : Int) < 2 ^ (8 * j) := Int.pow_pos (by decide)
    have e : (2 : Int) ^ (8 * (j + 1)) = 2 ^ (8 * j) * 256 := by rw [Nat.mul_add, Int.pow_add]; rfl
    have t0 : 0 ≤ bt s ((p + j : Nat) : Int) * 2 ^ (8 * j) := Int.mul_nonneg b0 (Int.le_of_lt hp)
    have t1 : bt s ((p + j : Nat) : Int) * 2 ^ (8 * j) ≤ 255 * 2 ^ (8 * j) := Int.mul_le_mul_of_nonneg_right b1 (Int.le_of_lt hp)
    simp only [leo]
    rw [e]
    omega
theorem or_add (a b : Int) (j : Nat) (hj : j < 8) (ha0 : 0 ≤ a) (ha : a < 2 ^ (8 * j)) (hb0 : 0 ≤ b) (hb : b ≤ 255) :
    Go.bits .or .u64 a (shl .u64 (IntKind.u64.wrap b) ((8 * j : Nat) : Int)) = a + b * 2 ^ (8 * j) := by
  obtain ⟨x, rfl⟩ := Int.eq_ofNat_of_zero_le ha0
  obtain ⟨y, rfl⟩ := Int.eq_ofNat_of_zero_le hb0
  have hx : x < 2 ^ (8 * j) := by
    have : ((x : Nat) : Int) < ((2 ^ (8 * j) : Nat) : Int) := by rw [Int.natCast_pow]; exact ha
    omega
  have hp : 2 ^ (8 * j) ≤ 2 ^ 56 := Nat.pow_le_pow_right (by decide) (by omega)
  have hyp : y * 2 ^ (8 * j) ≤ 255 * 2 ^ (8 * j) := Nat.mul_le_mul_right _ (by omega)
  have hys : y * 2 ^ (8 * j) < 18446744073709551616 := by omega
  have e1 : shl .u64 (IntKind.u64.wrap (y : Int)) ((8 * j : Nat) : Int) = ((y * 2 ^ (8 * j) : Nat) : Int) := by
    unfold shl
    rw [show min ((8 * j : Nat) : Int).toNat IntKind.u64.bits = 8 * j by simp [IntKind.bits]; omega, IntKind.wrap_u64, IntKind.wrap_u64, show (y : Int) % 18446744073709551616 = y by omega]
    rw [show (y : Int) * 2 ^ (8 * j) = ((y * 2 ^ (8 * j) : Nat) : Int) by rw [Int.natCast_mul, Int.natCast_pow]; rfl]
    omega
  rw [e1, bits_or_u64_nat _ _ (by omega) hys]
  have e2 : x ||| y * 2 ^ (8 * j) = x + y * 2 ^ (8 * j) := by
    have := Nat.two_pow_add_eq_or_of_lt hx y
    rw [Nat.mul_comm, Nat.or_comm, ← this, Nat.add_comm]
  rw [e2, Int.natCast_add, Int.natCast_mul, Int.natCast_pow]
  rfl

theorem read_l0 (s : ByteArray) (hs : 8 ≤ s.size) (d : Nat) : ∀ (k j : Nat), j + d = 8 → d < k → op_read.l0 k s (leo s 0 j) j = some (wrap64 (leo s 0 8)) := by
  induction d with
  | zero =>
    intro k j hj hk
    obtain ⟨k, rfl⟩ : ∃ m, k = m + 1 := ⟨k - 1, by omega⟩
    simp only [op_read.l0]
    rw [if_neg (by omega), show j = 8 by omega]
  | succ d ih =>
    intro k j hj hk
    obtain ⟨k, rfl⟩ : ∃ m, k = m + 1 := ⟨k - 1, by omega⟩
    have e1 : wrap64 (8 * (j : Int)) = ((8 * j : Nat) : Int) := by unfold wrap64; omega
    have e2 : wrap64 ((j : Int) + 1) = ((j + 1 : Nat) : Int) := by unfold wrap64; omega
    obtain ⟨r0, r1⟩ := leo_range s 0 j
    obtain ⟨b0, b1⟩ := bt_range s (j : Int)
    simp only [op_read.l0]
    rw [if_pos (by omega), if_pos (by omega), if_pos (by omega), e1, if_pos (by omega), e2, or_add _ _ j (by omega) r0 r1 b0 b1]
    have := ih k (j + 1) (by omega) (by omega)
    simp only [leo, Nat.zero_add] at this
    exact this
theorem read_eq (s : ByteArray) (hs : 8 ≤ s.size) (k : Nat) (hk : 9 ≤ k) : op_read.f k s = some (wrap64 (leo s 0 8)) := by
  unfold op_read.f
  exact read_l0 s hs 8 k 0 (by omega) (by omega)

theorem bt_extract (s : ByteArray) (p : Nat) (hp : p ≤ s.size) (i : Nat) : bt (s.extract p s.size) (i : Int) = bt s ((p + i : Nat) : Int) := by
  unfold bt
  simp only [Int.toNat_natCast]
  by_cases h : p + i < s.size
  · rw [dif_pos (by simp [ByteArray.size_extract]; omega), dif_pos h]
    simp [ByteArray.getElem_extract]
  · rw [dif_neg (by simp [ByteArray.size_extract]; omega), dif_neg h]
theorem leo_extract (s : ByteArray) (p : Nat) (hp : p ≤ s.size) (q : Nat) : ∀ j, leo (s.extract p s.size) q j = leo s (p + q) j
  | 0 => rfl
  | j + 1 => by simp only [leo, leo_extract s p hp q j, bt_extract s p hp, Nat.add_assoc]
theorem extract_size (s : ByteArray) (p : Nat) (_hp : p ≤ s.size) : (s.extract p s.size).size = s.size - p := by simp [ByteArray.size_extract]
theorem extract_extract (s : ByteArray) (p q : Nat) (hp : p ≤ s.size) (_hq : p + q ≤ s.size) : (s.extract p s.size).extract q (s.extract p s.size).size = s.extract (p + q) s.size := by
  rw [extract_size s p hp, ByteArray.extract_extract]
  congr 1; omega

/-- The operation at a place of a string, and all of them. -/
def opAt (s : ByteArray) (p : Nat) : S37 := ⟨wrap64 (leo s p 8), wrap64 (leo s (p + 8) 8), wrap64 (leo s (p + 16) 8), wrap64 (leo s (p + 24) 8)⟩
def getFrom (s : ByteArray) (p : Nat) : Nat → List S37
  | 0 => []
  | n + 1 => opAt s p :: getFrom s (p + 32) n
def getL (s : ByteArray) : List S37 := getFrom s 0 (s.size / 32)

theorem size_zero (s : ByteArray) : s.toList = [] ↔ s.size = 0 := by
  rw [ByteArray.toList_eq, List.eq_nil_iff_length_eq_zero, Array.length_toList]
  rfl

theorem get_l0 (s : ByteArray) (d : Nat) : ∀ (k p : Nat) (acc : List S37), p + 32 * d = s.size → d + 10 < k → acc.length + d < 4398046511104 → op_Get.l0 k (s.extract p s.size) acc = some (acc ++ getFrom s p d, 0) := by
  induction d with
  | zero =>
    intro k p acc hp hk _
    obtain ⟨k, rfl⟩ : ∃ m, k = m + 1 := ⟨k - 1, by omega⟩
    simp only [op_Get.l0]
    rw [if_pos ((size_zero _).2 (by rw [extract_size s p (by omega)]; omega))]
    simp [getFrom]
  | succ d ih =>
    intro k p acc hp hk ha
    obtain ⟨k, rfl⟩ : ∃ m, k = m + 1 := ⟨k - 1, by omega⟩
    have hsz := extract_size s p (by omega)
    simp only [op_Get.l0]
    rw [if_neg (fun h => by have := (size_zero _).1 h; omega), read_eq _ (by omega) k (by omega)]
    simp only [Option.bind_some]
    rw [if_pos (by omega), extract_extract s p 8 (by omega) (by omega), read_eq _ (by rw [extract_size s (p + 8) (by omega)]; omega) k (by omega)]
    simp only [Option.bind_some]
    rw [if_pos (by omega), extract_extract s p 16 (by omega) (by omega), read_eq _ (by rw [extract_size s (p + 16) (by omega)]; omega) k (by omega)]
    simp only [Option.bind_some]
    rw [if_pos (by omega), extract_extract s p 24 (by omega) (by omega), read_eq _ (by rw [extract_size s (p + 24) (by omega)]; omega) k (by omega)]
    simp only [Option.bind_some]
    rw [if_pos (by omega), if_pos (by omega), extract_extract s p 32 (by omega) (by omega), ih k (p + 32) _ (by omega) (by omega) (by simp; omega)]
    rw [leo_extract s p (by omega), leo_extract s (p + 8) (by omega), leo_extract s (p + 16) (by omega), leo_extract s (p + 24) (by omega)]
    simp [getFrom, opAt]
theorem get_eq (s : ByteArray) (hs : s.size ≤ 1000000000) (k : Nat) (hk : s.size / 32 + 10 < k) : op_Get.f k s = if (s.size : Int) % 32 = 0 then some (getL s, 0) else some ([], 7) := by
  unfold op_Get.f
  split
  · have e : s = s.extract 0 s.size := by simp
    rw [e]
    have := get_l0 s (s.size / 32) k 0 [] (by omega) hk (by simp; omega)
    simpa [getL] using this
  · rfl

theorem put_step (acc : List Int) (xs : List S37) (n i : Int) (ns : List Int) (j k : Nat) (hn : ns.length = 4) (hj : j < 4) (hk : 9 ≤ k) (ha : acc.length < 1000000000) :
    op_Put.l1 (k + 1) acc xs n i ns (ns.length : Int) (j : Int) = op_Put.l1 k (acc ++ nums8 (rd ns (j : Int))) xs n i ns (ns.length : Int) ((j + 1 : Nat) : Int) := by
  have e2 : wrap64 ((j : Int) + 1) = ((j + 1 : Nat) : Int) := by unfold wrap64; omega
  simp only [op_Put.l1]
  rw [if_pos (by omega), if_pos (by omega), if_pos (by omega), number_eq _ k hk]
  simp only [Option.bind_some]
  rw [if_pos (by rw [nums8_len]; omega), e2]
theorem put_end (acc : List Int) (xs : List S37) (n i : Int) (ns : List Int) (k : Nat) (hn : ns.length = 4) :
    op_Put.l1 (k + 1) acc xs n i ns (ns.length : Int) ((4 : Nat) : Int) = op_Put.l0 k acc xs n (wrap64 (i + 1)) := by
  simp only [op_Put.l1]
  rw [if_neg (by omega)]
theorem rd_four (a b c d : Int) : rd [a, b, c, d] ((0 : Nat) : Int) = a ∧ rd [a, b, c, d] ((1 : Nat) : Int) = b ∧ rd [a, b, c, d] ((2 : Nat) : Int) = c ∧ rd [a, b, c, d] ((3 : Nat) : Int) = d := ⟨rfl, rfl, rfl, rfl⟩

theorem put_op0 (acc : List Int) (xs : List S37) (n : Int) (i k : Nat) (hn : n = xs.length) (hi : i < xs.length) :
    op_Put.l0 (k + 1) acc xs n (i : Int) = op_Put.l1 k acc xs n (i : Int) [(rd_T37 xs (i : Int)).f0, (rd_T37 xs (i : Int)).f1, (rd_T37 xs (i : Int)).f2, (rd_T37 xs (i : Int)).f3] (([(rd_T37 xs (i : Int)).f0, (rd_T37 xs (i : Int)).f1, (rd_T37 xs (i : Int)).f2, (rd_T37 xs (i : Int)).f3] : List Int).length : Int) ((0 : Nat) : Int) := by
  simp only [op_Put.l0]
  rw [if_pos (by omega), if_pos (by omega), if_pos (by omega)]
  rfl

theorem put_op (acc : List Int) (xs : List S37) (n : Int) (i k : Nat) (hn : n = xs.length) (hi : i < xs.length) (hk : 9 ≤ k) (ha : acc.length < 100000000) (hx : xs.length ≤ 1000000) :
    op_Put.l0 (k + 1 + 1 + 1 + 1 + 1 + 1) acc xs n (i : Int) = op_Put.l0 k (acc ++ opB (rd_T37 xs (i : Int))) xs n ((i + 1 : Nat) : Int) := by
  have e2 : wrap64 ((i : Int) + 1) = ((i + 1 : Nat) : Int) := by unfold wrap64; omega
  obtain ⟨r0, r1, r2, r3⟩ := rd_four (rd_T37 xs (i : Int)).f0 (rd_T37 xs (i : Int)).f1 (rd_T37 xs (i : Int)).f2 (rd_T37 xs (i : Int)).f3
  rw [put_op0 acc xs n i _ hn hi, put_step _ _ _ _ _ 0 _ rfl (by omega) (by omega) (by omega), put_step _ _ _ _ _ 1 _ rfl (by omega) (by omega) (by rw [List.length_append, nums8_len]; omega),
      put_step _ _ _ _ _ 2 _ rfl (by omega) (by omega) (by rw [List.length_append, List.length_append, nums8_len, nums8_len]; omega), put_step _ _ _ _ _ 3 _ rfl (by omega) (by omega) (by rw [List.length_append, List.length_append, List.length_append, nums8_len, nums8_len, nums8_len]; omega), put_end _ _ _ _ _ k rfl, r0, r1, r2, r3, e2]
  unfold opB
  simp only [List.append_assoc]

theorem put_drop (xs : List S37) (i : Nat) (h : i < xs.length) : put (xs.drop i) = opB (rd_T37 xs (i : Int)) ++ put (xs.drop (i + 1)) := by
  rw [List.drop_eq_getElem_cons h]
  unfold put rd_T37
  rw [List.flatMap_cons, Int.toNat_natCast, List.getD_eq_getElem?_getD, List.getElem?_eq_getElem h]
  rfl
theorem put_l0 (xs : List S37) (hx : xs.length ≤ 1000000) (d : Nat) : ∀ (k i : Nat) (acc : List Int), i + d = xs.length → 6 * d + 20 ≤ k → acc.length ≤ 32 * i → op_Put.l0 k acc xs (xs.length : Int) (i : Int) = some (strOfNums (acc ++ put (xs.drop i))) := by
  induction d with
  | zero =>
    intro k i acc hi hk ha
    obtain ⟨k, rfl⟩ : ∃ m, k = m + 1 := ⟨k - 1, by omega⟩
    simp only [op_Put.l0]
    rw [if_neg (by omega), List.drop_of_length_le (by omega)]
    show _ = some (strOfNums (acc ++ []))
    rw [List.append_nil]
  | succ d ih =>
    intro k i acc hi hk ha
    obtain ⟨k, rfl⟩ : ∃ m, k = m + 1 + 1 + 1 + 1 + 1 + 1 := ⟨k - 6, by omega⟩
    rw [put_op acc xs _ i k rfl (by omega) (by omega) (by omega) hx, ih k (i + 1) _ (by omega) (by omega) (by rw [List.length_append, opB_len]; omega), put_drop xs i (by omega), List.append_assoc]
theorem put_eq (xs : List S37) (hx : xs.length ≤ 1000000) (k : Nat) (hk : 6 * xs.length + 20 ≤ k) : op_Put.f k xs = some (strOfNums (put xs)) := by
  unfold op_Put.f
  have := put_l0 xs hx xs.length k 0 [] (by omega) hk (by simp)
  rw [List.drop_zero, List.nil_append] at this
  exact this

theorem pops_step (xs : List S37) (acc : List Int) (i : Int) (ns : List Int) (q j k : Nat) (hn : ns.length = 4) (hq : q < 4) (hj : j < 8) (ha : acc.length < 1000000000) :
    gloamingref20_PutOps.l2 (k + 1) xs acc i ns (q : Int) (j : Int) = gloamingref20_PutOps.l2 k xs (acc ++ [byt (rd ns (q : Int)) j]) i ns (q : Int) ((j + 1 : Nat) : Int) := by
  have e1 : wrap64 (8 * (j : Int)) = ((8 * j : Nat) : Int) := by unfold wrap64; omega
  have e2 : wrap64 ((j : Int) + 1) = ((j + 1 : Nat) : Int) := by unfold wrap64; omega
  simp only [gloamingref20_PutOps.l2]
  rw [if_pos (by omega), if_pos (by omega), if_pos (by omega), e1, if_pos (by omega), if_pos (by omega), shr_byt _ j hj, e2]
theorem pops_end (xs : List S37) (acc : List Int) (i : Int) (ns : List Int) (q k : Nat) (hq : q < 4) :
    gloamingref20_PutOps.l2 (k + 1) xs acc i ns (q : Int) ((8 : Nat) : Int) = gloamingref20_PutOps.l1 k xs acc i ns ((q + 1 : Nat) : Int) := by
  have e2 : wrap64 ((q : Int) + 1) = ((q + 1 : Nat) : Int) := by unfold wrap64; omega
  simp only [gloamingref20_PutOps.l2]
  rw [if_neg (by omega), e2]
theorem pops_num (xs : List S37) (acc : List Int) (i : Int) (ns : List Int) (q k : Nat) (hn : ns.length = 4) (hq : q < 4) (ha : acc.length < 100000000) :
    gloamingref20_PutOps.l1 (k + 1 + 1 + 1 + 1 + 1 + 1 + 1 + 1 + 1 + 1) xs acc i ns (q : Int) = gloamingref20_PutOps.l1 k xs (acc ++ nums8 (rd ns (q : Int))) i ns ((q + 1 : Nat) : Int) := by
  simp only [gloamingref20_PutOps.l1]
  rw [if_pos (by omega), show (0 : Int) = ((0 : Nat) : Int) from rfl, pops_step _ _ _ _ _ 0 (k + 1 + 1 + 1 + 1 + 1 + 1 + 1 + 1) hn hq (by omega) (by omega), pops_step _ _ _ _ _ 1 (k + 1 + 1 + 1 + 1 + 1 + 1 + 1) hn hq (by omega) (by simp; omega), pops_step _ _ _ _ _ 2 (k + 1 + 1 + 1 + 1 + 1 + 1) hn hq (by omega) (by simp; omega),
    pops_step _ _ _ _ _ 3 (k + 1 + 1 + 1 + 1 + 1) hn hq (by omega) (by simp; omega), pops_step _ _ _ _ _ 4 (k + 1 + 1 + 1 + 1) hn hq (by omega) (by simp; omega), pops_step _ _ _ _ _ 5 (k + 1 + 1 + 1) hn hq (by omega) (by simp; omega), pops_step _ _ _ _ _ 6 (k + 1 + 1) hn hq (by omega) (by simp; omega),
    pops_step _ _ _ _ _ 7 (k + 1) hn hq (by omega) (by simp; omega), pops_end _ _ _ _ _ k hq]
  simp [nums8]

theorem pops_op0 (acc : List Int) (xs : List S37) (i k : Nat) (hi : i < xs.length) :
    gloamingref20_PutOps.l0 (k + 1) xs acc (i : Int) = gloamingref20_PutOps.l1 k xs acc (i : Int) [(rd_T37 xs (i : Int)).f0, (rd_T37 xs (i : Int)).f1, (rd_T37 xs (i : Int)).f2, (rd_T37 xs (i : Int)).f3] ((0 : Nat) : Int) := by
  simp only [gloamingref20_PutOps.l0]
  rw [if_pos (by omega), if_pos (by omega)]
  rfl
theorem pops_num' (xs : List S37) (acc : List Int) (i : Int) (ns : List Int) (q k K : Nat) (hK : K = k + 10) (hn : ns.length = 4) (hq : q < 4) (ha : acc.length < 100000000) :
    gloamingref20_PutOps.l1 K xs acc i ns (q : Int) = gloamingref20_PutOps.l1 k xs (acc ++ nums8 (rd ns (q : Int))) i ns ((q + 1 : Nat) : Int) := by
  subst hK
  exact pops_num xs acc i ns q k hn hq ha
theorem pops_last (xs : List S37) (acc : List Int) (i k : Nat) (ns : List Int) (hi : i < 1000000) : gloamingref20_PutOps.l1 (k + 1) xs acc (i : Int) ns ((4 : Nat) : Int) = gloamingref20_PutOps.l0 k xs acc ((i + 1 : Nat) : Int) := by
  have e2 : wrap64 ((i : Int) + 1) = ((i + 1 : Nat) : Int) := by unfold wrap64; omega
  simp only [gloamingref20_PutOps.l1]
  rw [if_neg (by omega), e2]
theorem pops_op (acc : List Int) (xs : List S37) (i k K : Nat) (hK : K = k + 42) (hi : i < xs.length) (ha : acc.length < 10000000) (hx : xs.length ≤ 1000000) :
    gloamingref20_PutOps.l0 K xs acc (i : Int) = gloamingref20_PutOps.l0 k xs (acc ++ opB (rd_T37 xs (i : Int))) ((i + 1 : Nat) : Int) := by
  obtain ⟨r0, r1, r2, r3⟩ := rd_four (rd_T37 xs (i : Int)).f0 (rd_T37 xs (i : Int)).f1 (rd_T37 xs (i : Int)).f2 (rd_T37 xs (i : Int)).f3
  subst hK
  refine (pops_op0 acc xs i (k + 41) hi).trans ?_
  refine (pops_num' xs _ _ _ 0 (k + 31) (k + 41) (by omega) rfl (by omega) (by omega)).trans ?_
  refine (pops_num' xs _ _ _ 1 (k + 21) (k + 31) (by omega) rfl (by omega) (by rw [List.length_append, nums8_len]; omega)).trans ?_
  refine (pops_num' xs _ _ _ 2 (k + 11) (k + 21) (by omega) rfl (by omega) (by rw [List.length_append, List.length_append, nums8_len, nums8_len]; omega)).trans ?_
  refine (pops_num' xs _ _ _ 3 (k + 1) (k + 11) (by omega) rfl (by omega) (by rw [List.length_append, List.length_append, List.length_append, nums8_len, nums8_len, nums8_len]; omega)).trans ?_
  refine (pops_last xs _ i k _ (by omega)).trans ?_
  rw [r0, r1, r2, r3]
  unfold opB
  simp only [List.append_assoc]
theorem pops_l0 (xs : List S37) (hx : xs.length ≤ 200000) (d : Nat) : ∀ (k i : Nat) (acc : List Int), i + d = xs.length → 42 * d + 20 ≤ k → acc.length ≤ 32 * i → gloamingref20_PutOps.l0 k xs acc (i : Int) = some (strOfNums (acc ++ put (xs.drop i))) := by
  induction d with
  | zero =>
    intro k i acc hi hk ha
    obtain ⟨k, rfl⟩ : ∃ m, k = m + 1 := ⟨k - 1, by omega⟩
    simp only [gloamingref20_PutOps.l0]
    rw [if_neg (by omega), List.drop_of_length_le (by omega)]
    show _ = some (strOfNums (acc ++ []))
    rw [List.append_nil]
  | succ d ih =>
    intro k i acc hi hk ha
    rw [pops_op acc xs i (k - 42) k (by omega) (by omega) (by omega) (by omega), ih (k - 42) (i + 1) _ (by omega) (by omega) (by rw [List.length_append, opB_len]; omega), put_drop xs i (by omega), List.append_assoc]
theorem pops_eq (xs : List S37) (hx : xs.length ≤ 200000) (k : Nat) (hk : 42 * xs.length + 20 ≤ k) : gloamingref20_PutOps.f k xs = some (strOfNums (put xs)) := by
  unfold gloamingref20_PutOps.f
  have := pops_l0 xs hx xs.length k 0 [] (by omega) hk (by simp)
  rw [List.drop_zero, List.nil_append] at this
  exact this

theorem s37_eq (a b : S37) : (!(a.f0 == b.f0) || (!(a.f1 == b.f1) || (!(a.f2 == b.f2) || (!(a.f3 == b.f3))))) = true ↔ a ≠ b := by
  obtain ⟨a0, a1, a2, a3⟩ := a
  obtain ⟨b0, b1, b2, b3⟩ := b
  simp only [Bool.or_eq_true, Bool.not_eq_true', beq_eq_false_iff_ne, ne_eq, S37.mk.injEq]
  omega
theorem same_l0 (xs ys : List S37) (hl : xs.length = ys.length) (hx : xs.length ≤ 1000000) (d : Nat) : ∀ (k i : Nat), i + d = xs.length → d < k → ∃ r, gloamingref20_SameOps.l0 k xs ys (i : Int) = some r ∧ (r = true ↔ xs.drop i = ys.drop i) := by
  induction d with
  | zero =>
    intro k i hi hk
    obtain ⟨k, rfl⟩ : ∃ m, k = m + 1 := ⟨k - 1, by omega⟩
    simp only [gloamingref20_SameOps.l0]
    rw [if_neg (by omega), List.drop_of_length_le (by omega), List.drop_of_length_le (by omega)]
    exact ⟨true, rfl, by simp⟩
  | succ d ih =>
    intro k i hi hk
    obtain ⟨k, rfl⟩ : ∃ m, k = m + 1 := ⟨k - 1, by omega⟩
    have e2 : wrap64 ((i : Int) + 1) = ((i + 1 : Nat) : Int) := by unfold wrap64; omega
    have hlt : i < xs.length := by omega
    have hlt' : i < ys.length := by omega
    have hd : xs.drop i = rd_T37 xs (i : Int) :: xs.drop (i + 1) := by
      rw [List.drop_eq_getElem_cons hlt]; simp [rd_T37, List.getD_eq_getElem?_getD, List.getElem?_eq_getElem hlt]
    have hd' : ys.drop i = rd_T37 ys (i : Int) :: ys.drop (i + 1) := by
      rw [List.drop_eq_getElem_cons hlt']; simp [rd_T37, List.getD_eq_getElem?_getD, List.getElem?_eq_getElem hlt']
    rw [hd, hd']
    simp only [gloamingref20_SameOps.l0]
    rw [if_pos (by omega), if_pos (by omega), if_pos (by omega)]
    generalize rd_T37 xs (i : Int) = a at *
    generalize rd_T37 ys (i : Int) = b at *
    by_cases hab : a = b
    · subst hab
      rw [if_neg (fun h => (s37_eq a a).1 h rfl), e2]
      obtain ⟨r, h1, h2⟩ := ih k (i + 1) (by omega) (by omega)
      exact ⟨r, h1, h2.trans ⟨fun h => by rw [h], fun h => (List.cons.inj h).2⟩⟩
    · rw [if_pos ((s37_eq a b).2 hab)]
      exact ⟨false, rfl, ⟨(fun h => by cases h), fun h => absurd (List.cons.inj h).1 hab⟩⟩
theorem same_eq (xs ys : List S37) (hx : xs.length ≤ 1000000) (k : Nat) (hk : xs.length < k) : ∃ r, gloamingref20_SameOps.f k xs ys = some r ∧ (r = true ↔ xs = ys) := by
  unfold gloamingref20_SameOps.f
  by_cases hl : xs.length = ys.length
  · rw [if_pos (by omega)]
    simpa using same_l0 xs ys hl hx xs.length k 0 (by omega) hk
  · rw [if_neg (by omega)]
    exact ⟨false, rfl, ⟨(fun h => by cases h), fun h => absurd (congrArg List.length h) hl⟩⟩

/-! The way back: what the bytes of a list of operations say. -/
theorem bt_nums (xs : List Int) (hx : ∀ x ∈ xs, 0 ≤ x ∧ x < 256) (i : Nat) (hi : i < xs.length) : bt (strOfNums xs) (i : Int) = xs.getD i 0 := by
  unfold bt
  rw [Int.toNat_natCast, dif_pos (by rw [strOfNums_size]; exact hi)]
  have h := hx _ (List.getElem_mem hi)
  rw [List.getD_eq_getElem?_getD, List.getElem?_eq_getElem hi]
  have hi' : i < (strOfNums xs).size := by rw [strOfNums_size]; exact hi
  have e1 : (strOfNums xs).data.toList[i]? = some (UInt8.ofNat (xs[i]).toNat) := by rw [strOfNums_data, List.getElem?_map, List.getElem?_eq_getElem hi]; rfl
  have e2 : (strOfNums xs).data.toList[i]? = some ((strOfNums xs)[i]'hi') := by rw [List.getElem?_eq_getElem (by simpa using hi')]; rfl
  have e : (strOfNums xs)[i]'hi' = UInt8.ofNat (xs[i]).toNat := Option.some.inj (e2.symm.trans e1)
  rw [e]
  simp only [Option.getD_some, UInt8.toNat_ofNat']
  omega
theorem leo_bytes (n : Int) (s : ByteArray) (p : Nat) (h : ∀ j, j < 8 → bt s ((p + j : Nat) : Int) = byt n j) : leo s p 8 = uu n := by
  simp only [leo, h 0 (by omega), h 1 (by omega), h 2 (by omega), h 3 (by omega), h 4 (by omega), h 5 (by omega), h 6 (by omega), h 7 (by omega), byt]
  have h0 : 0 ≤ uu n ∧ uu n < 18446744073709551616 := by unfold uu; omega
  generalize uu n = u at *
  simp only [Nat.reduceMul, Int.reducePow]
  omega
theorem wrap_uu (n : Int) (h : -9223372036854775808 ≤ n ∧ n ≤ 9223372036854775807) : wrap64 (uu n) = n := by unfold wrap64 uu; omega
theorem opB_range (o : S37) : ∀ x ∈ opB o, 0 ≤ x ∧ x < 256 := by
  intro x hx
  simp only [opB, nums8, List.mem_append, List.mem_cons, List.not_mem_nil, or_false] at hx
  rcases hx with h | h | h | h <;> rcases h with h | h | h | h | h | h | h | h <;> subst h <;> exact byt_range _ _
theorem put_range (l : List S37) : ∀ x ∈ put l, 0 ≤ x ∧ x < 256 := by
  intro x hx
  obtain ⟨o, _, ho⟩ := List.mem_flatMap.1 hx
  exact opB_range o x ho
/-- All fields are ints. -/
def Okay (o : S37) : Prop := (-9223372036854775808 ≤ o.f0 ∧ o.f0 ≤ 9223372036854775807) ∧ (-9223372036854775808 ≤ o.f1 ∧ o.f1 ≤ 9223372036854775807) ∧ (-9223372036854775808 ≤ o.f2 ∧ o.f2 ≤ 9223372036854775807) ∧ (-9223372036854775808 ≤ o.f3 ∧ o.f3 ≤ 9223372036854775807)
theorem opB_at (o : S37) (j : Nat) (hj : j < 8) : (opB o).getD j 0 = byt o.f0 j ∧ (opB o).getD (8 + j) 0 = byt o.f1 j ∧ (opB o).getD (16 + j) 0 = byt o.f2 j ∧ (opB o).getD (24 + j) 0 = byt o.f3 j := by
  rcases (show j = 0 ∨ j = 1 ∨ j = 2 ∨ j = 3 ∨ j = 4 ∨ j = 5 ∨ j = 6 ∨ j = 7 by omega) with rfl | rfl | rfl | rfl | rfl | rfl | rfl | rfl <;> exact ⟨rfl, rfl, rfl, rfl⟩
theorem opAt_of (s : ByteArray) (p : Nat) (o : S37) (ho : Okay o) (h : ∀ j, j < 32 → bt s ((p + j : Nat) : Int) = (opB o).getD j 0) : opAt s p = o := by
  obtain ⟨h0, h1, h2, h3⟩ := ho
  have e0 := leo_bytes o.f0 s p (fun j hj => by rw [h j (by omega)]; exact (opB_at o j hj).1)
  have e1 := leo_bytes o.f1 s (p + 8) (fun j hj => by rw [Nat.add_assoc, h (8 + j) (by omega)]; exact (opB_at o j hj).2.1)
  have e2 := leo_bytes o.f2 s (p + 16) (fun j hj => by rw [Nat.add_assoc, h (16 + j) (by omega)]; exact (opB_at o j hj).2.2.1)
  have e3 := leo_bytes o.f3 s (p + 24) (fun j hj => by rw [Nat.add_assoc, h (24 + j) (by omega)]; exact (opB_at o j hj).2.2.2)
  unfold opAt
  rw [e0, e1, e2, e3, wrap_uu _ h0, wrap_uu _ h1, wrap_uu _ h2, wrap_uu _ h3]
theorem getFrom_put (pre : List Int) (hpre : ∀ x ∈ pre, 0 ≤ x ∧ x < 256) (l : List S37) (hl : ∀ o ∈ l, Okay o) : ∀ (post : List Int), (∀ x ∈ post, 0 ≤ x ∧ x < 256) → getFrom (strOfNums (pre ++ (put l ++ post))) pre.length l.length = l := by
  induction l generalizing pre with
  | nil => intro _ _; rfl
  | cons o l ih =>
    intro post hpost
    have hr := opB_range o
    have hs : put (o :: l) = opB o ++ put l := by simp only [put, List.flatMap_cons]
    have hall : ∀ x ∈ pre ++ (put (o :: l) ++ post), 0 ≤ x ∧ x < 256 := by
      intro x hx
      rcases List.mem_append.1 hx with h | h
      · exact hpre x h
      · rcases List.mem_append.1 h with h | h
        · exact put_range _ x h
        · exact hpost x h
    show opAt _ _ :: getFrom _ (pre.length + 32) l.length = _
    have h1 := opAt_of (strOfNums (pre ++ (put (o :: l) ++ post))) pre.length o (hl o List.mem_cons_self) (fun j hj => by
      rw [bt_nums _ hall _ (by simp only [List.length_append, put_len, List.length_cons]; omega), hs]
      simp only [List.getD_eq_getElem?_getD]
      rw [List.getElem?_append_right (by omega), List.append_assoc, show pre.length + j - pre.length = j by omega, List.getElem?_append_left (by rw [opB_len]; exact hj)])
    have h2 := ih (pre ++ opB o) (fun x hx => (List.mem_append.1 hx).elim (hpre x) (hr x)) (fun q hq => hl q (List.mem_cons_of_mem _ hq)) post hpost
    rw [h1]
    congr 1
    rw [show pre ++ (put (o :: l) ++ post) = (pre ++ opB o) ++ (put l ++ post) by rw [hs]; simp only [List.append_assoc]]
    rw [show pre.length + 32 = (pre ++ opB o).length by rw [List.length_append, opB_len]]
    exact h2
theorem get_put (l : List S37) (hl : ∀ o ∈ l, Okay o) : getL (strOfNums (put l)) = l := by
  unfold getL
  rw [strOfNums_size, put_len, show 32 * l.length / 32 = l.length by omega]
  have := getFrom_put [] (by simp) l hl [] (by simp)
  simpa using this
end Go.Proofs.Ytkandpfaonlncaa.Spec
