/- StackOver answers true: over stays till it is reset, whatever is popped; pushed within the room again it is not over; for every byte and every int. -/
import Derived.Test.YtlnpngjdpalkdaaWalks
namespace Go.Proofs.Ytlnpngjdpalkdaa.Fns
open Go Go.RowKit

theorem awake_s (w wr : World) (h : Below w.heap.size w wr) : Calls Try.prog 8 #[] wr fun e w' => e = .returned (.bool true) ∧ Below w.heap.size w w' :=
  (awake_c wr).mono fun _ _ ⟨he, hb⟩ => ⟨he, h.trans (hb.mono h.size)⟩
theorem pop_v (w wr : World) {g : Nat} {v : Value} {l : List Int} {room : Nat} {over : Bool} (h : Sy w wr g v l room over) (hl : 0 < l.length) (y : Int) (ys : List Int) (hy : l.getD (l.length - 1) 0 = y) (hys : l.take (l.length - 1) = ys) :
    Calls Try.prog 12 #[.pointer (some ⟨g, 0, none⟩)] wr fun e w' => e = .returned (.tuple #[.int .i64 y, .bool true]) ∧ ∃ v', Sy w w' g v' ys room over := by
  subst hy; subst hys
  exact (pop_s w wr h hl).mono fun _ _ ⟨he, v', hs, _, _⟩ => ⟨he, v', hs⟩
theorem push_in (w wr : World) {g : Nat} {v : Value} {l : List Int} {room : Nat} {over : Bool} (h : Sy w wr g v l room over) (hl : l.length < room) (C : Nat) (A : Option Addr) (x : Int) (hx : Ints wr C A 1 [x]) (ys : List Int) (hys : l ++ [x] = ys) :
    Calls Try.prog 9 #[.pointer (some ⟨g, 0, none⟩), .slice A 1 1] wr fun e w' => e = .returned (.int .i64 1) ∧ ∃ v', Sy w w' g v' ys room over := by
  subst hys
  refine (push_s w wr h C A 1 1 [x] hx (Nat.le_refl _) (by simp [maxLen])).mono ?_
  rintro e w' ⟨rfl, v', hs, _, _⟩
  rw [List.take_of_length_le (by simp; omega), show decide (room - l.length < 1) = false by simp; omega, Bool.or_false] at hs
  exact ⟨by rw [show min 1 (room - l.length) = 1 by omega]; rfl, v', hs⟩
theorem push_out (w wr : World) {g : Nat} {v : Value} {l : List Int} {room : Nat} {over : Bool} (h : Sy w wr g v l room over) (hl : l.length = room) (C : Nat) (A : Option Addr) (x : Int) (hx : Ints wr C A 1 [x]) :
    Calls Try.prog 9 #[.pointer (some ⟨g, 0, none⟩), .slice A 1 1] wr fun e w' => e = .returned (.int .i64 0) ∧ ∃ v', Sy w w' g v' l room true := by
  refine (push_s w wr h C A 1 1 [x] hx (Nat.le_refl _) (by simp [maxLen])).mono ?_
  rintro e w' ⟨rfl, v', hs, _, _⟩
  rw [show room - l.length = 0 by omega, List.take_zero, List.append_nil, show (over || decide (0 < 1)) = true by simp] at hs
  exact ⟨by rw [show min 1 (room - l.length) = 0 by omega]; rfl, v', hs⟩

/-- The numbers below j. -/
def rng (j : Nat) : List Int := (List.range j).map fun (i : Nat) => (i : Int)
theorem rng_len (j : Nat) : (rng j).length = j := by simp [rng]
theorem rng_succ (j : Nat) : rng j ++ [(j : Int)] = rng (j + 1) := by simp [rng, List.range_succ]
theorem rng_last (j : Nat) (h : 0 < j) : (rng j).getD ((rng j).length - 1) 0 = (j : Int) - 1 ∧ (rng j).take ((rng j).length - 1) = rng (j - 1) := by
  obtain ⟨k, rfl⟩ : ∃ k, j = k + 1 := ⟨j - 1, by omega⟩
  rw [rng_len, ← rng_succ]
  constructor
  · rw [List.getD_eq_getElem?_getD, List.getElem?_append_right (by simp [rng_len])]
    simp [rng_len]
  · rw [List.take_append_of_le_length (by simp [rng_len])]
    rw [List.take_of_length_le (by simp [rng_len])]
    rfl
theorem snoc_last (l : List Int) (x : Int) : (l ++ [x]).getD ((l ++ [x]).length - 1) 0 = x ∧ (l ++ [x]).take ((l ++ [x]).length - 1) = l := by
  constructor
  · simp [List.getD_eq_getElem?_getD]
  · simp
attribute [local irreducible] rng

set_option maxHeartbeats 8000000 in
theorem over_law (n x : Int) (w : World) (hn : (Lit.int .u8 n).wf = true) (hx : (Lit.int .i64 x).wf = true) :
    Calls Try.prog 5 #[.int .u8 n, .int .i64 x] w fun e w' => e = .returned (.bool true) ∧ Below w.heap.size w w' := by
  obtain ⟨n0, n1⟩ := bounds_u8 hn
  obtain ⟨x0, x1⟩ := bounds_i64 hx
  clear hn hx
  obtain ⟨k, hk⟩ : ∃ k : Nat, (k : Int) = 1 + n % 30 := ⟨(1 + n % 30).toNat, by omega⟩
  have k1 : 1 ≤ k := by omega
  have k2 : k ≤ 30 := by omega
  have HK := Lib.hid hk
  have RL := Lib.hid rng_len
  have RS := Lib.hid rng_succ
  have RT := Lib.hid (rng_last k (by omega))
  clear hk
  go_enter Try.func5, Try.ntmps5
  go_wp2_with fail
  rw [← HK.out]
  refine (new_n k w w (Below.refl _ _) (by omega) (by omega)).mono ?_
  rintro e w1 ⟨rfl, h1⟩
  have H1 := Lib.hid h1
  clear h1
  go_wp2_with (first | (go_at_call 7; refine (err_c _ _).mono ?_; rintro e w' ⟨rfl, rfl⟩))
  go_loopw [8] (fun i wr => ∃ (j : Nat) (v : Value), j ≤ k ∧ i = .int .i64 j ∧ Sy w wr w.heap.size v (rng j) k false) (fun i _ => k - (intOf i).toNat)
  case atStart => exact ⟨0, _, Nat.zero_le _, rfl, by have := H1.out; rwa [show rng 0 = [] by unfold rng; rfl]⟩
  case round =>
    obtain ⟨j, v, hj, rfl, hs⟩ := hrel
    have HS := Lib.hid hs
    clear hs
    by_cases hlt : j < k
    · go_wp2_with fail
      refine (push_in w _ (HS.out.alloc _) (by rw [RL.out]; exact hlt) _ _ _ (one_cell _ _ _ (by simp)) _ (RS.out _)).mono ?_
      rintro e w2 ⟨rfl, v2, hs⟩
      have HS2 := Lib.hid hs
      clear hs
      go_wp2_with (first | (go_at_call 10; refine (over_c _ HS2.out.st).mono ?_; rintro e w' ⟨rfl, rfl⟩))
      go_roundw
      case rel => exact ⟨j + 1, v2, by omega, by go_num, HS2.out⟩
      case measure => simp [intOf]; omega
    · obtain rfl : j = k := by omega
      go_wp2_with fail
      refine (push_out w _ (HS.out.alloc _) (by rw [RL.out]) _ _ _ (one_cell _ _ _ (by simp))).mono ?_
      rintro e w2 ⟨rfl, v2, hs⟩
      have HS2 := Lib.hid hs
      clear hs
      go_wp2_with (first | (go_at_call 10; refine (over_c _ HS2.out.st).mono ?_; rintro e w' ⟨rfl, rfl⟩))
      refine (pop_v w _ HS2.out (by rw [RL.out]; omega) _ _ RT.out.1 RT.out.2).mono ?_
      rintro e w3 ⟨rfl, v3, hs⟩
      have HS3 := Lib.hid hs
      clear hs
      go_wp2_with (first | (go_at_call 10; refine (over_c _ HS3.out.st).mono ?_; rintro e w' ⟨rfl, rfl⟩))
      refine (reset_s w _ HS3.out).mono ?_
      rintro e w4 ⟨rfl, hs, _⟩
      have HS4 := Lib.hid hs
      clear hs
      go_wp2_with fail
      refine (push_in w _ (HS4.out.alloc _) (by rw [RL.out]; omega) _ _ _ (one_cell _ _ _ (by simp)) _ rfl).mono ?_
      rintro e w5 ⟨rfl, v5, hs⟩
      have HS5 := Lib.hid hs
      clear hs
      go_wp2_with fail
      have SL := Lib.hid (snoc_last (rng (j - 1)) x)
      refine (pop_v w _ HS5.out (by simp) _ _ SL.out.1 SL.out.2).mono ?_
      rintro e w6 ⟨rfl, v6, hs⟩
      have HS6 := Lib.hid hs
      clear hs
      have e1 : ((rng (j - 1)).length : Int) = (j : Int) - 1 := by rw [RL.out]; omega
      have E1 := Lib.hid e1
      clear e1
      rcases (show x ≤ 0 ∨ (0 < x ∧ x < 4097) ∨ 4097 ≤ x by omega) with h | ⟨h, h'⟩ | h
      all_goals
        go_wp2_with (first | (go_at_call 6; refine (new_bad _ _ (by omega)).mono ?_; rintro e w' ⟨rfl, rfl⟩) | (go_at_call 7; refine (err_c _ _).mono ?_; rintro e w' ⟨rfl, rfl⟩) | (go_at_call 10; refine (over_c _ HS6.out.st).mono ?_; rintro e w' ⟨rfl, rfl⟩) | (go_at_call 11; refine (depth_c _ HS6.out.st).mono ?_; rintro e w' ⟨rfl, rfl⟩; rw [E1.out]) | (go_at_call 8; refine (awake_s w _ HS6.out.old).mono ?_; rintro e w' ⟨rfl, hb⟩; have HB := Lib.hid hb; clear hb))
        go_ret
        exact ⟨rfl, HB.out⟩
end Go.Proofs.Ytlnpngjdpalkdaa.Fns
