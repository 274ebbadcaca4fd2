/- Of, and the document's example. -/
import Derived.Test.YthhcajgkfolkjaaAdd
namespace Go.Proofs.Ythhcajgkfolkjaa.Fns
open Go Go.RowKit

set_option maxHeartbeats 1000000 in
theorem of_ok (w : World) {B g : Nat} {v : Value} {l : List Cl} (h : Tb w B g v l) (hB : B ≤ w.heap.size) (f : Int) (C : Nat) (A : Option Addr) (n c : Nat) (xs : List Int) (hx : Ints w C A n xs) (hC : C ≤ w.heap.size) (hn : n ≤ 100000) (hb : mayB f xs = true) (hl : l.length < 256)
    (z : Int) (hz : (l.length : Int) + 1 = z) :
    Calls Try.prog 15 #[.pointer (some ⟨g, 0, none⟩), .int .i64 f, .slice A n c] w fun e w' => e = .returned (.tuple #[.int .i64 z, .int .i64 0]) ∧
      ∃ v' u, Tb w' B g v' (l ++ [⟨f, u, xs⟩]) ∧ Frame w w' (fun k => k = g ∨ v.ownBlock = some k) := by
  have H := Lib.hid h
  have HX := Lib.hid hx
  have HZ := Lib.hid hz
  clear h hx hz
  go_enter Try.func15, Try.ntmps15
  go_wp2_with (go_at_call 8; refine (add_ok _ H.out hB f C A n c xs HX.out hC hn hb hl z HZ.out).mono ?_; rintro e w' ⟨rfl, v', u, ht, hf⟩; have HT := Lib.hid ht; have HF := Lib.hid hf; clear ht hf)
  refine bodyPost_ret (v := .tuple #[.int .i64 z, .int .i64 0]) (by simp [results, Try.results15, go_sem]) rfl ⟨rfl, _, _, HT.out, HF.out⟩
set_option maxHeartbeats 1000000 in
theorem of_bad (w : World) (g : Nat) (f : Int) (C : Nat) (A : Option Addr) (n c : Nat) (xs : List Int) (hx : Ints w C A n xs) (hC : C ≤ w.heap.size) (hn : n ≤ 100000) (hb : mayB f xs = false) :
    Calls Try.prog 15 #[.pointer (some ⟨g, 0, none⟩), .int .i64 f, .slice A n c] w fun e w' => e = .returned (.tuple #[.int .i64 0, .int .i64 1]) ∧ Below w.heap.size w w' := by
  have HX := Lib.hid hx
  clear hx
  go_enter Try.func15, Try.ntmps15
  go_wp2_with (go_at_call 8; refine (add_bad _ g f C A n c xs HX.out hC hn hb).mono ?_; rintro e w' ⟨rfl, hb⟩; have HB := Lib.hid hb; clear hb)
  refine bodyPost_ret (v := .tuple #[.int .i64 0, .int .i64 1]) (by simp [results, Try.results15, go_sem]) rfl ⟨rfl, HB.out⟩

theorem ints_one (w : World) (x : Int) : Ints (w.alloc (.cells #[.int .i64 x] 3)) (w.heap.size + 1) (some ⟨w.heap.size, 0, none⟩) 1 [x] :=
  ⟨rfl, fun _ => ⟨_, rfl, Nat.lt_succ_self _, fun j hj => by
    obtain rfl : j = 0 := by omega
    exact cell_of_row _ _ 0 _ _ _ (heap_alloc_new w _)⟩⟩
set_option maxHeartbeats 1000000 in
theorem awake_c (w : World) : Calls Try.prog 11 #[] w fun e w' => e = .returned (.bool true) ∧ Below w.heap.size w w' := by
  go_enter Try.func11, Try.ntmps11
  go_wp2_with (first
    | (go_at_call 7; refine (new_c _).mono ?_; rintro e w1 ⟨rfl, ht, hb⟩; have HT := Lib.hid ht; have HB := Lib.hid hb; have HT2 := Lib.hid (ht.below (w' := w1.alloc (.cells #[.int .i64 0] 3)) ((Below.refl _ _).alloc (Nat.le_refl _) _)); have HS := Lib.hid (show w1.heap.size + 1 ≤ (w1.alloc (.cells #[.int .i64 0] 3)).heap.size from lt_of_block (heap_alloc_new w1 _)); clear ht hb)
    | (go_at_call 15; refine (of_ok _ HT2.out (Nat.le_trans HB.out.size (Nat.le_of_succ_le HS.out)) 2 (w1.heap.size + 1) _ 1 1 [0] (ints_one w1 0) HS.out (by omega) (by decide) (by simp) 1 (by simp)).mono ?_; rintro e w2 ⟨rfl, v', u, ht, hf⟩; have HT3 := Lib.hid ht; have HF := Lib.hid hf; clear ht hf)
    | (go_at_call 9; refine (err_c _ _).mono ?_; rintro e w' ⟨rfl, rfl⟩)
    | (go_at_call 10; refine (classes_c _ HT3.out 1 (by simp)).mono ?_; rintro e w' ⟨rfl, rfl⟩))
  go_ret
  refine ⟨rfl, HB.out.trans (Below.trans ((Below.refl _ _).alloc HB.out.size _) (HF.out.below (Nat.le_trans HB.out.size (Nat.le_of_succ_le HS.out)) (fun k _ e => ?_)))⟩
  rcases e with rfl | e
  · exact Nat.le_refl _
  · cases e
end Go.Proofs.Ythhcajgkfolkjaa.Fns
