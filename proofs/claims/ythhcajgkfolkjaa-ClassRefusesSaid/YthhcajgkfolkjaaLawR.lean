/- ClassRefuses: the walk. -/
import Derived.Test.YthhcajgkfolkjaaAwake
namespace Go.Proofs.Ythhcajgkfolkjaa.Fns
open Go Go.RowKit

/-- The world behind the making of the seven classes. -/
def W6 (w1 : World) (k : Int) (cs : Array Value) : World :=
  (((((w1.alloc (.cells #[.int .i64 1, .int .i64 1] 3)).alloc (.cells #[.int .i64 1, .int .i64 0] 3)).alloc (.cells #[.int .i64 (-1)] 3)).alloc (.cells #[.int .i64 k] 3)).alloc (.cells #[.int .i64 0] 3)).alloc (.cells cs 26)
theorem W6.size (w1 : World) (k : Int) (cs : Array Value) : (W6 w1 k cs).heap.size = w1.heap.size + 6 := by simp [W6]
theorem W6.below (w1 : World) (k : Int) (cs : Array Value) : Below w1.heap.size w1 (W6 w1 k cs) :=
  ((((((Below.refl _ _).alloc (Nat.le_refl _) _).alloc (by simp) _).alloc (by simp; omega) _).alloc (by simp; omega) _).alloc (by simp; omega) _).alloc (by simp; omega) _
theorem W6.at (w1 : World) (k : Int) (cs : Array Value) : (W6 w1 k cs).heap[w1.heap.size]? = some (.cells #[.int .i64 1, .int .i64 1] 3) ∧ (W6 w1 k cs).heap[w1.heap.size + 1]? = some (.cells #[.int .i64 1, .int .i64 0] 3) ∧
    (W6 w1 k cs).heap[w1.heap.size + 1 + 1]? = some (.cells #[.int .i64 (-1)] 3) ∧ (W6 w1 k cs).heap[w1.heap.size + 1 + 1 + 1]? = some (.cells #[.int .i64 k] 3) ∧ (W6 w1 k cs).heap[w1.heap.size + 1 + 1 + 1 + 1]? = some (.cells #[.int .i64 0] 3) := by
  have z1 : (w1.alloc (.cells #[.int .i64 1, .int .i64 1] 3)).heap.size = w1.heap.size + 1 := by simp
  have z2 : ((w1.alloc (.cells #[.int .i64 1, .int .i64 1] 3)).alloc (.cells #[.int .i64 1, .int .i64 0] 3)).heap.size = w1.heap.size + 1 + 1 := by simp
  have z3 : (((w1.alloc (.cells #[.int .i64 1, .int .i64 1] 3)).alloc (.cells #[.int .i64 1, .int .i64 0] 3)).alloc (.cells #[.int .i64 (-1)] 3)).heap.size = w1.heap.size + 1 + 1 + 1 := by simp
  have z4 : ((((w1.alloc (.cells #[.int .i64 1, .int .i64 1] 3)).alloc (.cells #[.int .i64 1, .int .i64 0] 3)).alloc (.cells #[.int .i64 (-1)] 3)).alloc (.cells #[.int .i64 k] 3)).heap.size = w1.heap.size + 1 + 1 + 1 + 1 := by simp
  have z5 : (((((w1.alloc (.cells #[.int .i64 1, .int .i64 1] 3)).alloc (.cells #[.int .i64 1, .int .i64 0] 3)).alloc (.cells #[.int .i64 (-1)] 3)).alloc (.cells #[.int .i64 k] 3)).alloc (.cells #[.int .i64 0] 3)).heap.size = w1.heap.size + 1 + 1 + 1 + 1 + 1 := by simp
  unfold W6
  refine ⟨?_, ?_, ?_, ?_, ?_⟩
  · rw [Below.heap_alloc _ _ _ (by omega), Below.heap_alloc _ _ _ (by omega), Below.heap_alloc _ _ _ (by omega), Below.heap_alloc _ _ _ (by omega), Below.heap_alloc _ _ _ (by omega), heap_alloc_new]
  · rw [Below.heap_alloc _ _ _ (by omega), Below.heap_alloc _ _ _ (by omega), Below.heap_alloc _ _ _ (by omega), Below.heap_alloc _ _ _ (by omega), ← z1, heap_alloc_new]
  · rw [Below.heap_alloc _ _ _ (by omega), Below.heap_alloc _ _ _ (by omega), Below.heap_alloc _ _ _ (by omega), ← z2, heap_alloc_new]
  · rw [Below.heap_alloc _ _ _ (by omega), Below.heap_alloc _ _ _ (by omega), ← z3, heap_alloc_new]
  · rw [Below.heap_alloc _ _ _ (by omega), ← z4, heap_alloc_new]
theorem fin_below {w w1 w2 w3 w4 w5 : World} {o : Obj} (h1 : Below w.heap.size w w1) (h2 : Below w1.heap.size w1 w2) (h3 : Below w2.heap.size w2 w3) (h4 : Frame (w3.alloc o) w4 (fun k => k = w.heap.size ∨ Value.ownBlock (.slice none 0 0) = some k)) (h5 : Below w4.heap.size w4 w5) : Below w.heap.size w w5 := by
  have a1 := h1.size
  have a2 := h2.size
  have a3 := h3.size
  have b3 : Below w.heap.size w (w3.alloc o) := ((h1.trans (h2.mono a1)).trans (h3.mono (by omega))).alloc (by omega) _
  have b4 : Below w.heap.size (w3.alloc o) w4 := h4.below (by have := b3.size; omega) (fun k _ e => by
    rcases e with rfl | e
    · exact Nat.le_refl _
    · cases e)
  exact (b3.trans b4).trans (h5.mono (by have := b3.size; have := b4.size; omega))
theorem ints_1 {w : World} {g : Nat} {a : Int} (h : w.heap[g]? = some (.cells #[.int .i64 a] 3 (0, 0))) : Ints w w.heap.size (some ⟨g, 0, none⟩) 1 [a] :=
  ⟨rfl, fun _ => ⟨_, rfl, lt_of_block h, fun j hj => by
    obtain rfl : j = 0 := by omega
    exact cell_of_row _ _ 0 _ _ _ h⟩⟩
theorem add1 (g j : Nat) (h : 0 < j) : (⟨g, 0, none⟩ : Addr).add j = ⟨g, j, none⟩ := by
  unfold Addr.add
  split
  · rename_i e; omega
  · simp
theorem ints_2 {w : World} {g : Nat} {a b : Int} (h : w.heap[g]? = some (.cells #[.int .i64 a, .int .i64 b] 3 (0, 0))) : Ints w w.heap.size (some ⟨g, 0, none⟩) 2 [a, b] :=
  ⟨rfl, fun _ => ⟨_, rfl, lt_of_block h, fun j hj => by
    rcases (show j = 0 ∨ j = 1 by omega) with rfl | rfl
    · exact cell_of_row _ _ 0 _ _ _ h
    · rw [add1 _ _ (by omega)]; exact cell_of_row _ _ 1 _ _ _ h⟩⟩

set_option maxRecDepth 100000 in
set_option maxHeartbeats 8000000 in
theorem refuses_0 (n x m : Int) (w : World) (n0 : 0 ≤ n) (n1 : n ≤ 255) (x0 : -9223372036854775808 ≤ x) (x1 : x ≤ 9223372036854775807) (m0 : 0 ≤ m) (m1 : m ≤ 255) (hr : m % 7 = 0) :
    Calls Try.prog 3 #[.int .u8 n, .int .i64 x, .int .u8 m] w fun e w' => e = .returned (.bool true) ∧ Below w.heap.size w w' := by
  go_enter Try.func3, Try.ntmps3
  go_wp2_with (first
    | (go_at_call 7; refine (new_c _).mono ?_; rintro e w1 ⟨rfl, ht, hb⟩; have HT := Lib.hid ht; have HB := Lib.hid hb; clear ht hb)
    | (go_at_call 9; refine (err_c _ _).mono ?_; rintro e w' ⟨rfl, rfl⟩)
    | (go_at_call 11; refine (awake_c _).mono ?_; rintro e w5 ⟨rfl, hb⟩; have HB5 := Lib.hid hb; clear hb)
    | (go_at_call 10; refine (classes_c _ HT4.out 1 (by simp)).mono ?_; rintro e w' ⟨rfl, rfl⟩)
    | (go_at_call 8; refine (add_ok _ HT3.out HS3.out 1023 _ (some ⟨w3.heap.size, 0, none⟩) 2 2 [0, 1022] (by exact I3.out) (by exact HL3.out) (by omega) (by decide) (by simp) 1 (by simp)).mono ?_; rintro e w4 ⟨rfl, v4, u4, ht, hf⟩; have HT4 := Lib.hid ht; have HF4 := Lib.hid hf; clear ht hf)
    | (go_at_call 8; refine (add_bad (W6 w1 (2 + n % 100) _) w.heap.size _ (W6 w1 (2 + n % 100) _).heap.size none 0 0 [] (by exact Ints.nil _ _ _) (Nat.le_refl _) (by omega) (by simp [mayB, rise] <;> omega)).mono ?_; rintro e w3 ⟨rfl, hb⟩; have HB3 := Lib.hid hb
       have HT3 := Lib.hid (((HT.out.below (W6.below w1 _ _)).below hb).below (w' := w3.alloc (.cells #[.int .i64 0, .int .i64 1022] 3)) ((Below.refl _ _).alloc (Nat.le_refl _) _))
       have HS3 := Lib.hid (show w.heap.size ≤ (w3.alloc (.cells #[.int .i64 0, .int .i64 1022] 3)).heap.size from Nat.le_trans HB.out.size (Nat.le_trans (W6.below w1 _ _).size (Nat.le_trans hb.size (by simp))))
       have I3 := Lib.hid (ints_2 (heap_alloc_new w3 (.cells #[.int .i64 0, .int .i64 1022] 3)))
       have HL3 := Lib.hid (Nat.le_refl (w3.alloc (.cells #[.int .i64 0, .int .i64 1022] 3)).heap.size)
       clear hb))
  all_goals
    go_ret
    exact ⟨rfl, fin_below HB.out (W6.below w1 _ _) HB3.out HF4.out HB5.out⟩

set_option maxRecDepth 100000 in
set_option maxHeartbeats 8000000 in
theorem refuses_1 (n x m : Int) (w : World) (n0 : 0 ≤ n) (n1 : n ≤ 255) (x0 : -9223372036854775808 ≤ x) (x1 : x ≤ 9223372036854775807) (m0 : 0 ≤ m) (m1 : m ≤ 255) (hr : m % 7 = 1) :
    Calls Try.prog 3 #[.int .u8 n, .int .i64 x, .int .u8 m] w fun e w' => e = .returned (.bool true) ∧ Below w.heap.size w w' := by
  go_enter Try.func3, Try.ntmps3
  go_wp2_with (first
    | (go_at_call 7; refine (new_c _).mono ?_; rintro e w1 ⟨rfl, ht, hb⟩; have HT := Lib.hid ht; have HB := Lib.hid hb; clear ht hb)
    | (go_at_call 9; refine (err_c _ _).mono ?_; rintro e w' ⟨rfl, rfl⟩)
    | (go_at_call 11; refine (awake_c _).mono ?_; rintro e w5 ⟨rfl, hb⟩; have HB5 := Lib.hid hb; clear hb)
    | (go_at_call 10; refine (classes_c _ HT4.out 1 (by simp)).mono ?_; rintro e w' ⟨rfl, rfl⟩)
    | (go_at_call 8; refine (add_ok _ HT3.out HS3.out 1023 _ (some ⟨w3.heap.size, 0, none⟩) 2 2 [0, 1022] (by exact I3.out) (by exact HL3.out) (by omega) (by decide) (by simp) 1 (by simp)).mono ?_; rintro e w4 ⟨rfl, v4, u4, ht, hf⟩; have HT4 := Lib.hid ht; have HF4 := Lib.hid hf; clear ht hf)
    | (go_at_call 8; refine (add_bad (W6 w1 (2 + n % 100) _) w.heap.size _ (W6 w1 (2 + n % 100) _).heap.size none 0 0 [] (by exact Ints.nil _ _ _) (Nat.le_refl _) (by omega) (by simp [mayB, rise] <;> omega)).mono ?_; rintro e w3 ⟨rfl, hb⟩; have HB3 := Lib.hid hb
       have HT3 := Lib.hid (((HT.out.below (W6.below w1 _ _)).below hb).below (w' := w3.alloc (.cells #[.int .i64 0, .int .i64 1022] 3)) ((Below.refl _ _).alloc (Nat.le_refl _) _))
       have HS3 := Lib.hid (show w.heap.size ≤ (w3.alloc (.cells #[.int .i64 0, .int .i64 1022] 3)).heap.size from Nat.le_trans HB.out.size (Nat.le_trans (W6.below w1 _ _).size (Nat.le_trans hb.size (by simp))))
       have I3 := Lib.hid (ints_2 (heap_alloc_new w3 (.cells #[.int .i64 0, .int .i64 1022] 3)))
       have HL3 := Lib.hid (Nat.le_refl (w3.alloc (.cells #[.int .i64 0, .int .i64 1022] 3)).heap.size)
       clear hb))
  all_goals
    go_ret
    exact ⟨rfl, fin_below HB.out (W6.below w1 _ _) HB3.out HF4.out HB5.out⟩

set_option maxRecDepth 100000 in
set_option maxHeartbeats 8000000 in
theorem refuses_2 (n x m : Int) (w : World) (n0 : 0 ≤ n) (n1 : n ≤ 255) (x0 : -9223372036854775808 ≤ x) (x1 : x ≤ 9223372036854775807) (m0 : 0 ≤ m) (m1 : m ≤ 255) (hr : m % 7 = 2) :
    Calls Try.prog 3 #[.int .u8 n, .int .i64 x, .int .u8 m] w fun e w' => e = .returned (.bool true) ∧ Below w.heap.size w w' := by
  go_enter Try.func3, Try.ntmps3
  go_wp2_with (first
    | (go_at_call 7; refine (new_c _).mono ?_; rintro e w1 ⟨rfl, ht, hb⟩; have HT := Lib.hid ht; have HB := Lib.hid hb; clear ht hb)
    | (go_at_call 9; refine (err_c _ _).mono ?_; rintro e w' ⟨rfl, rfl⟩)
    | (go_at_call 11; refine (awake_c _).mono ?_; rintro e w5 ⟨rfl, hb⟩; have HB5 := Lib.hid hb; clear hb)
    | (go_at_call 10; refine (classes_c _ HT4.out 1 (by simp)).mono ?_; rintro e w' ⟨rfl, rfl⟩)
    | (go_at_call 8; refine (add_ok _ HT3.out HS3.out 1023 _ (some ⟨w3.heap.size, 0, none⟩) 2 2 [0, 1022] (by exact I3.out) (by exact HL3.out) (by omega) (by decide) (by simp) 1 (by simp)).mono ?_; rintro e w4 ⟨rfl, v4, u4, ht, hf⟩; have HT4 := Lib.hid ht; have HF4 := Lib.hid hf; clear ht hf)
    | (go_at_call 8; refine (add_bad (W6 w1 (2 + n % 100) _) w.heap.size _ (W6 w1 (2 + n % 100) _).heap.size (some ⟨w1.heap.size, 0, none⟩) 2 2 [1, 1] (by exact ints_2 (W6.at w1 _ _).1) (Nat.le_refl _) (by omega) (by simp [mayB, rise] <;> omega)).mono ?_; rintro e w3 ⟨rfl, hb⟩; have HB3 := Lib.hid hb
       have HT3 := Lib.hid (((HT.out.below (W6.below w1 _ _)).below hb).below (w' := w3.alloc (.cells #[.int .i64 0, .int .i64 1022] 3)) ((Below.refl _ _).alloc (Nat.le_refl _) _))
       have HS3 := Lib.hid (show w.heap.size ≤ (w3.alloc (.cells #[.int .i64 0, .int .i64 1022] 3)).heap.size from Nat.le_trans HB.out.size (Nat.le_trans (W6.below w1 _ _).size (Nat.le_trans hb.size (by simp))))
       have I3 := Lib.hid (ints_2 (heap_alloc_new w3 (.cells #[.int .i64 0, .int .i64 1022] 3)))
       have HL3 := Lib.hid (Nat.le_refl (w3.alloc (.cells #[.int .i64 0, .int .i64 1022] 3)).heap.size)
       clear hb))
  all_goals
    go_ret
    exact ⟨rfl, fin_below HB.out (W6.below w1 _ _) HB3.out HF4.out HB5.out⟩

set_option maxRecDepth 100000 in
set_option maxHeartbeats 8000000 in
theorem refuses_3 (n x m : Int) (w : World) (n0 : 0 ≤ n) (n1 : n ≤ 255) (x0 : -9223372036854775808 ≤ x) (x1 : x ≤ 9223372036854775807) (m0 : 0 ≤ m) (m1 : m ≤ 255) (hr : m % 7 = 3) :
    Calls Try.prog 3 #[.int .u8 n, .int .i64 x, .int .u8 m] w fun e w' => e = .returned (.bool true) ∧ Below w.heap.size w w' := by
  go_enter Try.func3, Try.ntmps3
  go_wp2_with (first
    | (go_at_call 7; refine (new_c _).mono ?_; rintro e w1 ⟨rfl, ht, hb⟩; have HT := Lib.hid ht; have HB := Lib.hid hb; clear ht hb)
    | (go_at_call 9; refine (err_c _ _).mono ?_; rintro e w' ⟨rfl, rfl⟩)
    | (go_at_call 11; refine (awake_c _).mono ?_; rintro e w5 ⟨rfl, hb⟩; have HB5 := Lib.hid hb; clear hb)
    | (go_at_call 10; refine (classes_c _ HT4.out 1 (by simp)).mono ?_; rintro e w' ⟨rfl, rfl⟩)
    | (go_at_call 8; refine (add_ok _ HT3.out HS3.out 1023 _ (some ⟨w3.heap.size, 0, none⟩) 2 2 [0, 1022] (by exact I3.out) (by exact HL3.out) (by omega) (by decide) (by simp) 1 (by simp)).mono ?_; rintro e w4 ⟨rfl, v4, u4, ht, hf⟩; have HT4 := Lib.hid ht; have HF4 := Lib.hid hf; clear ht hf)
    | (go_at_call 8; refine (add_bad (W6 w1 (2 + n % 100) _) w.heap.size _ (W6 w1 (2 + n % 100) _).heap.size (some ⟨w1.heap.size + 1, 0, none⟩) 2 2 [1, 0] (by exact ints_2 (W6.at w1 _ _).2.1) (Nat.le_refl _) (by omega) (by simp [mayB, rise] <;> omega)).mono ?_; rintro e w3 ⟨rfl, hb⟩; have HB3 := Lib.hid hb
       have HT3 := Lib.hid (((HT.out.below (W6.below w1 _ _)).below hb).below (w' := w3.alloc (.cells #[.int .i64 0, .int .i64 1022] 3)) ((Below.refl _ _).alloc (Nat.le_refl _) _))
       have HS3 := Lib.hid (show w.heap.size ≤ (w3.alloc (.cells #[.int .i64 0, .int .i64 1022] 3)).heap.size from Nat.le_trans HB.out.size (Nat.le_trans (W6.below w1 _ _).size (Nat.le_trans hb.size (by simp))))
       have I3 := Lib.hid (ints_2 (heap_alloc_new w3 (.cells #[.int .i64 0, .int .i64 1022] 3)))
       have HL3 := Lib.hid (Nat.le_refl (w3.alloc (.cells #[.int .i64 0, .int .i64 1022] 3)).heap.size)
       clear hb))
  all_goals
    go_ret
    exact ⟨rfl, fin_below HB.out (W6.below w1 _ _) HB3.out HF4.out HB5.out⟩

set_option maxRecDepth 100000 in
set_option maxHeartbeats 8000000 in
theorem refuses_4 (n x m : Int) (w : World) (n0 : 0 ≤ n) (n1 : n ≤ 255) (x0 : -9223372036854775808 ≤ x) (x1 : x ≤ 9223372036854775807) (m0 : 0 ≤ m) (m1 : m ≤ 255) (hr : m % 7 = 4) :
    Calls Try.prog 3 #[.int .u8 n, .int .i64 x, .int .u8 m] w fun e w' => e = .returned (.bool true) ∧ Below w.heap.size w w' := by
  go_enter Try.func3, Try.ntmps3
  go_wp2_with (first
    | (go_at_call 7; refine (new_c _).mono ?_; rintro e w1 ⟨rfl, ht, hb⟩; have HT := Lib.hid ht; have HB := Lib.hid hb; clear ht hb)
    | (go_at_call 9; refine (err_c _ _).mono ?_; rintro e w' ⟨rfl, rfl⟩)
    | (go_at_call 11; refine (awake_c _).mono ?_; rintro e w5 ⟨rfl, hb⟩; have HB5 := Lib.hid hb; clear hb)
    | (go_at_call 10; refine (classes_c _ HT4.out 1 (by simp)).mono ?_; rintro e w' ⟨rfl, rfl⟩)
    | (go_at_call 8; refine (add_ok _ HT3.out HS3.out 1023 _ (some ⟨w3.heap.size, 0, none⟩) 2 2 [0, 1022] (by exact I3.out) (by exact HL3.out) (by omega) (by decide) (by simp) 1 (by simp)).mono ?_; rintro e w4 ⟨rfl, v4, u4, ht, hf⟩; have HT4 := Lib.hid ht; have HF4 := Lib.hid hf; clear ht hf)
    | (go_at_call 8; refine (add_bad (W6 w1 (2 + n % 100) _) w.heap.size _ (W6 w1 (2 + n % 100) _).heap.size (some ⟨w1.heap.size + 1 + 1, 0, none⟩) 1 1 [-1] (by exact ints_1 (W6.at w1 _ _).2.2.1) (Nat.le_refl _) (by omega) (by simp [mayB, rise] <;> omega)).mono ?_; rintro e w3 ⟨rfl, hb⟩; have HB3 := Lib.hid hb
       have HT3 := Lib.hid (((HT.out.below (W6.below w1 _ _)).below hb).below (w' := w3.alloc (.cells #[.int .i64 0, .int .i64 1022] 3)) ((Below.refl _ _).alloc (Nat.le_refl _) _))
       have HS3 := Lib.hid (show w.heap.size ≤ (w3.alloc (.cells #[.int .i64 0, .int .i64 1022] 3)).heap.size from Nat.le_trans HB.out.size (Nat.le_trans (W6.below w1 _ _).size (Nat.le_trans hb.size (by simp))))
       have I3 := Lib.hid (ints_2 (heap_alloc_new w3 (.cells #[.int .i64 0, .int .i64 1022] 3)))
       have HL3 := Lib.hid (Nat.le_refl (w3.alloc (.cells #[.int .i64 0, .int .i64 1022] 3)).heap.size)
       clear hb))
  all_goals
    go_ret
    exact ⟨rfl, fin_below HB.out (W6.below w1 _ _) HB3.out HF4.out HB5.out⟩

set_option maxRecDepth 100000 in
set_option maxHeartbeats 8000000 in
theorem refuses_5 (n x m : Int) (w : World) (n0 : 0 ≤ n) (n1 : n ≤ 255) (x0 : -9223372036854775808 ≤ x) (x1 : x ≤ 9223372036854775807) (m0 : 0 ≤ m) (m1 : m ≤ 255) (hr : m % 7 = 5) :
    Calls Try.prog 3 #[.int .u8 n, .int .i64 x, .int .u8 m] w fun e w' => e = .returned (.bool true) ∧ Below w.heap.size w w' := by
  go_enter Try.func3, Try.ntmps3
  go_wp2_with (first
    | (go_at_call 7; refine (new_c _).mono ?_; rintro e w1 ⟨rfl, ht, hb⟩; have HT := Lib.hid ht; have HB := Lib.hid hb; clear ht hb)
    | (go_at_call 9; refine (err_c _ _).mono ?_; rintro e w' ⟨rfl, rfl⟩)
    | (go_at_call 11; refine (awake_c _).mono ?_; rintro e w5 ⟨rfl, hb⟩; have HB5 := Lib.hid hb; clear hb)
    | (go_at_call 10; refine (classes_c _ HT4.out 1 (by simp)).mono ?_; rintro e w' ⟨rfl, rfl⟩)
    | (go_at_call 8; refine (add_ok _ HT3.out HS3.out 1023 _ (some ⟨w3.heap.size, 0, none⟩) 2 2 [0, 1022] (by exact I3.out) (by exact HL3.out) (by omega) (by decide) (by simp) 1 (by simp)).mono ?_; rintro e w4 ⟨rfl, v4, u4, ht, hf⟩; have HT4 := Lib.hid ht; have HF4 := Lib.hid hf; clear ht hf)
    | (go_at_call 8; refine (add_bad (W6 w1 (2 + n % 100) _) w.heap.size _ (W6 w1 (2 + n % 100) _).heap.size (some ⟨w1.heap.size + 1 + 1 + 1, 0, none⟩) 1 1 [2 + n % 100] (by exact ints_1 (W6.at w1 _ _).2.2.2.1) (Nat.le_refl _) (by omega) (by simp [mayB, rise] <;> omega)).mono ?_; rintro e w3 ⟨rfl, hb⟩; have HB3 := Lib.hid hb
       have HT3 := Lib.hid (((HT.out.below (W6.below w1 _ _)).below hb).below (w' := w3.alloc (.cells #[.int .i64 0, .int .i64 1022] 3)) ((Below.refl _ _).alloc (Nat.le_refl _) _))
       have HS3 := Lib.hid (show w.heap.size ≤ (w3.alloc (.cells #[.int .i64 0, .int .i64 1022] 3)).heap.size from Nat.le_trans HB.out.size (Nat.le_trans (W6.below w1 _ _).size (Nat.le_trans hb.size (by simp))))
       have I3 := Lib.hid (ints_2 (heap_alloc_new w3 (.cells #[.int .i64 0, .int .i64 1022] 3)))
       have HL3 := Lib.hid (Nat.le_refl (w3.alloc (.cells #[.int .i64 0, .int .i64 1022] 3)).heap.size)
       clear hb))
  all_goals
    go_ret
    exact ⟨rfl, fin_below HB.out (W6.below w1 _ _) HB3.out HF4.out HB5.out⟩

set_option maxRecDepth 100000 in
set_option maxHeartbeats 8000000 in
theorem refuses_6 (n x m : Int) (w : World) (n0 : 0 ≤ n) (n1 : n ≤ 255) (x0 : -9223372036854775808 ≤ x) (x1 : x ≤ 9223372036854775807) (m0 : 0 ≤ m) (m1 : m ≤ 255) (hr : m % 7 = 6) :
    Calls Try.prog 3 #[.int .u8 n, .int .i64 x, .int .u8 m] w fun e w' => e = .returned (.bool true) ∧ Below w.heap.size w w' := by
  go_enter Try.func3, Try.ntmps3
  go_wp2_with (first
    | (go_at_call 7; refine (new_c _).mono ?_; rintro e w1 ⟨rfl, ht, hb⟩; have HT := Lib.hid ht; have HB := Lib.hid hb; clear ht hb)
    | (go_at_call 9; refine (err_c _ _).mono ?_; rintro e w' ⟨rfl, rfl⟩)
    | (go_at_call 11; refine (awake_c _).mono ?_; rintro e w5 ⟨rfl, hb⟩; have HB5 := Lib.hid hb; clear hb)
    | (go_at_call 10; refine (classes_c _ HT4.out 1 (by simp)).mono ?_; rintro e w' ⟨rfl, rfl⟩)
    | (go_at_call 8; refine (add_ok _ HT3.out HS3.out 1023 _ (some ⟨w3.heap.size, 0, none⟩) 2 2 [0, 1022] (by exact I3.out) (by exact HL3.out) (by omega) (by decide) (by simp) 1 (by simp)).mono ?_; rintro e w4 ⟨rfl, v4, u4, ht, hf⟩; have HT4 := Lib.hid ht; have HF4 := Lib.hid hf; clear ht hf)
    | (go_at_call 8; refine (add_bad (W6 w1 (2 + n % 100) _) w.heap.size _ (W6 w1 (2 + n % 100) _).heap.size (some ⟨w1.heap.size + 1 + 1 + 1 + 1, 0, none⟩) 1 1 [0] (by exact ints_1 (W6.at w1 _ _).2.2.2.2) (Nat.le_refl _) (by omega) (by simp [mayB, rise] <;> omega)).mono ?_; rintro e w3 ⟨rfl, hb⟩; have HB3 := Lib.hid hb
       have HT3 := Lib.hid (((HT.out.below (W6.below w1 _ _)).below hb).below (w' := w3.alloc (.cells #[.int .i64 0, .int .i64 1022] 3)) ((Below.refl _ _).alloc (Nat.le_refl _) _))
       have HS3 := Lib.hid (show w.heap.size ≤ (w3.alloc (.cells #[.int .i64 0, .int .i64 1022] 3)).heap.size from Nat.le_trans HB.out.size (Nat.le_trans (W6.below w1 _ _).size (Nat.le_trans hb.size (by simp))))
       have I3 := Lib.hid (ints_2 (heap_alloc_new w3 (.cells #[.int .i64 0, .int .i64 1022] 3)))
       have HL3 := Lib.hid (Nat.le_refl (w3.alloc (.cells #[.int .i64 0, .int .i64 1022] 3)).heap.size)
       clear hb))
  all_goals
    go_ret
    exact ⟨rfl, fin_below HB.out (W6.below w1 _ _) HB3.out HF4.out HB5.out⟩

theorem refuses_law (n x m : Int) (w : World) (hn : (Lit.int .u8 n).wf = true) (hx : (Lit.int .i64 x).wf = true) (hm : (Lit.int .u8 m).wf = true) :
    Calls Try.prog 3 #[.int .u8 n, .int .i64 x, .int .u8 m] w fun e w' => e = .returned (.bool true) ∧ Below w.heap.size w w' := by
  obtain ⟨n0, n1⟩ := bounds_u8 hn
  obtain ⟨x0, x1⟩ := bounds_i64 hx
  obtain ⟨m0, m1⟩ := bounds_u8 hm
  rcases (show m % 7 = 0 ∨ m % 7 = 1 ∨ m % 7 = 2 ∨ m % 7 = 3 ∨ m % 7 = 4 ∨ m % 7 = 5 ∨ m % 7 = 6 by omega) with h | h | h | h | h | h | h
  · exact refuses_0 n x m w n0 n1 x0 x1 m0 m1 h
  · exact refuses_1 n x m w n0 n1 x0 x1 m0 m1 h
  · exact refuses_2 n x m w n0 n1 x0 x1 m0 m1 h
  · exact refuses_3 n x m w n0 n1 x0 x1 m0 m1 h
  · exact refuses_4 n x m w n0 n1 x0 x1 m0 m1 h
  · exact refuses_5 n x m w n0 n1 x0 x1 m0 m1 h
  · exact refuses_6 n x m w n0 n1 x0 x1 m0 m1 h
end Go.Proofs.Ythhcajgkfolkjaa.Fns
