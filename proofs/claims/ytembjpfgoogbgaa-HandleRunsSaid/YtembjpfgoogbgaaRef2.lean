/- The reference's Hold and Drop. -/
import Derived.Test.YtembjpfgoogbgaaRef
namespace Go.Proofs.Ytembjpfgoogbgaa.Fns
open Go Go.RowKit

/-- What is told to who asks to hold; what holds then. -/
def HoldF (T A : Nat → Int) (x z e : Int) (A' : Nat → Int) : Prop :=
  (x < 1 ∧ z = 0 ∧ e = 1 ∧ A' = A) ∨ (1 ≤ x ∧ ∃ k, k < 512 ∧ (∀ i, i < k → A i ≠ 0) ∧ A k = 0 ∧ z = tell T k ∧ e = 0 ∧ A' = put A k x) ∨ (1 ≤ x ∧ (∀ i, i < 512 → A i ≠ 0) ∧ z = 0 ∧ e = 3 ∧ A' = A)
theorem first_free (A : Nat → Int) : ∀ n, (∃ k, k < n ∧ (∀ i, i < k → A i ≠ 0) ∧ A k = 0) ∨ (∀ i, i < n → A i ≠ 0)
  | 0 => .inr fun i h => absurd h (by omega)
  | n + 1 => by
    rcases first_free A n with ⟨k, h1, h2, h3⟩ | h
    · exact .inl ⟨k, by omega, h2, h3⟩
    · by_cases h0 : A n = 0
      · exact .inl ⟨n, by omega, h, h0⟩
      · exact .inr fun i hi => by
          by_cases e : i = n
          · subst e; exact h0
          · exact h i (by omega)
theorem HoldF.some (T A : Nat → Int) (x : Int) : ∃ z e A', HoldF T A x z e A' := by
  by_cases hx : x < 1
  · exact ⟨_, _, _, .inl ⟨hx, rfl, rfl, rfl⟩⟩
  · rcases first_free A 512 with ⟨k, h1, h2, h3⟩ | h
    · exact ⟨_, _, _, .inr (.inl ⟨by omega, k, h1, h2, h3, rfl, rfl, rfl⟩)⟩
    · exact ⟨_, _, _, .inr (.inr ⟨by omega, h, rfl, rfl, rfl⟩)⟩
theorem hold_f (w : World) {g : Nat} {T A A' : Nat → Int} (h : Hs w g T A) (x z e : Int) (hz : HoldF T A x z e A') :
    Calls Try.prog 12 #[.pointer (some ⟨g, 0, none⟩), .int .i64 x] w fun y w' => y = .returned (.tuple #[.int .i64 z, .int .i64 e]) ∧ Hs w' g T A' ∧ Frame w w' (fun b => b = g) := by
  rcases hz with ⟨hx, rfl, rfl, rfl⟩ | ⟨hx, k, hk, h1, h2, rfl, rfl, rfl⟩ | ⟨hx, h1, rfl, rfl, rfl⟩
  · refine (hold_bad w g x hx).mono ?_
    rintro y w' ⟨rfl, rfl⟩
    exact ⟨rfl, h, Frame.refl _ _⟩
  · exact hold_ok w h x hx k hk h1 h2 _ rfl
  · refine (hold_full w h x hx h1).mono ?_
    rintro y w' ⟨rfl, rfl⟩
    exact ⟨rfl, h, Frame.refl _ _⟩
theorem Rf.frameA {w : World} {ba j : Nat} (x : Value) : Frame w (w.setCell ⟨ba, j, none⟩ x) (fun b => b = ba) := (Frame.refl w (fun k => k = ba)).setCell (p := ⟨ba, j, none⟩) (fun _ => rfl) _

theorem got_fin (w1 : World) (k : Nat) (x y u v : Value) (hr : w1.heap[k]? = some (.cells #[x, y] 38 (0, 0))) :
    ((w1.setCell ⟨k, 0, none⟩ u).setCell ⟨k, 1, none⟩ v).cell? ⟨k, 0, none⟩ = some u ∧ ((w1.setCell ⟨k, 0, none⟩ u).setCell ⟨k, 1, none⟩ v).cell? ⟨k, 1, none⟩ = some v := by
  have h1 : (w1.setCell ⟨k, 0, none⟩ u).heap[k]? = some (.cells #[u, y] 38 (0, 0)) := by
    rw [heap_setCell_same w1 k 0 _ _ _ hr]; rfl
  have h2 : ((w1.setCell ⟨k, 0, none⟩ u).setCell ⟨k, 1, none⟩ v).heap[k]? = some (.cells #[u, v] 38 (0, 0)) := by
    rw [heap_setCell_same _ k 1 _ _ _ h1]; rfl
  exact ⟨cell_of_row _ _ 0 _ _ _ h2, cell_of_row _ _ 1 _ _ _ h2⟩
set_option maxRecDepth 100000 in
set_option maxHeartbeats 4000000 in
theorem holdR_f (w : World) {B r ba bt : Nat} {T A A' : Nat → Int} (h : Rf w B r ba bt T A) (x z e : Int) (hz : HoldF T A x z e A') :
    Calls Try.prog 13 #[.pointer (some ⟨r, 0, none⟩), .int .i64 x] w fun y w' => y = .returned (.agg #[.int .i64 z, .int .i64 e]) ∧ Rf w' B r ba bt T A' ∧ Frame w w' (fun b => b = ba) := by
  have hbel : ∀ a b : Value, Below w.heap.size w (w.alloc (.cells #[a, b] 38)) := fun a b => (Below.refl _ _).alloc (Nat.le_refl _) _
  have H := Lib.hid (h.below (hbel (.int .i64 0) (.int .i64 0)))
  have k0 := H.out.c0
  have k1 := H.out.c1
  have HW := Lib.hid h
  have HB := Lib.hid hbel
  clear hbel
  rcases hz with ⟨hx, rfl, rfl, rfl⟩ | ⟨hx, k, hk, h1, h2, hzt, rfl, rfl⟩ | ⟨hx, h1, rfl, rfl, rfl⟩
  · have d : decide (x < 1) = true := by simpa using hx
    clear h
    go_enter Try.func13, Try.ntmps13
    go_wp2
    refine bodyPost_ret (v := .agg #[.int .i64 0, .int .i64 1]) (by simp [results, Try.results13, go_sem]) rfl ⟨rfl, HW.out.below (HB.out _ _), Frame.of_below (HB.out _ _)⟩
  · have d : decide (x < 1) = false := by simp; omega
    have HA := Lib.hid h1
    have H0 := Lib.hid h2
    have HZ := Lib.hid hzt
    clear h h1 h2 hzt
    go_enter Try.func13, Try.ntmps13
    go_wp2
    go_loopw [5] (fun i wr => ∃ (j : Nat), j ≤ k ∧ i = .int .i64 (j : Int) ∧ wr = w.alloc (.cells #[.int .i64 0, .int .i64 0] 38)) (fun i _ => 512 - (intOf i).toNat)
    case atStart => exact ⟨0, by omega, rfl, rfl⟩
    case round =>
      obtain ⟨j, hj, rfl, rfl⟩ := hrel
      have dj : decide ((j : Int) < 512) = true := by simp; omega
      have dj2 : decide (j < 512) = true := by simp; omega
      have ka := H.out.a j (by omega)
      have g1 : (0 : Int) ≤ (j : Int) := by omega
      have g2 : (j : Int) < 512 := by omega
      by_cases hlt : j < k
      · have e0 : (A j == 0) = false := by simpa using HA.out j hlt
        go_wp2
        go_roundw
        case rel => exact ⟨j + 1, by omega, by first | go_num | trivial, by first | rfl | trivial⟩
        case measure => simp [intOf]; omega
      · obtain rfl : j = k := by omega
        have e0 : (A j == 0) = true := by simpa using H0.out
        have fa := H.out.fa j
        have H2 := Lib.hid ((HW.out.setA j hk x).below (w' := (w.setCell ⟨ba, j, none⟩ (.int .i64 x)).alloc (.cells #[.int .i64 0, .int .i64 0] 38)) ((Below.refl _ _).alloc (Nat.le_refl _) _))
        have hbb : ba < w.heap.size := by obtain ⟨cs, h1⟩ := own_heap HW.out.at_; exact lt_of_block h1
        have k0' := H2.out.c0
        have k1' := H2.out.c1
        have kt := H2.out.t j hk
        have hT := H2.out.turns j hk
        go_wp2
        refine bodyPost_ret (v := .agg #[.int .i64 (tell T j), .int .i64 0]) (by simp [results, Try.results13, go_sem, tell]) rfl ⟨by rw [HZ.out], (HW.out.setA j hk x).below ((Below.refl _ _).alloc (Nat.le_refl _) _), (Rf.frameA _).alloc _⟩
  · have d : decide (x < 1) = false := by simp; omega
    have HA := Lib.hid h1
    clear h h1
    go_enter Try.func13, Try.ntmps13
    go_wp2
    go_loopw [5] (fun i wr => ∃ (j : Nat), j ≤ 512 ∧ i = .int .i64 (j : Int) ∧ wr = w.alloc (.cells #[.int .i64 0, .int .i64 0] 38)) (fun i _ => 512 - (intOf i).toNat)
    case atStart => exact ⟨0, by omega, rfl, rfl⟩
    case round =>
      obtain ⟨j, hj, rfl, rfl⟩ := hrel
      by_cases hlt : j < 512
      · have dj : decide ((j : Int) < 512) = true := by simp; omega
        have dj2 : decide (j < 512) = true := by simp; omega
        have ka := H.out.a j (by omega)
        have g1 : (0 : Int) ≤ (j : Int) := by omega
        have g2 : (j : Int) < 512 := by omega
        have e0 : (A' j == 0) = false := by simpa using HA.out j hlt
        go_wp2
        go_roundw
        case rel => exact ⟨j + 1, by omega, by first | go_num | trivial, by first | rfl | trivial⟩
        case measure => simp [intOf]; omega
      · obtain rfl : j = 512 := by omega
        have dj : decide ((512 : Int) < 512) = false := rfl
        go_wp2
        refine bodyPost_ret (v := .agg #[.int .i64 0, .int .i64 3]) (by simp [results, Try.results13, go_sem]) rfl ⟨rfl, HW.out.below (HB.out _ _), Frame.of_below (HB.out _ _)⟩

theorem Rf.la {w : World} {B r ba bt : Nat} {T A : Nat → Int} (h : Rf w B r ba bt T A) : ba < w.heap.size := by obtain ⟨cs, h1⟩ := own_heap h.at_; exact lt_of_block h1
theorem Rf.lt {w : World} {B r ba bt : Nat} {T A : Nat → Int} (h : Rf w B r ba bt T A) : bt < w.heap.size := by obtain ⟨cs, h1⟩ := own_heap h.tu; exact lt_of_block h1
theorem Rf.al {w : World} {B r ba bt : Nat} {T A : Nat → Int} (h : Rf w B r ba bt T A) (z : Int) : Rf (w.alloc (.cells #[.int .i64 z, .int .i64 0] 38)) B r ba bt T A := h.below ((Below.refl _ _).alloc (Nat.le_refl _) _)
/-- What is told to who drops; what stands then. -/
def DropF (T A : Nat → Int) (x e : Int) (T' A' : Nat → Int) : Prop :=
  (fnd T A x = false ∧ e = 6 ∧ T' = T ∧ A' = A) ∨ (fnd T A x = true ∧ ∃ i : Nat, x % 512 = (i : Int) ∧ e = 0 ∧ T' = put T i (T i + 1) ∧ A' = put A i 0)
theorem DropF.some (T A : Nat → Int) (x : Int) : ∃ e T' A', DropF T A x e T' A' := by
  cases h : fnd T A x
  · exact ⟨_, _, _, .inl ⟨h, rfl, rfl, rfl⟩⟩
  · exact ⟨_, _, _, .inr ⟨h, (x % 512).toNat, by omega, rfl, rfl, rfl⟩⟩
theorem drop_f (w : World) {g : Nat} {T A T' A' : Nat → Int} (h : Hs w g T A) (x e : Int) (hx : x ≤ 9223372036854775807) (hT : ∀ i, T i < 1000000) (hz : DropF T A x e T' A') :
    Calls Try.prog 15 #[.pointer (some ⟨g, 0, none⟩), .int .i64 x] w fun y w' => y = .returned (.int .i64 e) ∧ Hs w' g T' A' ∧ Frame w w' (fun b => b = g) := by
  rcases hz with ⟨hf, rfl, rfl, rfl⟩ | ⟨hf, i, hi, rfl, rfl, rfl⟩
  · refine (drop_no w h x hx hf).mono ?_
    rintro y w' ⟨rfl, rfl⟩
    exact ⟨rfl, h, Frame.refl _ _⟩
  · exact drop_yes w h x hx hf i hi (hT i)
set_option maxRecDepth 100000 in
set_option maxHeartbeats 4000000 in
theorem dropR_f (w : World) {B r ba bt : Nat} {T A T' A' : Nat → Int} (h : Rf w B r ba bt T A) (x e : Int) (hx : x ≤ 9223372036854775807) (hT : ∀ i, T i < 1000000) (hz : DropF T A x e T' A') :
    Calls Try.prog 16 #[.pointer (some ⟨r, 0, none⟩), .int .i64 x] w fun y w' => y = .returned (.int .i64 e) ∧ Rf w' B r ba bt T' A' ∧ Frame w w' (fun b => b = ba ∨ b = bt) := by
  have HW := Lib.hid h
  rcases hz with ⟨hf, rfl, rfl, rfl⟩ | ⟨hf, i, hi, rfl, rfl, rfl⟩
  · have HF := Lib.hid (show heldF T' A' x = (0, 6) by simp [heldF, hf])
    clear h hf
    go_enter Try.func16, Try.ntmps16
    go_wp2_with (go_at_call 18; refine (heldR_c w HW.out x hx 0 6 HF.out).mono ?_; rintro y w1 ⟨rfl, hb⟩; have HB := Lib.hid hb; have H2 := Lib.hid ((HW.out.below hb).below (w' := w1.alloc (.cells #[.int .i64 0, .int .i64 6] 38)) ((Below.refl _ _).alloc (Nat.le_refl _) _)); have b0 := cell_of_row _ _ 1 _ _ _ (heap_alloc_new w1 (.cells #[.int .i64 0, .int .i64 6] 38)); clear hb)
    go_ret
    exact ⟨rfl, H2.out, Frame.of_below (HB.out.trans ((Below.refl _ _).alloc HB.out.size _))⟩
  · have hi5 : i < 512 := by omega
    obtain ⟨z, hzz⟩ : ∃ z, z = A (x % 512).toNat := ⟨_, rfl⟩
    have HF := Lib.hid (show heldF T A x = (z, 0) by simp [heldF, hf, hzz])
    have hx5 : 512 ≤ x := by
      simp only [fnd, Bool.and_eq_true, decide_eq_true_eq] at hf
      exact hf.1
    have hTi := h.turns i hi5
    have hT2 := hT i
    have g1 : (0 : Int) ≤ (i : Int) := by omega
    have g2 : (i : Int) < 512 := by omega
    have HT := Lib.hid hT
    clear h hf hzz hT
    go_enter Try.func16, Try.ntmps16
    go_wp2_with (go_at_call 18; refine (heldR_c w HW.out x hx z 0 HF.out).mono ?_; rintro y w1 ⟨rfl, hb⟩; have HB := Lib.hid hb; have H1 := Lib.hid (HW.out.below hb); have b0 := cell_of_row _ _ 1 _ _ _ (heap_alloc_new w1 (.cells #[.int .i64 z, .int .i64 0] 38)); have hbb := H1.out.la; have hbt := H1.out.lt; have hne := H1.out.ne; have H2 := Lib.hid (H1.out.al z); have k0 := H2.out.c0; have k1 := H2.out.c1; have ka := H2.out.a i hi5; have fa := H2.out.fa i; have H3 := Lib.hid ((H1.out.setA i hi5 0).al z); have k0' := H3.out.c0; have k1' := H3.out.c1; have kt := H3.out.t i hi5; have ft := H3.out.ft i; clear hb)
    go_ret
    have f1 : Frame w1 (w1.setCell ⟨ba, i, none⟩ (.int .i64 0)) (fun b => b = ba) := Rf.frameA _
    have f2 : Frame (w1.setCell ⟨ba, i, none⟩ (.int .i64 0)) ((w1.setCell ⟨ba, i, none⟩ (.int .i64 0)).setCell ⟨bt, i, none⟩ (.int .i64 (T i + 1))) (fun b => b = bt) := Rf.frameA _
    exact ⟨rfl, ((H1.out.setA i hi5 0).setT i hi5 (T i + 1) (by omega)).al z, ((Frame.of_below (F := fun b => b = ba ∨ b = bt) HB.out).trans ((f1.mono (fun _ _ e => Or.inl e)).trans f2 (fun _ _ e => Or.inr e)) (fun _ _ e => e)).alloc _⟩
end Go.Proofs.Ytembjpfgoogbgaa.Fns
