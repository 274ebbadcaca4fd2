/- Pages given back; the blocks of a page. -/
import Derived.Test.YtibgbahaldojiaaGreatPages
namespace Go.Proofs.YtibgbahaldojiaaGreat.Fns
open Go Go.RowKit
set_option maxHeartbeats 1000000 in
theorem pgGive_c (w : World) {p b r n : Nat} {F : Nat → Bool} (h : Pg w p b r n F) (q : Nat) (hq0 : 1 ≤ q) (hq : q < n) (h0 : F q = true) : Calls Tryz.prog 181 #[.pointer (some ⟨p, 0, none⟩), .int .i64 (q : Int), .int .i64 1] w fun e w' => e = .returned (.int .i64 0) ∧ Pg w' p b r n (put F q false) ∧ Frame w w' (fun k => k = r) := by
  have H := Lib.hid h
  have k0 := h.c0
  have hm := h.bits.most
  obtain ⟨z, hz⟩ : ∃ z : Int, (∃ k : Nat, z = (k : Int) ∧ q ≤ k ∧ k < n ∧ F k = false ∧ ∀ j : Nat, q ≤ j → j < k → F j ≠ false) ∨ (z = -1 ∧ ∀ j : Nat, q ≤ j → j < n → F j ≠ false) := by
    have hs := nxtF_spec (fun i => !F i) (n - q) q n (by omega)
    refine ⟨_, hs.imp (fun ⟨k, h1, h2, h3, h4, h5⟩ => ⟨k, h1, h2, h3, by simpa using h4, fun j h6 h7 => by simpa using h5 j h6 h7⟩) (fun ⟨h1, h2⟩ => ⟨h1, fun j h6 h7 => by simpa using h2 j h6 h7⟩)⟩
  have HZ := Lib.hid hz
  have hzt : decide (0 ≤ z) = false ∨ (decide (0 ≤ z) = true ∧ decide (z < (q : Int) + 1) = false) := by
    rcases hz with ⟨k, h1, h2, _, h4, _⟩ | ⟨h1, _⟩
    · right
      have : k ≠ q := fun e => by rw [e, h0] at h4; cases h4
      exact ⟨by simp; omega, by simp; omega⟩
    · left; simp; omega
  have d1 : decide ((q : Int) < 1) = false := by simp; omega
  have d2 : decide ((n : Int) < (q : Int)) = false := by simp; omega
  have d3 : decide ((n : Int) - (q : Int) < 1) = false := by simp; omega
  clear h h0 hz
  rcases hzt with d4 | ⟨d4, d5⟩
  all_goals
    go_enter Tryz.func181, Tryz.ntmps181
    go_wp2_with (first
      | (go_at_call 130; refine (btSize_c _ H.out.bits).mono ?_; rintro e w' ⟨rfl, rfl⟩)
      | (go_at_call 110; refine (btNext_c _ H.out.bits q (by omega) false z HZ.out).mono ?_; rintro e w' ⟨rfl, rfl⟩))
    go_region_with (first
      | (go_at_call 204; refine (row1_c _ q (by omega)).mono ?_; rintro e w1 ⟨s, c, rfl, hr, hb⟩; have HR := Lib.hid hr; have HB := Lib.hid hb; have H1 := Lib.hid (H.out.below (w' := w1) ⟨hb.os, hb.tape, hb.output, hb.size, hb.block⟩); have k0 := H1.out.c0; clear hr hb)
      | (go_at_call 121; refine (btSetR_c _ H1.out.bits false q hq s c HR.out).mono ?_; rintro e w2 ⟨rfl, hb2, hf2⟩; have HB2 := Lib.hid hb2; have HF2 := Lib.hid hf2; clear hb2 hf2))
    all_goals
      go_wp2
      have hb : Below w.heap.size w w1 := ⟨HB.out.os, HB.out.tape, HB.out.output, HB.out.size, HB.out.block⟩
      go_ret
      exact ⟨rfl, H1.out.turn HB2.out HF2.out, (Frame.of_below hb).trans HF2.out (fun _ _ e => e)⟩
/-- Block p holds a page of blocks of 2 words: their bits. -/
structure Pb (w : World) (p b r : Nat) (F : Nat → Bool) : Prop where
  box : w.heap[p]? = some (.cells #[.pointer (some ⟨b, 0, none⟩), .int .i64 2] 176 (0, 0))
  bits : Bt w b r 32 F
section
variable {w w' : World} {p b r : Nat} {F F' : Nat → Bool} {G : Nat → Prop}
theorem Pb.c0 (h : Pb w p b r F) : w.cell? ⟨p, 0, none⟩ = some (.pointer (some ⟨b, 0, none⟩)) := cell_of_row _ _ 0 _ _ _ h.box
theorem Pb.c1 (h : Pb w p b r F) : w.cell? ⟨p, 1, none⟩ = some (.int .i64 2) := cell_of_row _ _ 1 _ _ _ h.box
theorem Pb.frame (h : Pb w p b r F) (hf : Frame w w' G) (hp : ¬ G p) (hb : ¬ G b) (hr : ¬ G r) : Pb w' p b r F := ⟨hf.heap h.box hp, h.bits.frame hf hb hr⟩
theorem Pb.below (h : Pb w p b r F) (hb : Below w.heap.size w w') : Pb w' p b r F := h.frame (G := fun _ => False) (Frame.of_below hb) (fun e => e) (fun e => e) (fun e => e)
theorem Pb.ne (h : Pb w p b r F) : p ≠ r := by
  obtain ⟨cr, hr, _⟩ := h.bits.row
  intro e
  have := h.box
  rw [e, hr] at this
  injection this with this
  injection this with _ this
  exact absurd this (by decide)
theorem Pb.turn (h : Pb w p b r F) (h2 : Bt w' b r 32 F') (hf : Frame w w' (fun k => k = r)) : Pb w' p b r F' := ⟨hf.heap h.box h.ne, h2⟩
end
set_option maxHeartbeats 1000000 in
theorem pbNew_c (w : World) : Calls Tryz.prog 208 #[.int .i64 0] w fun e w' => ∃ p b r, e = .returned (.tuple #[.pointer (some ⟨p, 0, none⟩), .int .i64 0]) ∧ Pb w' p b r (fun _ => false) ∧ Below w.heap.size w w' ∧ w.heap.size ≤ p ∧ w.heap.size ≤ b ∧ w.heap.size ≤ r := by
  have hrow := heap_alloc_new w (.cells #[.int .i64 2, .int .i64 4, .int .i64 8, .int .i64 16, .int .i64 32] 3)
  have k0 := cell_of_row _ _ 0 _ _ _ hrow
  have HR := Lib.hid hrow
  have HBL := Lib.hid (show Below w.heap.size w (w.alloc (.cells #[.int .i64 2, .int .i64 4, .int .i64 8, .int .i64 16, .int .i64 32] 3)) from (Below.refl _ _).alloc (Nat.le_refl _) _)
  clear hrow
  go_enter Tryz.func208, Tryz.ntmps208
  go_wp2_with (first
    | (go_at_call 187; refine (sizes_c _).mono ?_; rintro e w' ⟨rfl, rfl⟩)
    | (go_at_call 120; refine (btNew_c _ 32 (by omega)).mono ?_; rintro e w1 ⟨rfl, hb, hbel⟩; have HB := Lib.hid hb; have HB2 := Lib.hid hbel; have k1 := cell_of_row _ _ 0 _ _ _ ((hbel.block _ (lt_of_block HR.out)).trans HR.out); clear hb hbel))
  have hbl : Below w.heap.size w w1 := HBL.out.trans (HB2.out.mono HBL.out.size)
  have hB : Bt w1 (w.heap.size + 1 + 1) (w.heap.size + 1) 32 (fun _ => false) := by have h := HB.out; simpa using h
  refine bodyPost_ret (v := .tuple #[.pointer (some ⟨w1.heap.size, 0, none⟩), .int .i64 0]) (by simp [results, Tryz.results208, go_sem]) rfl ⟨w1.heap.size, w.heap.size + 1 + 1, w.heap.size + 1, rfl, ⟨heap_alloc_new w1 _, hB.below ((Below.refl _ _).alloc (Nat.le_refl _) _)⟩, hbl.alloc hbl.size _, hbl.size, by omega, by omega⟩
section
variable (w : World) {p b r : Nat} {F : Nat → Bool} (h : Pb w p b r F)
include h
theorem pbWords_c : Calls Tryz.prog 111 #[.pointer (some ⟨p, 0, none⟩)] w fun e w' => e = .returned (.int .i64 2) ∧ w = w' := by
  have k1 := h.c1
  clear h
  go_enter Tryz.func111, Tryz.ntmps111
  go_wp2
  go_ret
  exact ⟨rfl, rfl⟩
set_option maxHeartbeats 1000000 in
theorem pbTake_c (q : Nat) (hq : q < 32) (h0 : F q = false) (h1 : ∀ j, j < q → F j = true) : Calls Tryz.prog 191 #[.pointer (some ⟨p, 0, none⟩)] w fun e w' => e = .returned (.tuple #[.int .i64 (q : Int), .int .i64 0]) ∧ Pb w' p b r (put F q true) ∧ Frame w w' (fun k => k = r) := by
  have H := Lib.hid h
  have k0 := h.c0
  have HZ := Lib.hid (show (∃ k : Nat, (q : Int) = (k : Int) ∧ 0 ≤ k ∧ k < 32 ∧ F k = false ∧ ∀ j : Nat, 0 ≤ j → j < k → F j ≠ false) ∨ ((q : Int) = -1 ∧ ∀ j : Nat, 0 ≤ j → j < 32 → F j ≠ false) from .inl ⟨q, rfl, Nat.zero_le _, hq, h0, fun j _ hj => by rw [h1 j hj]; decide⟩)
  have d0 : decide ((q : Int) < 0) = false := by simp
  have HA := Lib.hid (h.below (w' := w.alloc (.cells #[.int .i64 (q : Int)] 3)) ((Below.refl _ _).alloc (Nat.le_refl _) _))
  clear h h0 h1
  go_enter Tryz.func191, Tryz.ntmps191
  go_wp2_with (first
    | (go_at_call 110; refine (btNext0_c _ H.out.bits false q HZ.out).mono ?_; rintro e w' ⟨rfl, rfl⟩)
    | (go_at_call 121; refine (btSet1_c _ HA.out.bits true q hq w.heap.size 1 (heap_alloc_new w _)).mono ?_; rintro e w2 ⟨rfl, hb2, hf2⟩; have HB2 := Lib.hid hb2; have HF2 := Lib.hid hf2; clear hb2 hf2))
  refine bodyPost_ret (v := .tuple #[.int .i64 (q : Int), .int .i64 0]) (by simp [results, Tryz.results191, go_sem]) rfl ⟨rfl, HA.out.turn HB2.out HF2.out, ((Frame.refl w _).alloc _).trans HF2.out (fun _ _ e => e)⟩
set_option maxHeartbeats 1000000 in
theorem pbGive_c (q : Nat) (hq : q < 32) (h0 : F q = true) : Calls Tryz.prog 182 #[.pointer (some ⟨p, 0, none⟩), .int .i64 (q : Int)] w fun e w' => e = .returned (.int .i64 0) ∧ Pb w' p b r (put F q false) ∧ Frame w w' (fun k => k = r) := by
  have H := Lib.hid h
  have k0 := h.c0
  have HA := Lib.hid (h.below (w' := w.alloc (.cells #[.int .i64 (q : Int)] 3)) ((Below.refl _ _).alloc (Nat.le_refl _) _))
  have H0 := Lib.hid h0
  clear h h0
  go_enter Tryz.func182, Tryz.ntmps182
  go_wp2_with (first
    | (go_at_call 129; refine (btHas_c _ H.out.bits (q : Int) true (by rw [Int.toNat_natCast, H0.out, Bool.and_true]; exact decide_eq_true (by omega))).mono ?_; rintro e w' ⟨rfl, rfl⟩)
    | (go_at_call 121; refine (btSet1_c _ HA.out.bits false q hq w.heap.size 1 (heap_alloc_new w _)).mono ?_; rintro e w2 ⟨rfl, hb2, hf2⟩; have HB2 := Lib.hid hb2; have HF2 := Lib.hid hf2; clear hb2 hf2))
  go_ret
  exact ⟨rfl, HA.out.turn HB2.out HF2.out, ((Frame.refl w _).alloc _).trans HF2.out (fun _ _ e => e)⟩
theorem pbEmpty_c (z : Bool) (hz : ((cntF F 32 : Int) == 0) = z) : Calls Tryz.prog 183 #[.pointer (some ⟨p, 0, none⟩)] w fun e w' => e = .returned (.bool z) ∧ w = w' := by
  have H := Lib.hid h
  have k0 := h.c0
  clear h
  generalize hc : (cntF F 32 : Int) = c at hz
  have HC := Lib.hid hc
  clear hc
  go_enter Tryz.func183, Tryz.ntmps183
  go_wp2_with (go_at_call 205; refine (btCount_c _ H.out.bits).mono ?_; rintro e w' ⟨rfl, rfl⟩; rw [HC.out])
  go_ret
  exact ⟨rfl, rfl⟩
theorem pbFull_c (z : Bool) (hz : ((cntF F 32 : Int) == 32) = z) : Calls Tryz.prog 216 #[.pointer (some ⟨p, 0, none⟩)] w fun e w' => e = .returned (.bool z) ∧ ∃ m, w' = w.drewN m := by
  have H := Lib.hid h
  have k0 := h.c0
  clear h
  generalize hc : (cntF F 32 : Int) = c at hz
  have HC := Lib.hid hc
  have HQ := Lib.hid (fun n => Calls.quiet_of_same (n := n) (((btCount_c (w.drewN n) (b := b) (r := r) (n := 32) (F := F) (H.out.below (w' := w.drewN n) ⟨rfl, rfl, rfl, Nat.le_refl _, fun _ _ => rfl⟩).bits).mono fun _ _ h => ⟨h.1, h.2.symm⟩)))
  rw [HC.out] at HQ
  have HS := Lib.hid (fun n => Calls.quiet_of_same (n := n) (((btSize_c (w.drewN n) (b := b) (r := r) (n := 32) (F := F) (H.out.below (w' := w.drewN n) ⟨rfl, rfl, rfl, Nat.le_refl _, fun _ _ => rfl⟩).bits).mono fun _ _ h => ⟨h.1, h.2.symm⟩)))
  clear hc
  go_enter Tryz.func216, Tryz.ntmps216
  go_wp2
  go_quiet (first
    | (go_at_call 205; exact HQ.out _)
    | (go_at_call 130; exact HS.out _))
  go_wp2
  go_ret
  exact ⟨rfl, _, rfl⟩
end
end Go.Proofs.YtibgbahaldojiaaGreat.Fns
