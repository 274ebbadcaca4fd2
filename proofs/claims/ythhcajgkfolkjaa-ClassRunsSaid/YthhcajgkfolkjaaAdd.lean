/- A class more. -/
import Derived.Test.YthhcajgkfolkjaaTab
namespace Go.Proofs.Ythhcajgkfolkjaa.Fns
open Go Go.RowKit
theorem ints_len {w : World} {C n : Nat} {A : Option Addr} {xs : List Int} (h : Ints w C A n xs) : xs.length = n := h.1

set_option maxHeartbeats 4000000 in
theorem add_ok (w : World) {B g : Nat} {v : Value} {l : List Cl} (h : Tb w B g v l) (hB : B ≤ w.heap.size) (f : Int) (C : Nat) (A : Option Addr) (n c : Nat) (xs : List Int) (hx : Ints w C A n xs) (hC : C ≤ w.heap.size) (hn : n ≤ 100000) (hb : mayB f xs = true) (hl : l.length < 256)
    (z : Int) (hz : (l.length : Int) + 1 = z) :
    Calls Try.prog 8 #[.pointer (some ⟨g, 0, none⟩), .agg #[.int .i64 f, .slice A n c]] w fun e w' => e = .returned (.tuple #[.int .i64 z, .int .i64 0]) ∧
      ∃ v' u, Tb w' B g v' (l ++ [⟨f, u, xs⟩]) ∧ Frame w w' (fun k => k = g ∨ v.ownBlock = some k) := by
  subst hz
  obtain ⟨k0, k1, hx, hbel⟩ := box_keeps w (.int .i64 f) (.slice A n c) hx hC
  have hsz := hbel.size
  have hlt0 : w.heap.size < (w.alloc (.cells #[.int .i64 f, .slice A n c] 26)).heap.size := lt_of_block (heap_alloc_new w _)
  obtain ⟨W0, hW0⟩ : ∃ W0, W0 = w.alloc (.cells #[.int .i64 f, .slice A n c] 26) := ⟨_, rfl⟩
  have H := Lib.hid (h.below hbel)
  have HX := Lib.hid hx
  have HW := Lib.hid hbel
  have HC := Lib.hid (Nat.le_trans hC hsz)
  have HBB := Lib.hid hB
  have HXL := Lib.hid (ints_len hx)
  obtain ⟨i0, hi0, hz0, hz1, hz2⟩ := info_parts info26
  have INFO := Lib.hid (And.intro hi0 (And.intro hz0 (And.intro hz1 hz2)))
  clear hi0 hz0 hz1 hz2
  have HLT := Lib.hid hlt0
  have HK := Lib.hid (And.intro k0 k1)
  obtain ⟨VA, vc, rfl⟩ := h.form
  have kt := H.out.c0
  have dl : decide ((256 : Int) ≤ (l.length : Int)) = false := by simp; omega
  have dl2 : decide (256 ≤ l.length) = false := by simp; omega
  clear h hx hbel hW0 hlt0 hsz
  go_enter Try.func8, Try.ntmps8
  go_wp2_with (go_at_call 16; refine (may_c _ f C A n c xs true HX.out HC.out hn hb).mono ?_; rintro e w1 ⟨rfl, hb1⟩; have k0 := (hb1.cell (p := ⟨w.heap.size, 0, none⟩) HLT.out).trans HK.out.1; have k1 := (hb1.cell (p := ⟨w.heap.size, 1, none⟩) HLT.out).trans HK.out.2; have H1 := Lib.hid (H.out.below hb1); have X1 := Lib.hid (HX.out.below hb1 HC.out); have B1 := Lib.hid hb1; have kt := H1.out.c0; clear hb1)
  have HC1 := Lib.hid (Nat.le_trans HC.out B1.out.size)
  have HB1 := Lib.hid (Nat.le_trans HBB.out (Nat.le_trans HW.out.size B1.out.size))
  go_region_law (first
    | (refine step_app rfl (.tmp 24) (.tmp 27) 27 rfl B 26 i0 _ 2 32 Try.underlying27 INFO.out.1 INFO.out.2.1 INFO.out.2.2.1 INFO.out.2.2.2 rfl (by omega) (.slice VA l.length vc) l.length (clCells l) (by simp [Act.eval]) (H2.out.owns.alloc _) ⟨w2.heap.size, 0, none⟩ 1 1 [.int .i64 f, .slice A2 n c2] (by simp [Act.eval]) rfl (two_cells _ _ _ _) (by simp [Value.oneCell']) (by unfold maxLen; omega) (by omega) HB3.out ?_
       intro v3 w3 ho3 hg3 _
       obtain ⟨A3, c3, rfl⟩ := form2 ho3
       have HE := Lib.hid (H2.out.add_end ho3 hg3 HO2.out)
       have e1 := HE.out.2.2.1
       have e2 := HE.out.2.2.2.1
       have e3 := HE.out.2.2.2.2
       clear ho3 hg3)
    | (go_simp
       go_wp2_with (go_at_call 17; refine (own_c _ f C A n c xs (by exact X1.out) (by exact HC1.out) hn).mono ?_; rintro e w2 ⟨v2, rfl, ho, hb2⟩; obtain ⟨A2, c2, rfl⟩ := own_form ho; have H2 := Lib.hid (H1.out.drew.below hb2); have HB3 := Lib.hid (show B ≤ (w2.alloc (.cells #[.int .i64 f, .slice A2 n c2] 26)).heap.size from Nat.le_trans HB1.out (Nat.le_trans hb2.size (by simp))); have HO2 := Lib.hid (show w2.ownsRow B 3 1 (.slice A2 n c2) xs.length (xs.map (Value.int .i64)) from by rw [HXL.out]; exact own_mono ho HB1.out); have BB := Lib.hid hb2; have kt := H2.out.c0; have kt2 := (((Below.refl w2.heap.size w2).alloc (Nat.le_refl _) (Obj.cells #[.int .i64 f, .slice A2 n c2] 26)).cell (p := ⟨g, 0, none⟩) (lt_of_block H2.out.cells)).trans kt; clear ho hb2)))
  all_goals
    have FR := Lib.hid ((((Frame.of_below (F := fun k => k = g ∨ Value.ownBlock (.slice VA l.length vc) = some k) HW.out).trans (Frame.of_below B1.out) (fun _ _ e => e)).drew.trans (Frame.of_below BB.out) (fun _ _ e => e)).trans HE.out.2.1 (fun _ _ e => e))
    go_wp2
    refine bodyPost_ret (v := .tuple #[.int .i64 ((l.length : Int) + 1), .int .i64 0]) (by simp [results, Try.results8, go_sem]) rfl ⟨rfl, _, _, HE.out.1, FR.out⟩
end Go.Proofs.Ythhcajgkfolkjaa.Fns
