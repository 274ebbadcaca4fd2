/- HandleTwo: the walk. -/
import Derived.Test.YtembjpfgoogbgaaAll
namespace Go.Proofs.Ytembjpfgoogbgaa.Fns
open Go Go.RowKit

/-- Two tables side by side. -/
structure Pair (w wr : World) (ga gb : Nat) (Ta Aa Tb Ab : Nat → Int) : Prop where
  old : Below w.heap.size w wr
  ba : w.heap.size ≤ ga
  bb : w.heap.size ≤ gb
  ha : Hs wr ga Ta Aa
  hb : Hs wr gb Tb Ab
  ne : ga ≠ gb
section
variable {w wr w' : World} {ga gb : Nat} {Ta Aa Tb Ab Ta' Aa' Tb' Ab' : Nat → Int}
theorem Pair.below (h : Pair w wr ga gb Ta Aa Tb Ab) (hb : Below wr.heap.size wr w') : Pair w w' ga gb Ta Aa Tb Ab :=
  ⟨h.old.trans (hb.mono h.old.size), h.ba, h.bb, h.ha.below hb, h.hb.below hb, h.ne⟩
theorem Pair.stepA (h : Pair w wr ga gb Ta Aa Tb Ab) (h2 : Hs w' ga Ta' Aa') (hf : Frame wr w' (fun k => k = ga)) : Pair w w' ga gb Ta' Aa' Tb Ab :=
  ⟨h.old.trans (hf.below h.old.size (fun _ _ e => e ▸ h.ba)), h.ba, h.bb, h2, h.hb.frame hf (fun e => h.ne e.symm), h.ne⟩
theorem Pair.stepB (h : Pair w wr ga gb Ta Aa Tb Ab) (h2 : Hs w' gb Tb' Ab') (hf : Frame wr w' (fun k => k = gb)) : Pair w w' ga gb Ta Aa Tb' Ab' :=
  ⟨h.old.trans (hf.below h.old.size (fun _ _ e => e ▸ h.bb)), h.ba, h.bb, h.ha.frame hf h.ne, h2, h.ne⟩
end
theorem fnd_none (T : Nat → Int) (x : Int) : fnd T (fun _ => 0) x = false := by simp [fnd]
theorem fnd_one (z x : Int) (hx : x ≠ 512) : fnd (fun _ => 0) (put (fun _ => 0) 0 z) x = false := by
  by_cases h : (x % 512).toNat = 0
  · have : ¬ (tell (fun _ => 0) 0 = x) := by simp [tell]; omega
    simp [fnd, h, this]
  · simp [fnd, put, h]
theorem fnd_512 (z : Int) (hz : z ≠ 0) : fnd (fun _ => 0) (put (fun _ => 0) 0 z) 512 = true := by
  simp [fnd, put, tell, hz]

set_option maxRecDepth 100000 in
set_option maxHeartbeats 8000000 in
theorem two_law (n x : Int) (w : World) (hn : (Lit.int .u16 n).wf = true) (hx : (Lit.int .i64 x).wf = true) :
    Calls Try.prog 7 #[.int .u16 n, .int .i64 x] w fun e w' => e = .returned (.bool true) ∧ Below w.heap.size w w' := by
  obtain ⟨n0, n1⟩ := bounds_u16 hn
  obtain ⟨x0, x1⟩ := bounds_i64 hx
  clear hn hx
  by_cases hx5 : x = 512
  · have e5 : (x == 512) = true := by simpa using hx5
    go_enter Try.func7, Try.ntmps7
    go_wp2_with (first
      | (go_at_call 8; have _ := HH1; refine (new_h _).mono ?_; rintro e w2 ⟨rfl, hh, hb⟩; have HP := Lib.hid (show Pair w w2 w.heap.size w1.heap.size (fun _ => 0) (fun _ => 0) (fun _ => 0) (fun _ => 0) from ⟨HB1.out.trans (hb.mono HB1.out.size), Nat.le_refl _, HB1.out.size, HH1.out.below hb, hh, by have := HH1.out.lt; omega⟩); clear hh hb)
      | (go_at_call 8; refine (new_h _).mono ?_; rintro e w1 ⟨rfl, hh, hb⟩; have HH1 := Lib.hid hh; have HB1 := Lib.hid hb; clear hh hb)
      | (go_at_call 12; have _ := HP3; refine (hold_ok _ HP3.out.hb 9 (by omega) 0 (by omega) (by intro i hi; omega) rfl 512 rfl).mono ?_; rintro e w4 ⟨rfl, hh, hf⟩; have HP4 := Lib.hid (HP3.out.stepB hh hf); clear hh hf)
      | (go_at_call 12; refine (hold_ok _ HP.out.ha (1 + n) (by omega) 0 (by omega) (by intro i hi; omega) rfl 512 rfl).mono ?_; rintro e w3 ⟨rfl, hh, hf⟩; have HP3 := Lib.hid (HP.out.stepA hh hf); clear hh hf)
      | (go_at_call 17; have _ := HQ5; refine (held_no _ HP4.out.ha 0 (by omega) (fnd_one _ 0 (by omega))).mono ?_; rintro e w' ⟨rfl, rfl⟩)
      | (go_at_call 17; have _ := HP4; refine (held_yes _ HP4.out.ha 512 (by omega) (fnd_512 _ (by omega)) (1 + n) (by simp [put])).mono ?_; rintro e w' ⟨rfl, rfl⟩; have HQ5 := Lib.hid True.intro)
      | (go_at_call 17; refine (held_no _ HP3.out.hb 512 (by omega) (fnd_none _ _)).mono ?_; rintro e w' ⟨rfl, rfl⟩)
      | (go_at_call 15; have _ := HP4; refine (drop_no _ HP4.out.ha 0 (by omega) (fnd_one _ 0 (by omega))).mono ?_; rintro e w' ⟨rfl, rfl⟩)
      | (go_at_call 15; refine (drop_no _ HP3.out.hb 512 (by omega) (fnd_none _ _)).mono ?_; rintro e w' ⟨rfl, rfl⟩)
      | (go_at_call 14; refine (err_c _ _).mono ?_; rintro e w' ⟨rfl, rfl⟩)
      | (go_at_call 22; refine (all_c _ HP4.out.ha).mono ?_; rintro e w5 ⟨v, rfl, ho, hb⟩; obtain ⟨A5, c5, rfl⟩ := form33 ho; rw [allL_one _ _ _ _ (by omega)]; have HP5 := Lib.hid (HP4.out.below hb); clear ho hb)
      | (go_at_call 9; refine (awake_c _).mono ?_; rintro e w6 ⟨rfl, hb⟩; have HP6 := Lib.hid (HP5.out.below hb); clear hb))
    go_ret
    exact ⟨rfl, HP6.out.old⟩
  · have e5 : (x == 512) = false := by simpa using hx5
    go_enter Try.func7, Try.ntmps7
    go_wp2_with (first
      | (go_at_call 8; have _ := HH1; refine (new_h _).mono ?_; rintro e w2 ⟨rfl, hh, hb⟩; have HP := Lib.hid (show Pair w w2 w.heap.size w1.heap.size (fun _ => 0) (fun _ => 0) (fun _ => 0) (fun _ => 0) from ⟨HB1.out.trans (hb.mono HB1.out.size), Nat.le_refl _, HB1.out.size, HH1.out.below hb, hh, by have := HH1.out.lt; omega⟩); clear hh hb)
      | (go_at_call 8; refine (new_h _).mono ?_; rintro e w1 ⟨rfl, hh, hb⟩; have HH1 := Lib.hid hh; have HB1 := Lib.hid hb; clear hh hb)
      | (go_at_call 12; have _ := HP3; refine (hold_ok _ HP3.out.hb 9 (by omega) 0 (by omega) (by intro i hi; omega) rfl 512 rfl).mono ?_; rintro e w4 ⟨rfl, hh, hf⟩; have HP4 := Lib.hid (HP3.out.stepB hh hf); clear hh hf)
      | (go_at_call 12; refine (hold_ok _ HP.out.ha (1 + n) (by omega) 0 (by omega) (by intro i hi; omega) rfl 512 rfl).mono ?_; rintro e w3 ⟨rfl, hh, hf⟩; have HP3 := Lib.hid (HP.out.stepA hh hf); clear hh hf)
      | (go_at_call 17; have _ := HQ5; refine (held_no _ HP4.out.ha x x1 (fnd_one _ x hx5)).mono ?_; rintro e w' ⟨rfl, rfl⟩)
      | (go_at_call 17; have _ := HP4; refine (held_yes _ HP4.out.ha 512 (by omega) (fnd_512 _ (by omega)) (1 + n) (by simp [put])).mono ?_; rintro e w' ⟨rfl, rfl⟩; have HQ5 := Lib.hid True.intro)
      | (go_at_call 17; refine (held_no _ HP3.out.hb 512 (by omega) (fnd_none _ _)).mono ?_; rintro e w' ⟨rfl, rfl⟩)
      | (go_at_call 15; have _ := HP4; refine (drop_no _ HP4.out.ha x x1 (fnd_one _ x hx5)).mono ?_; rintro e w' ⟨rfl, rfl⟩)
      | (go_at_call 15; refine (drop_no _ HP3.out.hb 512 (by omega) (fnd_none _ _)).mono ?_; rintro e w' ⟨rfl, rfl⟩)
      | (go_at_call 14; refine (err_c _ _).mono ?_; rintro e w' ⟨rfl, rfl⟩)
      | (go_at_call 22; refine (all_c _ HP4.out.ha).mono ?_; rintro e w5 ⟨v, rfl, ho, hb⟩; obtain ⟨A5, c5, rfl⟩ := form33 ho; rw [allL_one _ _ _ _ (by omega)]; have HP5 := Lib.hid (HP4.out.below hb); clear ho hb)
      | (go_at_call 9; refine (awake_c _).mono ?_; rintro e w6 ⟨rfl, hb⟩; have HP6 := Lib.hid (HP5.out.below hb); clear hb))
    go_ret
    exact ⟨rfl, HP6.out.old⟩
end Go.Proofs.Ytembjpfgoogbgaa.Fns
