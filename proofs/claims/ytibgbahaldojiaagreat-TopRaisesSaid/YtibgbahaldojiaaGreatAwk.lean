/- Run of three operations: an object is made, let go, swept. -/
/- The law's last question: a runtime of its own, three operations. -/
import Derived.Test.YtibgbahaldojiaaGreatRtv
namespace Go.Proofs.YtibgbahaldojiaaGreat.Fns
open Go Go.RowKit
theorem Keep.owns [Base] {w w' : World} (K : Keep w w') {base size n : Nat} {t : TypeId} {v : Value} {xs : List Value} (ht : keepTy t = true) (ho : w.ownsRow base t size v n xs) : w'.ownsRow base t size v n xs := by
  refine ⟨ho.1, ?_⟩
  rcases ho.2 with h2 | ⟨g, cap, cur, hv, hg, hh, r⟩
  · exact .inl h2
  · exact .inr ⟨g, cap, cur, hv, hg, K.2 _ _ _ ht hh, r⟩
def z0 : Nat → Int := fun _ => 0
def aw1 (s : RtS) : RtS := { s with m := s.m + 1, f := put (wipe s.f 64 2) 64 (hw 3 1 false), A := put s.A 0 (64 : Nat) }
def aw2 (s : RtS) : RtS := { s with T := put s.T 0 (s.T 0 + 1), A := put s.A 0 0 }
def aw3 (s : RtS) : RtS := { s with m := 0, runs := s.runs + 1 }
/-- The states between the operations. -/
def aw (j : Nat) : RtS := match j with
  | 0 => s0 3 0 1
  | 1 => aw1 (s0 3 0 1)
  | 2 => aw2 (aw1 (s0 3 0 1))
  | _ => aw3 (aw2 (aw1 (s0 3 0 1)))
def awO (j : Nat) : Int := match j with | 0 => 4 | 1 => 8 | _ => 19
def awA (j : Nat) : Int := match j with | 0 => 1 | 1 => 512 | _ => 0
def awN (j : Nat) : Int := match j with | 0 => 512 | 1 => 0 | _ => 1
theorem z0_all (T : Nat → Int) (n : Nat) : allL T (fun _ => 0) n = [] := by
  induction n with
  | zero => rfl
  | succ n ih => rw [allL_succ, ih]; rfl
theorem aw_do0 [Base] (w : World) {b : RtB} (h : Rt w b (aw 0)) : Calls Tryz.prog 7 #[.pointer (some ⟨b.r, 0, none⟩), opv 4 1 0 0] w fun e w' => e = .returned (.agg #[.int .i64 0, .int .i64 512]) ∧ (∃ g', Rt w' (b.on g') (aw 1)) ∧ Keep w w' :=
  do4 w h 1 0 0 512 (aw 1) (fun w1 g1 g2 hh r1 r2 => list1_c w1 hh (by decide) (by decide) 64 rfl 3 (.inr rfl) 0 (by omega) (fun i hi => by omega) rfl (by show (allL _ (fun _ => 0) 512).length < 512; rw [z0_all]; decide) 512 rfl g1 g2 4 r1 r2)
theorem aw_do1 [Base] (w : World) {b : RtB} (h : Rt w b (aw 1)) : Calls Tryz.prog 7 #[.pointer (some ⟨b.r, 0, none⟩), opv 8 512 0 0] w fun e w' => e = .returned (.agg #[.int .i64 0, .int .i64 0]) ∧ (∃ g', Rt w' (b.on g') (aw 2)) ∧ Keep w w' :=
  do8 w h 512 0 0 0 (aw 2) (fun w1 hh => (rdrop_c w1 hh 512 (by decide) (by decide) 0 rfl (by decide) 8).mono fun _ _ q => ⟨b.hp.g, q.1, q.2.1, q.2.2⟩)
theorem aw_ch : Ch (aw 2).m (aw 2).f (fun _ => 3) (fun _ => false) (fun _ => 0) := by
  refine ⟨fun i hi => ?_, fun i hi => ?_, fun _ _ => .inr rfl⟩
  all_goals
    have h1 : i < 1 := hi
    obtain rfl : i = 0 := by omega
    rfl
theorem aw_held : (allL (aw 2).T (aw 2).A 512).map Prod.snd = [] := by
  have e : (aw 2).A = fun _ => 0 := by funext i; simp [aw, aw1, aw2, s0, put]
  rw [e, z0_all]; rfl
theorem aw_do2 [Base] (w : World) {b : RtB} (h : Rt w b (aw 2)) : Calls Tryz.prog 7 #[.pointer (some ⟨b.r, 0, none⟩), opv 19 0 0 0] w fun e w' => e = .returned (.agg #[.int .i64 0, .int .i64 1]) ∧ (∃ g', Rt w' (b.on g') (aw 3)) ∧ Keep w w' :=
  do19 w h 0 0 0 1 (aw 3) (fun w1 hh => (rcollect_c w1 hh (by decide) false 0 rfl (aw 3) (by decide) (fun w2 h2 => collect_goes w2 h2 1 aw_ch rfl (by decide) rfl (by decide) (by decide) (by decide) false rfl rfl aw_held) 19 1 rfl).mono fun _ _ q => ⟨b.hp.g, q.1, q.2.1, q.2.2⟩)
theorem aw_do [Base] (w : World) {b : RtB} (j : Nat) (hj : j < 3) (h : Rt w b (aw j)) : Calls Tryz.prog 7 #[.pointer (some ⟨b.r, 0, none⟩), .agg #[.int .i64 (awO j), .int .i64 (awA j), .int .i64 0, .int .i64 0]] w fun e w' => e = .returned (.agg #[.int .i64 0, .int .i64 (awN j)]) ∧ (∃ g', Rt w' (b.on g') (aw (j + 1))) ∧ Keep w w' := by
  obtain rfl | rfl | rfl : j = 0 ∨ j = 1 ∨ j = 2 := by omega
  · exact aw_do0 w h
  · exact aw_do1 w h
  · exact aw_do2 w h
theorem Rt.grown [Base] {w w' : World} {b : RtB} {s : RtS} (h : Rt w b s) {base size n : Nat} {v : Value} {xs : List Value} (ho : w.ownsRow base 31 size v n xs) (hg : w.grownBy w' v.ownBlock) : Rt w' b s := by
  rcases ho.2 with ⟨rfl, _⟩ | ⟨g, cap, cur, rfl, _, hh, _⟩
  · have hf : Frame w w' (fun _ => False) := Frame.of_grown hg (fun k _ hk => by cases hk)
    exact h.below (hf.below (Nat.le_refl _) (fun _ _ e => e.elim))
  · exact h.side31 hh (Frame.of_grown hg (fun k _ hk => by cases hk; rfl))
theorem Keep.grown [Base] {w0 w w' : World} (K : Keep w0 w) {base size n : Nat} {v : Value} {xs : List Value} (hb : w0.heap.size ≤ base) (ho : w.ownsRow base 31 size v n xs) (hg : w.grownBy w' v.ownBlock) : Keep w0 w' := by
  rcases ho.2 with ⟨rfl, _⟩ | ⟨g, cap, cur, rfl, hB, hh, _⟩
  · have hf : Frame w w' (fun _ => False) := Frame.of_grown hg (fun k _ hk => by cases hk)
    exact K.trans (Keep.of_below (hf.below (Nat.le_refl _) (fun _ _ e => e.elim)))
  · exact K.side (k := g) (Frame.of_grown hg (fun k _ hk => by cases hk; rfl)) (Nat.le_trans hb hB)
theorem two_ints (a b : Int) : ∀ u ∈ [Value.int .i64 a, Value.int .i64 b], u.oneCell' = true := by
  intro u hu
  simp only [List.mem_cons, List.not_mem_nil, or_false] at hu
  rcases hu with rfl | rfl <;> rfl
theorem info31 : (Tryz.prog.info? 31).map (fun i => (i.zero, i.size, i.bytes)) = some (some (.agg #[.int .i64 0, .int .i64 0]), 2, 16) := by kernel_rfl
/-- The answers so far. -/
def awX (j : Nat) : List Value := ((List.range j).map fun i => [Value.int .i64 0, .int .i64 (awN i)]).flatten
theorem awX_succ (j : Nat) : awX (j + 1) = awX j ++ [.int .i64 0, .int .i64 (awN j)] := by simp [awX, List.range_succ]
set_option maxRecDepth 100000 in
set_option maxHeartbeats 8000000 in
theorem run_c [Base] (w : World) (hB : Base.B ≤ w.heap.size) (g : Nat) (hg : w.heap[g]? = some (.cells #[.int .i64 4, .int .i64 1, .int .i64 0, .int .i64 0, .int .i64 8, .int .i64 512, .int .i64 0, .int .i64 0, .int .i64 19, .int .i64 0, .int .i64 0, .int .i64 0] 34 (0, 0))) :
    Calls Tryz.prog 12 #[.agg #[.int .i64 3, .int .i64 0, .int .i64 1], .slice (some ⟨g, 0, none⟩) 3 3] w fun e w' => ∃ G c A0 c0 A1 n1 c1 A2 n2 c2 A3 n3 c3 A4 n4 c4 A5 n5 c5 i6 i7 i8 i9, e = .returned (.tuple #[.slice (some ⟨G, 0, none⟩) 3 c, .agg #[.slice A0 0 c0, .slice A1 n1 c1, .slice A2 n2 c2, .slice A3 n3 c3, .slice A4 n4 c4, .slice A5 n5 c5, .int .i64 i6, .int .i64 i7, .int .i64 i8, .int .i64 i9], .int .i64 0]) ∧ w'.cell? ⟨G, 5, none⟩ = some (.int .i64 1) ∧ Below Base.B w w' := by
  obtain ⟨i0, hi0, hz0, hz1, hz2⟩ := info_parts info31
  have INFO := Lib.hid (And.intro hi0 (And.intro hz0 (And.intro hz1 hz2)))
  clear hi0 hz0 hz1 hz2
  have hb0 : Below w.heap.size w ((w.alloc (.cells #[.int .i64 3, .int .i64 0, .int .i64 1] 27)).alloc (.cells #[.slice none 0 0, .slice none 0 0, .slice none 0 0, .slice none 0 0, .slice none 0 0, .slice none 0 0, .int .i64 0, .int .i64 0, .int .i64 0, .int .i64 0] 54)) := ((Below.refl _ _).alloc (Nat.le_refl _) _).alloc (by simp) _
  have HB0 := Lib.hid hb0
  have R5 := Lib.hid (show ((w.alloc (.cells #[.int .i64 3, .int .i64 0, .int .i64 1] 27)).alloc (.cells #[.slice none 0 0, .slice none 0 0, .slice none 0 0, .slice none 0 0, .slice none 0 0, .slice none 0 0, .int .i64 0, .int .i64 0, .int .i64 0, .int .i64 0] 54)).heap[w.heap.size + 1]? = some _ by
    have := heap_alloc_new (w.alloc (.cells #[.int .i64 3, .int .i64 0, .int .i64 1] 27)) (.cells #[.slice none 0 0, .slice none 0 0, .slice none 0 0, .slice none 0 0, .slice none 0 0, .slice none 0 0, .int .i64 0, .int .i64 0, .int .i64 0, .int .i64 0] 54)
    rw [show (w.alloc (.cells #[.int .i64 3, .int .i64 0, .int .i64 1] 27)).heap.size = w.heap.size + 1 by simp] at this
    exact this)
  have HG := Lib.hid ((hb0.block _ (lt_of_block hg)).trans hg)
  clear hg hb0
  go_enter Tryz.func12, Tryz.ntmps12
  go_wp2_with (go_at_call 4; refine (rtNew_c _ (Nat.le_trans hB HB0.out.size) 3 1 0 (by decide) (by decide) (by decide) (by decide) (by decide)).mono ?_; rintro e w1 ⟨b, rfl, hh, hb⟩; have HH := Lib.hid hh; have HB1 := Lib.hid (HB0.out.trans (hb.mono HB0.out.size)); have HK1 := Lib.hid (Keep.of_below hb); clear hh hb)
  go_loopw [4, 21] (fun v iv wr => ∃ j c' b', j ≤ 3 ∧ iv = .int .i64 (j : Nat) ∧ wr.ownsRow (w.heap.size + 1 + 1) 31 2 v j (awX j) ∧ Rt wr b' (aw j) ∧ b'.r = b.r ∧ b'.p = b.p ∧ Keep ((w.alloc (.cells #[.int .i64 3, .int .i64 0, .int .i64 1] 27)).alloc (.cells #[.slice none 0 0, .slice none 0 0, .slice none 0 0, .slice none 0 0, .slice none 0 0, .slice none 0 0, .int .i64 0, .int .i64 0, .int .i64 0, .int .i64 0] 54)) wr ∧ c' = 0) (fun _ iv _ => 3 - (intOf iv).toNat)
  case atStart => exact ⟨0, 0, b, by omega, rfl, World.ownsRow_nil _ _ _ _, HH.out, rfl, rfl, HK1.out, rfl⟩
  case round =>
    obtain ⟨j, _, b', hj, rfl, ho, hh, hbr, hbp, hkp, _⟩ := hrel
    have HH3 := Lib.hid hh
    have HO := Lib.hid ho
    have HK := Lib.hid hkp
    have HBR := Lib.hid (And.intro hbr hbp)
    have hgr := hkp.2 _ _ _ (by rfl) HG.out
    have HGR := Lib.hid hgr
    have hc : j < 3 → wr.cell? ⟨g, j * 4, none⟩ = some (.int .i64 (awO j)) ∧ wr.cell? ⟨g, j * 4 + 1, none⟩ = some (.int .i64 (awA j)) ∧ wr.cell? ⟨g, j * 4 + 2, none⟩ = some (.int .i64 0) ∧ wr.cell? ⟨g, j * 4 + 3, none⟩ = some (.int .i64 0) := fun hlt => by
      obtain rfl | rfl | rfl : j = 0 ∨ j = 1 ∨ j = 2 := by omega
      all_goals exact ⟨cell_of_row _ _ _ _ _ _ hgr, cell_of_row _ _ _ _ _ _ hgr, cell_of_row _ _ _ _ _ _ hgr, cell_of_row _ _ _ _ _ _ hgr⟩
    clear hh ho hkp hgr hbr hbp
    by_cases hlt : j < 3
    · have d1 : decide ((j : Int) < 3) = true := by simp; omega
      obtain ⟨c0, c1, c2, c3⟩ := hc hlt
      clear hc
      have HD := Lib.hid (by have q := aw_do (wr.alloc (.cells #[.int .i64 (awO j), .int .i64 (awA j), .int .i64 0, .int .i64 0] 34)) j hlt (HH3.out.below ((Below.refl _ _).alloc (Nat.le_refl _) _)); rw [HBR.out.1] at q; exact q)
      have HSZ := Lib.hid (show w.heap.size + 1 + 1 ≤ wr.heap.size by have := HK.out.1; simpa using this)
      go_wp2_with (first
        | (go_at_call 7; refine HD.out.mono ?_; rintro e w2 ⟨rfl, ⟨g', hh⟩, hkp⟩; have HH2 := Lib.hid hh; have HKA := Lib.hid ((Keep.of_below ((Below.refl wr.heap.size wr).alloc (Nat.le_refl _) _)).trans hkp); have HO2 := Lib.hid (HKA.out.owns (by rfl) HO.out); clear hh hkp)
        | (at_builtin; refine wpList_append_own _ rfl (.tmp 25) (.tmp 29) 48 rfl (w.heap.size + 1 + 1) 31 i0 _ 2 16 Tryz.underlying48 INFO.out.1 INFO.out.2.1 INFO.out.2.2.1 INFO.out.2.2.2 rfl (by decide) u4 j (awX j) (by simp [Act.eval]) (HO2.out.alloc _) ⟨w2.heap.size, 0, none⟩ 1 1 [.int .i64 0, .int .i64 (awN j)] rfl rfl (two_cells w2 _ _ _) (two_ints _ _) (by unfold maxLen; omega) (by omega) (Nat.le_trans HSZ.out (Nat.le_trans HKA.out.1 (by simp))) ?_; intro v2 w5 ho hg _; have HO5 := Lib.hid ho; have HG5 := Lib.hid hg; clear ho hg))
      have bx : Below w2.heap.size w2 (w2.alloc (.cells #[.int .i64 0, .int .i64 (awN j)] 31)) := (Below.refl _ _).alloc (Nat.le_refl _) _
      refine ⟨⟨j + 1, 0, b'.on g', by omega, by go_num, by rw [awX_succ]; exact HO5.out, (HH2.out.below bx).grown (HO2.out.alloc _) HG5.out, HBR.out.1, HBR.out.2, Keep.grown ((HK.out.trans HKA.out).trans (Keep.of_below bx)) (by simp) (HO2.out.alloc _) HG5.out, rfl⟩, by simp [intOf]; omega⟩
    · obtain rfl : j = 3 := by omega
      have d1 : decide (((3 : Nat) : Int) < 3) = false := by decide
      clear hc
      have ho3 := HO.out
      obtain ⟨G, cap, cur, rfl, hB, hG, _⟩ : ∃ G cap cur, u4 = .slice (some ⟨G, 0, none⟩) 3 cap ∧ w.heap.size + 1 + 1 ≤ G ∧ wr.heap[G]? = some (.cells cur 31 (0, 0)) ∧ True := by
        rcases ho3.2 with ⟨_, h0⟩ | ⟨G, cap, cur, hv, hB, hh, _⟩
        · simp at h0
        · exact ⟨G, cap, cur, hv, hB, hh, trivial⟩
      have hc5 : wr.cell? ⟨G, 5, none⟩ = some (.int .i64 1) := by
        have q := ho3.cellAt 5 (by decide)
        simpa [awX, awN, List.range_succ] using q
      have HC5 := Lib.hid (And.intro hc5 hB)
      clear ho3 hc5 hG hB
      obtain ⟨rr, vw, vp, hp⟩ := HH3.out
      have HV := Lib.hid (by have q := view_c wr hp rfl (by decide) (by decide) (by decide); rw [HBR.out.2] at q; exact q)
      have r0 := cell_of_row _ _ 0 _ _ _ rr
      rw [HBR.out.1, HBR.out.2] at r0
      have HR5 := Lib.hid (HK.out.2 _ _ _ (by rfl) R5.out)
      clear rr hp
      go_wp2_with (go_at_call 39; refine HV.out.mono ?_; rintro e w3 ⟨A0, c0, A1, n1, c1, A2, n2, c2, A3, n3, c3, A4, n4, c4, A5, n5, c5, i6, i7, i8, i9, rfl, hb⟩; have HB3 := Lib.hid hb; have hr := (hb.block _ (lt_of_block HR5.out)).trans HR5.out; have HR3 := Lib.hid hr; have y0 := cell_of_row _ _ 0 _ _ _ hr; have y1 := cell_of_row _ _ 1 _ _ _ hr; have y2 := cell_of_row _ _ 2 _ _ _ hr; have y3 := cell_of_row _ _ 3 _ _ _ hr; have y4 := cell_of_row _ _ 4 _ _ _ hr; have y5 := cell_of_row _ _ 5 _ _ _ hr; have y6 := cell_of_row _ _ 6 _ _ _ hr; have y7 := cell_of_row _ _ 7 _ _ _ hr; have y8 := cell_of_row _ _ 8 _ _ _ hr; have y9 := cell_of_row _ _ 9 _ _ _ hr; have x0 := frozen_of_row _ _ 0 _ _ hr; have x1 := frozen_of_row _ _ 1 _ _ hr; have x2 := frozen_of_row _ _ 2 _ _ hr; have x3 := frozen_of_row _ _ 3 _ _ hr; have x4 := frozen_of_row _ _ 4 _ _ hr; have x5 := frozen_of_row _ _ 5 _ _ hr; have x6 := frozen_of_row _ _ 6 _ _ hr; have x7 := frozen_of_row _ _ 7 _ _ hr; have x8 := frozen_of_row _ _ 8 _ _ hr; have x9 := frozen_of_row _ _ 9 _ _ hr; clear hb hr)
      have hF := fin10 _ _ _ _ _ _ _ _ _ _ _ _ _ (.slice A0 0 c0) (.slice A1 n1 c1) (.slice A2 n2 c2) (.slice A3 n3 c3) (.slice A4 n4 c4) (.slice A5 n5 c5) (.int .i64 i6) (.int .i64 i7) (.int .i64 i8) (.int .i64 i9) HR3.out
      have q0 := cell_of_row _ _ 0 _ _ _ hF
      have q1 := cell_of_row _ _ 1 _ _ _ hF
      have q2 := cell_of_row _ _ 2 _ _ _ hF
      have q3 := cell_of_row _ _ 3 _ _ _ hF
      have q4 := cell_of_row _ _ 4 _ _ _ hF
      have q5 := cell_of_row _ _ 5 _ _ _ hF
      have q6 := cell_of_row _ _ 6 _ _ _ hF
      have q7 := cell_of_row _ _ 7 _ _ _ hF
      have q8 := cell_of_row _ _ 8 _ _ _ hF
      have q9 := cell_of_row _ _ 9 _ _ _ hF
      have hX := (HB3.out.cell (World.block_lt_of_cell? _ _ HC5.out.1)).trans HC5.out.1
      have hSZ : Base.B ≤ wr.heap.size := Nat.le_trans hB (Nat.le_trans HB0.out.size HK.out.1)
      have hN : G ≠ w.heap.size + 1 := by have := HC5.out.2; omega
      refine bodyPost_ret (v := .tuple #[.slice (some ⟨G, 0, none⟩) 3 cap, .agg #[.slice A0 0 c0, .slice A1 n1 c1, .slice A2 n2 c2, .slice A3 n3 c3, .slice A4 n4 c4, .slice A5 n5 c5, .int .i64 i6, .int .i64 i7, .int .i64 i8, .int .i64 i9], .int .i64 0]) (by simp [results, Tryz.results12, go_sem, q0, q1, q2, q3, q4, q5, q6, q7, q8, q9]) rfl ⟨G, cap, A0, c0, A1, n1, c1, A2, n2, c2, A3, n3, c3, A4, n4, c4, A5, n5, c5, i6, i7, i8, i9, rfl, (frame10 _ _ _ _ _ _ _ _ _ _ _ _).cell hX hN, ?_⟩
      exact ((HB0.out.mono hB).trans (HK.out.3 (Nat.le_trans hB HB0.out.size))).trans ((HB3.out.mono hSZ).trans ((frame10 _ _ _ _ _ _ _ _ _ _ _ _).below (Nat.le_trans hSZ HB3.out.size) (fun j _ e => e ▸ Nat.le_succ_of_le hB)))
end Go.Proofs.YtibgbahaldojiaaGreat.Fns
namespace Go.Proofs.YtibgbahaldojiaaGreat.Fns
open Go Go.RowKit
set_option maxRecDepth 100000 in
set_option maxHeartbeats 4000000 in
/-- The three operations: two objects' answers and one swept. -/
theorem awake_c (w : World) : Calls Tryz.prog 8 #[] w fun e w' => e = .returned (.bool true) ∧ Below w.heap.size w w' := by
  have hb0 : Below w.heap.size w (w.alloc (.cells #[.int .i64 4, .int .i64 1, .int .i64 0, .int .i64 0, .int .i64 8, .int .i64 512, .int .i64 0, .int .i64 0, .int .i64 19, .int .i64 0, .int .i64 0, .int .i64 0] 34)) := (Below.refl _ _).alloc (Nat.le_refl _) _
  have HR := Lib.hid (@run_c ⟨w.heap.size⟩ (w.alloc (.cells #[.int .i64 4, .int .i64 1, .int .i64 0, .int .i64 0, .int .i64 8, .int .i64 512, .int .i64 0, .int .i64 0, .int .i64 19, .int .i64 0, .int .i64 0, .int .i64 0] 34)) hb0.size w.heap.size (heap_alloc_new w _))
  have HB0 := Lib.hid hb0
  clear hb0
  go_enter Tryz.func8, Tryz.ntmps8
  go_wp2_with (first
    | (go_at_call 12; refine HR.out.mono ?_; rintro e w1 ⟨G, c, A0, c0, A1, n1, c1, A2, n2, c2, A3, n3, c3, A4, n4, c4, A5, n5, c5, i6, i7, i8, i9, rfl, hc, hb⟩; have q0 := cell_of_row _ _ 0 _ _ _ (heap_alloc_new w1 (.cells #[.slice A0 0 c0, .slice A1 n1 c1, .slice A2 n2 c2, .slice A3 n3 c3, .slice A4 n4 c4, .slice A5 n5 c5, .int .i64 i6, .int .i64 i7, .int .i64 i8, .int .i64 i9] 54)); have q5 := cell_al hc (.cells #[.slice A0 0 c0, .slice A1 n1 c1, .slice A2 n2 c2, .slice A3 n3 c3, .slice A4 n4 c4, .slice A5 n5 c5, .int .i64 i6, .int .i64 i7, .int .i64 i8, .int .i64 i9] 54); have HBZ := Lib.hid ((HB0.out.trans hb).trans (((Below.refl w1.heap.size w1).alloc (Nat.le_refl _) (.cells #[.slice A0 0 c0, .slice A1 n1 c1, .slice A2 n2 c2, .slice A3 n3 c3, .slice A4 n4 c4, .slice A5 n5 c5, .int .i64 i6, .int .i64 i7, .int .i64 i8, .int .i64 i9] 54)).mono (HB0.out.trans hb).size)); clear hc hb)
    | (go_at_call 6; refine (err_c _ _).mono ?_; rintro e w2 ⟨rfl, rfl⟩))
  go_ret
  exact ⟨rfl, HBZ.out⟩
end Go.Proofs.YtibgbahaldojiaaGreat.Fns
