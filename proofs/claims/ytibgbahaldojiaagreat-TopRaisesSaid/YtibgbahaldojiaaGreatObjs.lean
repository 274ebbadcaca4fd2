/- The heap at objects of one field in blocks of 2 words: which fields are addresses, finalizers, new objects. -/
import Derived.Test.YtibgbahaldojiaaGreatHeap
namespace Go.Proofs.YtibgbahaldojiaaGreat.Fns
open Go Go.RowKit
theorem all1_c (w : World) : Calls Tryz.prog 127 #[.int .i64 1] w fun e w' => ∃ s c, e = .returned (.slice (some ⟨s, 0, none⟩) 1 c) ∧ w'.cell? ⟨s, 0, none⟩ = some (.int .i64 0) ∧ Below w.heap.size w w' := by
  obtain ⟨i0, hi0, hz0, hz1, hz2⟩ := info_parts info3
  have INFO := Lib.hid (And.intro hi0 (And.intro hz0 (And.intro hz1 hz2)))
  clear hi0 hz0 hz1 hz2
  go_enter Tryz.func127, Tryz.ntmps127
  go_wp2
  go_loopw [3, 4, 6] (fun v iv k wr => (k = .int .i64 0 ∧ v = .slice none 0 0 ∧ wr = w) ∨ (k = .int .i64 1 ∧ ∃ s c, v = .slice (some ⟨s, 0, none⟩) 1 c ∧ wr.ownsRow w.heap.size 3 1 (.slice (some ⟨s, 0, none⟩) 1 c) 1 [.int .i64 0] ∧ Below w.heap.size w wr)) (fun _ _ k _ => 1 - (intOf k).toNat)
  case atStart => exact .inl ⟨rfl, rfl, rfl⟩
  case round =>
    rcases hrel with ⟨rfl, rfl, rfl⟩ | ⟨rfl, s, c, rfl, ho, hb⟩
    · go_wp2_with (at_builtin; refine wpList_push _ rfl (.tmp 9) (.tmp 11) 51 rfl wr.heap.size 3 i0 Tryz.underlying51 INFO.out.1 INFO.out.2.1 INFO.out.2.2.1 INFO.out.2.2.2 (.slice none 0 0) 0 [] (by simp [Act.eval]) (World.ownsRow_nil _ _ _ _) (wr.heap.size + 1) (some ⟨wr.heap.size, 0, none⟩) 1 1 _ rfl (ints_one wr _) (by omega) (by simp) ?_; intro v2 w3 ho hg _; have HO := Lib.hid ho; have HG := Lib.hid hg; clear ho hg)
      obtain ⟨s, c, rfl⟩ : ∃ s c, v2 = .slice (some ⟨s, 0, none⟩) 1 c := by
        rcases HO.out.2 with ⟨_, h0⟩ | ⟨b, cp, _, h1, _⟩
        · omega
        · exact ⟨b, cp, h1⟩
      go_roundw
      case rel => exact .inr ⟨by go_num, s, c, rfl, by simpa using HO.out, ((Below.refl wr.heap.size wr).alloc (Nat.le_refl _) _).grown HG.out (by simp) (fun k hk => by cases hk)⟩
      case measure => simp [intOf]
    · have HO := Lib.hid ho
      have HB := Lib.hid hb
      clear ho hb
      go_wp2
      go_ret
      exact ⟨s, c, rfl, by have := HO.out.cellAt 0 (by simp); simpa using this, HB.out⟩
/-- Which fields are addresses: the first, of one of kind 2; none, of one of kind 3. -/
def RefsP (k : Int) (w : World) (e : Ending) (w' : World) : Prop := Below w.heap.size w w' ∧ ((k = 2 ∧ ∃ s c, e = .returned (.slice (some ⟨s, 0, none⟩) 1 c) ∧ w'.cell? ⟨s, 0, none⟩ = some (.int .i64 0)) ∨ (k = 3 ∧ e = .returned (.slice none 0 0)))
section
variable (w : World) {B : HpB} {n m : Nat} {f : Nat → Int}
section
variable (h : Hp w B n m f) (hm : m ≤ 32) (hn : 2 ≤ n) (i a : Nat) (hi : i < m) (ha : a = 64 + i * 2) (k : Int) (fin : Bool) (hk : k = 2 ∨ k = 3) (hf : f a = hw k 1 fin)
include h hm hn hi ha hk hf
theorem refs_c : Calls Tryz.prog 92 #[.pointer (some ⟨B.h, 0, none⟩), .int .i64 (a : Int)] w (RefsP k w) := by
  have HC := Lib.hid (head_c w h hm hn i a hi ha k fin hk hf)
  unfold hd at HC
  clear h hf ha
  rcases hk with rfl | rfl
  · go_enter Tryz.func92, Tryz.ntmps92
    go_wp2_with (first
      | (go_at_call 59; refine HC.out.mono ?_; rintro e w1 ⟨rfl, hb⟩; have HB := Lib.hid hb; clear hb)
      | (go_at_call 127; refine (all1_c _).mono ?_; rintro e w2 ⟨s, c, rfl, hc, hb⟩; have HB2 := Lib.hid hb; have HCC := Lib.hid hc; clear hb hc))
    go_ret
    exact ⟨(HB.out.alloc HB.out.size _).trans (HB2.out.mono (Nat.le_trans HB.out.size (by simp))), .inl ⟨rfl, s, c, rfl, HCC.out⟩⟩
  · go_enter Tryz.func92, Tryz.ntmps92
    go_wp2_with (go_at_call 59; refine HC.out.mono ?_; rintro e w1 ⟨rfl, hb⟩; have HB := Lib.hid hb; clear hb)
    go_ret
    exact ⟨HB.out.alloc HB.out.size _, .inr ⟨rfl, rfl⟩⟩
set_option maxHeartbeats 1000000 in
theorem final_have (hfin : fin = true) : Calls Tryz.prog 107 #[.pointer (some ⟨B.h, 0, none⟩), .int .i64 (a : Int)] w fun e w' => e = .returned (.int .i64 4) ∧ Below w.heap.size w w' := by
  subst hfin
  have HC := Lib.hid (head_c w h hm hn i a hi ha k true hk hf)
  unfold hd at HC
  clear h hf ha
  rcases hk with rfl | rfl
  all_goals
    go_enter Tryz.func107, Tryz.ntmps107
    go_wp2_with (go_at_call 59; refine HC.out.mono ?_; rintro e w1 ⟨rfl, hb⟩; have HB := Lib.hid hb; clear hb)
    go_ret
    exact ⟨rfl, HB.out.alloc HB.out.size _⟩
set_option maxRecDepth 100000 in
set_option maxHeartbeats 1000000 in
theorem final_ok (hfin : fin = false) : Calls Tryz.prog 107 #[.pointer (some ⟨B.h, 0, none⟩), .int .i64 (a : Int)] w fun e w' => e = .returned (.int .i64 0) ∧ Hp w' B n m (put f a (hw k 1 true)) ∧ Frame w w' (SFoot B.sp B.g m) := by
  subst hfin
  have HC := Lib.hid (head_c w h hm hn i a hi ha k false hk hf)
  unfold hd at HC
  have HX := Lib.hid (hPut_c (k := k) (len := 1) (fin := true) (hk := hk) (hl := by omega))
  unfold hd at HX
  have H := Lib.hid h
  have HA := Lib.hid ha
  obtain ⟨x, hx⟩ : ∃ x, hw k 1 true = x := ⟨_, rfl⟩
  rw [hx] at HX
  rw [hx]
  clear h hf ha hx
  rcases hk with rfl | rfl
  all_goals
    go_enter Tryz.func107, Tryz.ntmps107
    go_wp2_with (first
      | (go_at_call 59; refine HC.out.mono ?_; rintro e w1 ⟨rfl, hb⟩; have HB := Lib.hid hb; have H1 := Lib.hid (H.out.below hb); clear hb)
      | (go_at_call 125; refine (HX.out _).mono ?_; rintro e w2 ⟨rfl, hb⟩; have HB2 := Lib.hid hb; have H2 := Lib.hid ((H1.out.below ((Below.refl _ _).alloc (Nat.le_refl _) _)).below hb); have k1 := H2.out.c0; have s1 := H2.out.s0; clear hb)
      | (go_at_call 95; refine (arStore_c _ H2.out.ar a (by have := HA.out; omega) x).mono ?_; rintro e w3 ⟨rfl, h2, f2⟩; have H3 := Lib.hid h2; have F3 := Lib.hid f2; clear h2 f2))
    have hb := (HB.out.alloc HB.out.size _).trans (HB2.out.mono (Nat.le_trans HB.out.size (by simp)))
    go_ret
    exact ⟨rfl, H2.out.words H3.out F3.out, (Frame.of_below hb).trans F3.out (fun k _ e => by simp [SFoot, e])⟩
end
set_option maxHeartbeats 1000000 in
theorem hmay_c (hp : Nat) (k : Int) (hk : k = 2 ∨ k = 3) : Calls Tryz.prog 123 #[.pointer (some ⟨hp, 0, none⟩), hd k 1 false] w fun e w' => e = .returned (.int .i64 0) ∧ Below w.heap.size w w' := by
  have HX := Lib.hid (hMay_c (k := k) (len := 1) (fin := false) (hk := hk) (hl := by omega))
  unfold hd at HX ⊢
  obtain ⟨b0, b1, b2, b3⟩ := box_head w k 1 false
  have HB3 := Lib.hid (And.intro b0 b3)
  have HB0 := Lib.hid (show Below w.heap.size w (w.alloc (.cells #[.int .i64 k, .int .i64 0, .int .i64 1, .bool false] 111)) from (Below.refl _ _).alloc (Nat.le_refl _) _)
  rcases hk with rfl | rfl
  all_goals
    go_enter Tryz.func123, Tryz.ntmps123
    go_wp2_with (go_at_call 149; refine (HX.out _).mono ?_; rintro e w1 ⟨rfl, hb⟩; have HB := Lib.hid hb; have b0 := (hb.cell (p := ⟨w.heap.size, 0, none⟩) (by simp)).trans HB3.out.1; have b3 := (hb.cell (p := ⟨w.heap.size, 3, none⟩) (by simp)).trans HB3.out.2; clear hb)
    go_ret
    exact ⟨rfl, HB0.out.trans (HB.out.mono HB0.out.size)⟩
set_option maxRecDepth 100000 in
set_option maxHeartbeats 2000000 in
theorem make_c (h : Hp w B n m f) (hm : m < 32) (hn : 2 ≤ n) (a : Nat) (ha : a = 64 + m * 2) (k : Int) (hk : k = 2 ∨ k = 3) : Calls Tryz.prog 89 #[.pointer (some ⟨B.h, 0, none⟩), hd k 1 false] w fun e w' => ∃ g' : PgB, e = .returned (.tuple #[.int .i64 (a : Int), .int .i64 0]) ∧ Hp w' { B with g := g' } n (m + 1) (put (wipe f a 2) a (hw k 1 false)) ∧ Frame w w' (SFoot B.sp B.g m) ∧ (∀ j, SFoot B.sp g' (m + 1) j → j < w.heap.size → SFoot B.sp B.g m j) := by
  have HX := Lib.hid (hPut_c (k := k) (len := 1) (fin := false) (hk := hk) (hl := by omega))
  have HY := Lib.hid (fun w hp => hmay_c w hp k hk)
  obtain ⟨x, hx⟩ : ∃ x, hw k 1 false = x := ⟨_, rfl⟩
  rw [hx] at HX
  rw [hx]
  unfold hd at HX HY ⊢
  have HA := Lib.hid ha
  have hk2 : 2 ≤ k ∧ k ≤ 3 := by omega
  obtain ⟨k0, k1⟩ := hk2
  have HB0 := Lib.hid (show Below w.heap.size w (w.alloc (.cells #[.int .i64 k, .int .i64 0, .int .i64 1, .bool false] 111)) from (Below.refl _ _).alloc (Nat.le_refl _) _)
  have R0 := Lib.hid (heap_alloc_new w (.cells #[.int .i64 k, .int .i64 0, .int .i64 1, .bool false] 111))
  have H0 := Lib.hid (h.below HB0.out)
  clear h ha hk hx
  go_enter Tryz.func89, Tryz.ntmps89
  go_wp2_with (go_at_call 123; refine (HY.out _ _).mono ?_; rintro e w1 ⟨rfl, hb⟩; have HB1 := Lib.hid hb; have H1 := Lib.hid (H0.out.below hb); have hr := (hb.block _ (lt_of_block R0.out)).trans R0.out; have R1 := Lib.hid hr; have c2 := cell_of_row _ _ 2 _ _ _ hr; have k0 := H1.out.c0; have D1 := Lib.hid (H1.out.below (w' := w1.drew) ⟨rfl, rfl, rfl, Nat.le_refl _, fun _ _ => rfl⟩); have ew : IntKind.i64.wrap 2 = 2 := IntWalk.i64_in _ (by omega); clear hb hr)
  go_region_with (go_at_call 124; refine (alloc_c _ D1.out.sm hm hn a HA.out).mono ?_; rintro e w2 ⟨g', rfl, a1, a2, a3⟩; have A2 := Lib.hid a2; have A3 := Lib.hid a3; have H2 := Lib.hid (D1.out.turn a1 a2); have hr := a2.heap R1.out (D1.out.sm.apart (o := .cells #[.int .i64 k, .int .i64 0, .int .i64 1, .bool false] 111) R1.out (by rfl)); have R2 := Lib.hid hr; have b0 := cell_of_row _ _ 0 _ _ _ hr; have b1 := cell_of_row _ _ 1 _ _ _ hr; have b2 := cell_of_row _ _ 2 _ _ _ hr; have b3 := cell_of_row _ _ 3 _ _ _ hr; clear a1 a2 a3 hr)
  all_goals
    go_wp2_with (first
      | (go_at_call 125; refine (HX.out _).mono ?_; rintro e w3 ⟨rfl, hb⟩; have HB3 := Lib.hid hb; have H3 := Lib.hid (H2.out.below hb); have k3 := H3.out.c0; have s3 := H3.out.s0; clear hb)
      | (go_at_call 95; refine (arStore_c _ H3.out.ar a (by have := HA.out; omega) x).mono ?_; rintro e w4 ⟨rfl, h2, f2⟩; have H4 := Lib.hid h2; have F4 := Lib.hid f2; clear h2 f2))
    have hb := HB0.out.trans (HB1.out.mono HB0.out.size)
    have hz := hb.size
    have hf : Frame w w4 (SFoot B.sp B.g m) := (((Frame.of_below (F := SFoot B.sp B.g m) hb).drew.trans A2.out (fun _ _ e => e)).trans (Frame.of_below (F := fun _ => False) HB3.out) (fun _ _ e => e.elim)).trans F4.out (fun k _ e => by simp [SFoot, e])
    refine bodyPost_ret (v := .tuple #[.int .i64 (a : Int), .int .i64 0]) (by simp [results, Tryz.results89, go_sem]) rfl ⟨g', rfl, H3.out.words H4.out F4.out, hf, fun j hj hlt => A3.out j hj (Nat.lt_of_lt_of_le hlt hz)⟩
end
end Go.Proofs.YtibgbahaldojiaaGreat.Fns
