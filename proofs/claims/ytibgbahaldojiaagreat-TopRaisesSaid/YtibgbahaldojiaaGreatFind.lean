/- The space at blocks of 2 words in one page: the page that is open, the place that comes next. -/
/- The space at blocks of 2 words in one page: a block is made. -/
/- The space at blocks of 2 words in one page: a block is found. -/
import Derived.Test.YtibgbahaldojiaaGreatKeys
namespace Go.Proofs.YtibgbahaldojiaaGreat.Fns
open Go Go.RowKit
theorem zero172 (w : World) : (zeroValue 172).run Tryz.prog w = .ok (.pointer none) w := by kernel_rfl
theorem sz_cell (w : World) : (w.alloc (.cells #[.int .i64 2, .int .i64 4, .int .i64 8, .int .i64 16, .int .i64 32] 3)).cell? ⟨w.heap.size, 0, none⟩ = some (.int .i64 2) := cell_of_row _ _ 0 _ _ _ (heap_alloc_new w _)
section
variable (w : World) {b : SpB} {n : Nat} {PF : Nat → Bool} {f : Nat → Int} {es : Array MapEntry} {ck : Nat}
set_option maxHeartbeats 1000000 in
theorem open0_c (h : Sp w b n PF f #[] ck) : Calls Tryz.prog 207 #[.pointer (some ⟨b.sp, 0, none⟩), .int .i64 0] w fun e w' => e = .returned (.tuple #[.int .i64 0, .bool false]) ∧ Below w.heap.size w w' := by
  have HB := Lib.hid (show Below w.heap.size w (w.alloc (.cells #[.int .i64 2, .int .i64 4, .int .i64 8, .int .i64 16, .int .i64 32] 3)) from (Below.refl _ _).alloc (Nat.le_refl _) _)
  have H := Lib.hid (h.below HB.out)
  have k2 := H.out.c2
  have ks := sz_cell w
  clear h
  go_enter Tryz.func207, Tryz.ntmps207
  go_wp2_with (first
    | (go_at_call 187; refine (sizes_c _).mono ?_; rintro e w' ⟨rfl, rfl⟩)
    | (go_at_call 215; refine (keys_c _ _).mono ?_; rintro e w' ⟨rfl, rfl⟩)
    | (go_at_call 214; refine (sorted0_c _ _ _ _ (by simp) H.out.small).mono ?_; rintro e w1 ⟨rfl, hb⟩; have HB1 := Lib.hid (HB.out.trans (hb.mono HB.out.size)); clear hb))
  go_loopw [8, 9, 21] (fun _ _ k wr => k = .int .i64 0 ∧ wr = w1) (fun _ _ _ _ => 0)
  case atStart => exact ⟨rfl, rfl⟩
  case round =>
    obtain ⟨rfl, rfl⟩ := hrel
    go_wp2
    refine bodyPost_ret (v := .tuple #[.int .i64 0, .bool false]) (by simp [results, Tryz.results207, go_sem]) rfl ⟨rfl, HB1.out⟩
set_option maxHeartbeats 1000000 in
theorem open1_c {p q r born : Nat} {G : Nat → Bool} (h : Sp w b n PF f #[⟨.int .i64 1, .pointer (some ⟨p, 0, none⟩), born⟩] ck) (hbo : born < ck) (hp : Pb w p q r G) (hc : cntF G 32 ≠ 32) : Calls Tryz.prog 207 #[.pointer (some ⟨b.sp, 0, none⟩), .int .i64 0] w fun e w' => e = .returned (.tuple #[.int .i64 1, .bool true]) ∧ Below w.heap.size w w' := by
  have HB := Lib.hid (show Below w.heap.size w (w.alloc (.cells #[.int .i64 2, .int .i64 4, .int .i64 8, .int .i64 16, .int .i64 32] 3)) from (Below.refl _ _).alloc (Nat.le_refl _) _)
  have H := Lib.hid (h.below HB.out)
  have HP := Lib.hid (hp.below HB.out)
  have k2 := H.out.c2
  have ks := sz_cell w
  have HC := Lib.hid (show ((cntF G 32 : Int) == 32) = false by simp; omega)
  have HBO := Lib.hid hbo
  clear h hp hc hbo
  go_enter Tryz.func207, Tryz.ntmps207
  go_wp2_with (first
    | (go_at_call 187; refine (sizes_c _).mono ?_; rintro e w' ⟨rfl, rfl⟩)
    | (go_at_call 215; refine (keys_c _ _).mono ?_; rintro e w' ⟨rfl, rfl⟩)
    | (go_at_call 214; refine (sorted1_c _ _ _ _ _ _ (by simp) H.out.small HBO.out).mono ?_; rintro e w1 ⟨g, c, rfl, kg, hb⟩; have HB1 := Lib.hid (HB.out.trans (hb.mono HB.out.size)); have H1 := Lib.hid (H.out.below hb); have HP1 := Lib.hid (HP.out.below hb); have k2 := H1.out.c2; have hl := lookup_hit Tryz.underlying147 w1 H1.out.small 1 _ 0 false (by rfl); clear hb))
  go_loopw [8, 9, 21] (fun _ _ k wr => k = .int .i64 0 ∧ wr = w1) (fun _ _ _ _ => 0)
  case atStart => exact ⟨rfl, rfl⟩
  case round =>
    obtain ⟨rfl, rfl⟩ := hrel
    go_wp2_with (first
      | (go_at_call 111; refine (pbWords_c _ HP1.out).mono ?_; rintro e w' ⟨rfl, rfl⟩)
      | (go_at_call 216; refine (pbFull_c _ HP1.out _ HC.out).mono ?_; rintro e w' ⟨rfl, m, rfl⟩))
    refine bodyPost_ret (v := .tuple #[.int .i64 1, .bool true]) (by simp [results, Tryz.results207, go_sem]) rfl ⟨rfl, HB1.out.trans ⟨rfl, rfl, rfl, Nat.le_refl _, fun _ _ => rfl⟩⟩
end
end Go.Proofs.YtibgbahaldojiaaGreat.Fns
namespace Go.Proofs.YtibgbahaldojiaaGreat.Fns
open Go Go.RowKit
/-- The pages' bits at first, and with page 1 taken. -/
def pf0 : Nat → Bool := put (fun _ => false) 0 true
def pf1 : Nat → Bool := put pf0 1 true
theorem pf0_at : pf0 1 = false := by simp [pf0, put]
theorem pf0_lt (j : Nat) (hj : j < 1) : pf0 j = true := by
  obtain rfl : j = 0 := by omega
  simp [pf0, put]
theorem pf1_back : put pf1 1 false = pf0 := by
  funext i
  unfold pf1 put pf0 put
  by_cases h : i = 1 <;> simp [h]
def ent (p born : Nat) : Array MapEntry := #[⟨.int .i64 1, .pointer (some ⟨p, 0, none⟩), born⟩]
theorem drew_below (w : World) (m : Nat) : Below w.heap.size w (w.drewN m) := ⟨rfl, rfl, rfl, Nat.le_refl _, fun _ _ => rfl⟩
theorem frame_drewN {w w' : World} {m : Nat} {F : Nat → Prop} (h : Frame w w' F) : Frame w (w'.drewN m) F := h.drewN m
section
variable (w : World) {b : SpB} {n : Nat} {f : Nat → Int} {ck : Nat}
set_option maxHeartbeats 1000000 in
theorem first1_c {p q r born : Nat} {G : Nat → Bool} (h : Sp w b n pf1 f (ent p born) ck) (hbo : born < ck) (hp : Pb w p q r G) (hc : cntF G 32 ≠ 32) : Calls Tryz.prog 190 #[.pointer (some ⟨b.sp, 0, none⟩), .int .i64 0] w fun e w' => e = .returned (.tuple #[.int .i64 1, .int .i64 0]) ∧ Below w.heap.size w w' := by
  have HO := Lib.hid (open1_c w h hbo hp hc)
  clear h hbo hp hc
  go_enter Tryz.func190, Tryz.ntmps190
  go_wp2_with (go_at_call 207; refine HO.out.mono ?_; rintro e w1 ⟨rfl, hb⟩; have HB := Lib.hid hb; clear hb)
  refine bodyPost_ret (v := .tuple #[.int .i64 1, .int .i64 0]) (by simp [results, Tryz.results190, go_sem]) rfl ⟨rfl, HB.out⟩
set_option maxHeartbeats 1000000 in
theorem first0_c (h : Sp w b n pf0 f #[] ck) (hn : 2 ≤ n) : Calls Tryz.prog 190 #[.pointer (some ⟨b.sp, 0, none⟩), .int .i64 0] w fun e w' => ∃ p q r, e = .returned (.tuple #[.int .i64 1, .int .i64 0]) ∧ Sp w' b n pf1 f (ent p ck) (ck + 1) ∧ Pb w' p q r (fun _ => false) ∧ Frame w w' (fun k => k = b.pr ∨ k = b.sm) ∧ w.heap.size ≤ p ∧ w.heap.size ≤ q ∧ w.heap.size ≤ r := by
  have HO := Lib.hid (open0_c w h)
  have H := Lib.hid h
  clear h
  go_enter Tryz.func190, Tryz.ntmps190
  go_wp2_with (first
    | (go_at_call 207; refine HO.out.mono ?_; rintro e w1 ⟨rfl, hb⟩; have HB := Lib.hid hb; have H1 := Lib.hid (H.out.below hb); have k1 := H1.out.c1; clear hb)
    | (go_at_call 189; go_loud (refine (pgTake_c _ H1.out.pg 1 (by omega) pf0_at pf0_lt).mono ?_; rintro e w2 ⟨rfl, hp, hf⟩); have H2 := Lib.hid (H1.out.pages hp hf); have HF2 := Lib.hid hf; clear hp hf)
    | (go_at_call 208; refine (pbNew_c _).mono ?_; rintro e w3 ⟨p, q, r, rfl, hp, hb, e1, e2, e3⟩; have H3 := Lib.hid (H2.out.below hb); have HP3 := Lib.hid hp; have HB3 := Lib.hid hb; have k2 := H3.out.c2; have HE := Lib.hid (And.intro e1 (And.intro e2 e3)); have hu := update_new Tryz.underlying147 w3 H3.out.small 1 (.pointer (some ⟨p, 0, none⟩)) (by rfl); clear hp hb e1 e2 e3))
  obtain ⟨cr, hr, _⟩ := HP3.out.bits.row
  have hfb := frame_block (w := w3) b.sm (.map (ent p ck) (ck + 1))
  have hbl : Frame w w3 (fun k => k = b.pr ∨ k = b.sm) := ((Frame.of_below (F := fun k => k = b.pr ∨ k = b.sm) HB.out).trans HF2.out (fun _ _ e => .inl e)).trans (Frame.of_below (F := fun _ => False) HB3.out) (fun _ _ e => e.elim)
  have hz : w.heap.size ≤ w2.heap.size := Nat.le_trans HB.out.size HF2.out.size
  refine bodyPost_ret (v := .tuple #[.int .i64 1, .int .i64 0]) (by simp [results, Tryz.results190, go_sem]) rfl ⟨p, q, r, rfl, H3.out.smalls (ent p ck) (ck + 1),
    HP3.out.frame hfb (heap_ne HP3.out.box H3.out.small (fun e => by cases e)) (heap_ne HP3.out.bits.box H3.out.small (fun e => by cases e)) (heap_ne hr H3.out.small (fun e => by cases e)),
    hbl.trans hfb (fun _ _ e => .inr e), Nat.le_trans hz HE.out.1, Nat.le_trans hz HE.out.2.1, Nat.le_trans hz HE.out.2.2⟩
end
/-- The blocks of a page of small blocks. -/
structure PgB where
  p : Nat
  q : Nat
  r : Nat
def lowF (m : Nat) : Nat → Bool := fun i => decide (i < m)
/-- A space whose first m places of 2 words in page 1 are taken, and nothing else. -/
def Sm (w : World) (b : SpB) (g : PgB) (n m : Nat) (f : Nat → Int) : Prop :=
  (m = 0 ∧ ∃ ck, Sp w b n pf0 f #[] ck) ∨
  (0 < m ∧ ∃ born ck, born < ck ∧ Sp w b n pf1 f (ent g.p born) ck ∧ Pb w g.p g.q g.r (lowF m) ∧ b.pr ≠ g.r)
def SFoot (b : SpB) (g : PgB) (m k : Nat) : Prop := k = b.sp ∨ k = b.ar ∨ k = b.wb ∨ k = b.pg ∨ k = b.pb ∨ k = b.pr ∨ k = b.sm ∨ k = b.lg ∨ 0 < m ∧ (k = g.p ∨ k = g.q ∨ k = g.r)
section
variable {w w' : World} {b : SpB} {g : PgB} {n m : Nat} {f : Nat → Int} {G : Nat → Prop}
theorem Sm.frame (h : Sm w b g n m f) (hf : Frame w w' G) (hG : ∀ k, SFoot b g m k → ¬ G k) : Sm w' b g n m f := by
  have hn : b.none G := ⟨hG _ (by simp [SFoot]), hG _ (by simp [SFoot]), hG _ (by simp [SFoot]), hG _ (by simp [SFoot]), hG _ (by simp [SFoot]), hG _ (by simp [SFoot]), hG _ (by simp [SFoot]), hG _ (by simp [SFoot])⟩
  rcases h with ⟨h0, ck, h1⟩ | ⟨h0, born, ck, h1, h2, h3, h4⟩
  · exact .inl ⟨h0, ck, h1.frame hf hn⟩
  · have hq : ∀ k, (k = g.p ∨ k = g.q ∨ k = g.r) → ¬ G k := fun k hk => hG k (by simp [SFoot, h0, hk])
    exact .inr ⟨h0, born, ck, h1, h2.frame hf hn, h3.frame hf (hq _ (.inl rfl)) (hq _ (.inr (.inl rfl))) (hq _ (.inr (.inr rfl))), h4⟩
theorem Sm.below (h : Sm w b g n m f) (hb : Below w.heap.size w w') : Sm w' b g n m f := h.frame (G := fun _ => False) (Frame.of_below hb) (fun _ _ e => e)
theorem Sm.sp (h : Sm w b g n m f) : ∃ PF es ck, Sp w b n PF f es ck := by
  rcases h with ⟨_, ck, h1⟩ | ⟨_, _, ck, _, h2, _⟩
  · exact ⟨_, _, ck, h1⟩
  · exact ⟨_, _, ck, h2⟩
theorem Sm.words {f' : Nat → Int} (h : Sm w b g n m f) (h2 : Ar w' b.ar b.wb (n * 64) f') (hf : Frame w w' (fun k => k = b.wb)) : Sm w' b g n m f' := by
  rcases h with ⟨h0, ck, h1⟩ | ⟨h0, born, ck, h1, h3, h4, h5⟩
  · exact .inl ⟨h0, ck, h1.words h2 hf⟩
  · obtain ⟨cw, hw, _⟩ := h3.ar.row
    obtain ⟨cr, hr, _⟩ := h4.bits.row
    exact .inr ⟨h0, born, ck, h1, h3.words h2 hf, h4.frame hf (heap_ne h4.box hw (cells_ne (by decide))) (heap_ne h4.bits.box hw (cells_ne (by decide))) (heap_ne hr hw (cells_ne (by decide))), h5⟩
end
theorem cnt_low (m : Nat) : ∀ k, cntF (lowF m) k = if k ≤ m then k else m
  | 0 => by simp [cntF]
  | k + 1 => by
    have e : cntF (lowF m) (k + 1) = cntF (lowF m) k + if lowF m k = true then 1 else 0 := rfl
    rw [e, cnt_low m k]
    by_cases h : k < m
    · rw [if_pos (show lowF m k = true by simp [lowF, h])]
      split <;> split <;> omega
    · rw [if_neg (show ¬ lowF m k = true by simp [lowF, h])]
      split <;> split <;> omega
theorem low_put (m : Nat) : put (lowF m) m true = lowF (m + 1) := by
  funext i
  unfold put lowF
  by_cases h : i = m
  · simp [h]
  · rw [if_neg h]
    by_cases h2 : i < m
    · simp [h2]; omega
    · simp [h2]; omega
theorem low_zero : (fun _ => false) = lowF 0 := by funext i; simp [lowF]
section
variable (w : World) {b : SpB} {g : PgB} {n m : Nat} {f : Nat → Int}
theorem first_c (h : Sm w b g n m f) (hm : m < 32) (hn : 2 ≤ n) : Calls Tryz.prog 190 #[.pointer (some ⟨b.sp, 0, none⟩), .int .i64 0] w fun e w' => ∃ g' : PgB, ∃ born ck, e = .returned (.tuple #[.int .i64 1, .int .i64 0]) ∧ born < ck ∧ Sp w' b n pf1 f (ent g'.p born) ck ∧ Pb w' g'.p g'.q g'.r (lowF m) ∧ b.pr ≠ g'.r ∧
    Frame w w' (fun k => k = b.pr ∨ k = b.sm) ∧ (0 < m ∧ g' = g ∨ m = 0 ∧ w.heap.size ≤ g'.p ∧ w.heap.size ≤ g'.q ∧ w.heap.size ≤ g'.r) := by
  rcases h with ⟨rfl, ck, h1⟩ | ⟨h0, born, ck, h1, h2, h3, h4⟩
  · refine (first0_c w h1 hn).mono ?_
    rintro e w' ⟨p, q, r, rfl, a1, a2, a3, a4, a5, a6⟩
    obtain ⟨cr, hr, _⟩ := h1.pg.bits.row
    have := lt_of_block hr
    exact ⟨⟨p, q, r⟩, _, _, rfl, Nat.lt_succ_self _, a1, by rw [← low_zero]; exact a2, by simp only; omega, a3, .inr ⟨rfl, a4, a5, a6⟩⟩
  · refine (first1_c w h2 h1 h3 (by rw [cnt_low]; split <;> omega)).mono ?_
    rintro e w' ⟨rfl, hb⟩
    exact ⟨g, born, ck, rfl, h1, h2.below hb, h3.below hb, h4, Frame.of_below hb, .inl ⟨h0, rfl⟩⟩
theorem Sp.row2 {w w' : World} {b : SpB} {n : Nat} {PF : Nat → Bool} {f : Nat → Int} {es : Array MapEntry} {ck r q : Nat} {F : Nat → Bool} (h : Sp w b n PF f es ck) (hb : Bt w q r 32 F) (hne : b.pr ≠ r) (hf : Frame w w' (fun k => k = r)) : Sp w' b n PF f es ck := by
  obtain ⟨cw, hw, _⟩ := h.ar.row
  obtain ⟨cr, hr, _⟩ := hb.row
  exact h.frame hf ⟨heap_ne h.box hr (cells_ne (by decide)), heap_ne h.ar.box hr (cells_ne (by decide)), heap_ne hw hr (cells_ne (by decide)), heap_ne h.pg.box hr (cells_ne (by decide)), heap_ne h.pg.bits.box hr (cells_ne (by decide)), hne, heap_ne h.small hr (fun e => by cases e), heap_ne h.large hr (fun e => by cases e)⟩
set_option maxRecDepth 100000 in
set_option maxHeartbeats 2000000 in
theorem place_c (h : Sm w b g n m f) (hm : m < 32) (hn : 2 ≤ n) (a : Nat) (ha : a = 64 + m * 2) : Calls Tryz.prog 151 #[.pointer (some ⟨b.sp, 0, none⟩), .int .i64 2] w fun e w' => ∃ g', e = .returned (.tuple #[.int .i64 (a : Int), .int .i64 0]) ∧ Sm w' b g' n (m + 1) f ∧ Frame w w' (SFoot b g m) ∧ (∀ k, SFoot b g' (m + 1) k → k < w.heap.size → SFoot b g m k) := by
  have H := Lib.hid h
  have HA := Lib.hid ha
  clear h ha
  go_enter Tryz.func151, Tryz.ntmps151
  go_wp2_with (first
    | (go_at_call 186; refine (class2_c _).mono ?_; rintro e w1 ⟨rfl, hb⟩; have HB1 := Lib.hid hb; have H1 := Lib.hid (H.out.below hb); clear hb)
    | (go_at_call 190; refine (first_c _ H1.out hm hn).mono ?_; rintro e w2 ⟨g', born, ck, rfl, a1, a2, a3, a4, a5, a6⟩; have A1 := Lib.hid a1; have A2 := Lib.hid a2; have A3 := Lib.hid a3; have A4 := Lib.hid a4; have A5 := Lib.hid a5; have A6 := Lib.hid a6; have k2 := a2.c2; have hl := lookup_hit Tryz.underlying147 w2 a2.small 1 _ 0 false (by rfl); clear a1 a2 a3 a4 a5 a6)
    | (go_at_call 191; refine (pbTake_c _ A3.out m hm (by simp [lowF]) (fun j hj => by simp [lowF, hj])).mono ?_; rintro e w3 ⟨rfl, a1, a2⟩; have B1 := Lib.hid a1; have B2 := Lib.hid a2; have B3 := Lib.hid (A2.out.row2 A3.out.bits A4.out a2); have k3 := B3.out.c2; have hl3 := lookup_hit Tryz.underlying147 w3 B3.out.small 1 _ 0 false (by rfl); clear a1 a2)
    | (go_at_call 111; refine (pbWords_c _ B1.out).mono ?_; rintro e w' ⟨rfl, rfl⟩))
  obtain ⟨cr, hr, _⟩ := A3.out.bits.row
  have hs1 := H1.out
  have hp4 : Pb w3 g'.p g'.q g'.r (lowF (m + 1)) := by rw [← low_put]; exact B1.out
  have hz := HB1.out.size
  have hfr : Frame w w3 (SFoot b g m) := by
    refine ((Frame.of_below (F := SFoot b g m) HB1.out).trans A5.out (fun k _ e => ?_)).trans B2.out (fun k hk e => ?_)
    · rcases e with e | e <;> simp [SFoot, e]
    · rcases A6.out with ⟨h0, h1⟩ | ⟨h0, h1, h2, h3⟩
      · simp [SFoot, h0, e, h1]
      · omega
  have hft : ∀ k, SFoot b g' (m + 1) k → k < w.heap.size → SFoot b g m k := by
    intro k hk hlt
    rcases A6.out with ⟨h0, h1⟩ | ⟨h0, h1, h2, h3⟩
    · subst h1
      simpa [SFoot, h0] using hk
    · rcases hk with e | e | e | e | e | e | e | e | ⟨_, e⟩
      all_goals first | (simp [SFoot, e]; done) | omega
  have he : (64 : Int) + (m : Int) * 2 = (a : Int) := by have := HA.out; omega
  refine bodyPost_ret (v := .tuple #[.int .i64 (64 + (m : Int) * 2), .int .i64 0]) (by simp [results, Tryz.results151, go_sem]) rfl ⟨g', by rw [he], .inr ⟨Nat.succ_pos m, born, ck, A1.out, B3.out, hp4, A4.out⟩, hfr, hft⟩
set_option maxHeartbeats 1000000 in
theorem alloc_c (h : Sm w b g n m f) (hm : m < 32) (hn : 2 ≤ n) (a : Nat) (ha : a = 64 + m * 2) : Calls Tryz.prog 124 #[.pointer (some ⟨b.sp, 0, none⟩), .int .i64 2] w fun e w' => ∃ g', e = .returned (.tuple #[.int .i64 (a : Int), .int .i64 0]) ∧ Sm w' b g' n (m + 1) (wipe f a 2) ∧ Frame w w' (SFoot b g m) ∧ (∀ k, SFoot b g' (m + 1) k → k < w.heap.size → SFoot b g m k) := by
  have H := Lib.hid h
  have HA := Lib.hid ha
  clear h ha
  go_enter Tryz.func124, Tryz.ntmps124
  go_wp2_with (first
    | (go_at_call 150; refine (block2_c _).mono ?_; rintro e w1 ⟨rfl, hb⟩; have HB1 := Lib.hid hb; have H1 := Lib.hid (H.out.below hb); clear hb)
    | (go_at_call 151; refine (place_c _ H1.out hm hn a HA.out).mono ?_; rintro e w2 ⟨g', rfl, a1, a2, a3⟩; have A1 := Lib.hid a1; have A2 := Lib.hid a2; have A3 := Lib.hid a3; clear a2 a3; obtain ⟨PF, es, ck, a1⟩ := a1.sp; have k2 := a1.c0; have HS := Lib.hid a1; clear a1)
    | (go_at_call 152; refine (arFill_c _ HS.out.ar a 2 (by have := HA.out; omega) (by omega)).mono ?_; rintro e w3 ⟨rfl, a1, a2⟩; have B1 := Lib.hid a1; have B2 := Lib.hid a2; clear a1 a2))
  have hz := HB1.out.size
  refine bodyPost_ret (v := .tuple #[.int .i64 (a : Int), .int .i64 0]) (by simp [results, Tryz.results124, go_sem]) rfl ⟨g', rfl, A1.out.words B1.out B2.out, ((Frame.of_below (F := SFoot b g m) HB1.out).trans A2.out (fun _ _ e => e)).trans B2.out (fun k hk e => ?_), fun k hk hlt => A3.out k hk (by omega)⟩
  simp [SFoot, e]
end
end Go.Proofs.YtibgbahaldojiaaGreat.Fns
namespace Go.Proofs.YtibgbahaldojiaaGreat.Fns
open Go Go.RowKit
section
variable (w : World) {b : SpB} {g : PgB} {n m : Nat} {f : Nat → Int}
theorem spCap_c (h : Sm w b g n m f) (c : Nat) (hc : c + 64 = n * 64) : Calls Tryz.prog 75 #[.pointer (some ⟨b.sp, 0, none⟩)] w fun e w' => e = .returned (.int .i64 (c : Int)) ∧ w = w' := by
  obtain ⟨PF, es, ck, h⟩ := h.sp
  have H := Lib.hid h
  have k0 := h.c0
  have hmo := h.ar.most
  clear h
  generalize hN : n * 64 = N at H hc hmo
  have he : (N : Int) - 64 = (c : Int) := by omega
  have hw : wrap64 (c : Int) = (c : Int) := by unfold wrap64; omega
  clear hc
  go_enter Tryz.func75, Tryz.ntmps75
  go_wp2_with (go_at_call 118; refine (arLen_c _ (by have := H.out.ar; rw [hN] at this; exact this)).mono ?_; rintro e w' ⟨rfl, rfl⟩)
  go_ret
  exact ⟨rfl, rfl⟩
set_option maxRecDepth 100000 in
set_option maxHeartbeats 200000 in
theorem spFind_c (h : Sm w b g n m f) (hm : m ≤ 32) (hn : 2 ≤ n) (i a : Nat) (hi : i < m) (ha : a = 64 + i * 2) : Calls Tryz.prog 101 #[.pointer (some ⟨b.sp, 0, none⟩), .int .i64 (a : Int)] w fun e w' => e = .returned (.tuple #[.int .i64 (a : Int), .int .i64 2, .bool true]) ∧ w = w' := by
  have h0 : 0 < m := by omega
  obtain ⟨h1, _⟩ | ⟨_, born, ck, h1, h2, h3, h4⟩ := h
  · omega
  have H := Lib.hid h2
  have k0 := h2.c0
  have k2 := h2.c2
  have p0 := h3.c0
  have HP := Lib.hid h3
  have hl : (Instr.lookup 147 (.map (some b.sm)) (.int .i64 1) true).run Tryz.prog w = .ok (.tuple #[.pointer (some ⟨g.p, 0, none⟩), .bool true]) w := lookup_hit Tryz.underlying147 w h2.small 1 _ 0 true (by rfl)
  have hp := h2.ar.most
  generalize hN : n * 64 = N at H hp
  obtain ⟨j, hj⟩ : ∃ j : Nat, j = i * 2 := ⟨_, rfl⟩
  have t1 : (a : Int).tdiv 64 = 1 := by rw [Int.tdiv_eq_ediv_of_nonneg (by omega)]; omega
  have t2 : (a : Int).tmod 64 = (j : Int) := by rw [Int.tmod_eq_emod_of_nonneg (by omega)]; omega
  have t3 : (j : Int).tdiv 2 = (i : Int) := by rw [Int.tdiv_eq_ediv_of_nonneg (by omega)]; omega
  have d1 : decide ((a : Int) < 0) = false := by simp
  have d2 : decide ((N : Int) ≤ (a : Int)) = false := by simp; omega
  have d3 : decide (N ≤ a) = false := by simp; omega
  have HE := Lib.hid (show (1 : Int) * 64 + (i : Int) * 2 = (a : Int) by omega)
  have HI := Lib.hid (show (decide (0 ≤ (i : Int) ∧ (i : Int) < ((32 : Nat) : Int)) && lowF m (i : Int).toNat) = true by rw [Int.toNat_natCast, show lowF m i = true by simp [lowF, hi], Bool.and_true]; exact decide_eq_true (by omega))
  have HAR := Lib.hid (show Ar w b.ar b.wb N f by have := h2.ar; rw [hN] at this; exact this)
  clear hN H
  have hi32 : i < 32 := by omega
  clear h1 h2 h3 h4 hi ha hj
  go_enter Tryz.func101, Tryz.ntmps101
  go_wp2_with (first
    | (go_at_call 118; refine (arLen_c _ HAR.out).mono ?_; rintro e w' ⟨rfl, rfl⟩)
    | (go_at_call 111; refine (pbWords_c _ HP.out).mono ?_; rintro e w' ⟨rfl, rfl⟩)
    | (go_at_call 129; refine (btHas_c _ HP.out.bits (i : Int) true HI.out).mono ?_; rintro e w' ⟨rfl, rfl⟩))
  have he : (64 : Int) + (i : Int) * 2 = (a : Int) := by have := HE.out; omega
  refine bodyPost_ret (v := .tuple #[.int .i64 (64 + (i : Int) * 2), .int .i64 2, .bool true]) (by simp [results, Tryz.results101, go_sem]) rfl ⟨by rw [he], rfl⟩
end
end Go.Proofs.YtibgbahaldojiaaGreat.Fns
