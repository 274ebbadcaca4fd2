/- The space at one block of 2 words: it is given up. -/
/- The heap at objects of one field in blocks of 2 words: heads, fields. -/
import Derived.Test.YtibgbahaldojiaaGreatEach
namespace Go.Proofs.YtibgbahaldojiaaGreat.Fns
open Go Go.RowKit
section
variable (w : World) {b : SpB} {g : PgB} {n : Nat} {f : Nat → Int}
theorem del_one {w : World} {m p born ck : Nat} (h : w.heap[m]? = some (.map (ent p born) ck)) (ty : TypeId) : (Builtin.delete_ #[147, 3] ty #[.map (some m), .int .i64 1]).run Tryz.prog w = .ok (.tuple #[]) (setB w m (.map #[] ck)) := by
  have := delete_hit Tryz.underlying147 w h 1 ty (.pointer (some ⟨p, 0, none⟩)) 0 (by rfl)
  simpa [ent] using this
set_option maxRecDepth 100000 in
set_option maxHeartbeats 2000000 in
theorem free1_c (h : Sm w b g n 1 f) (hn : 2 ≤ n) : Calls Tryz.prog 143 #[.pointer (some ⟨b.sp, 0, none⟩), .int .i64 64] w fun e w' => e = .returned (.int .i64 0) ∧ Sm w' b g n 0 f ∧ Frame w w' (SFoot b g 1) := by
  have HF := Lib.hid (spFind_c w h (by omega) hn 0 64 (by omega) (by omega))
  obtain ⟨h0, _⟩ | ⟨_, born, ck, h1, h2, h3, h4⟩ := h
  · omega
  have H := Lib.hid h2
  have HP := Lib.hid h3
  have k2 := h2.c2
  have hl : (Instr.lookup 147 (.map (some b.sm)) (.int .i64 1) true).run Tryz.prog w = .ok (.tuple #[.pointer (some ⟨g.p, 0, none⟩), .bool true]) w := lookup_hit Tryz.underlying147 w h2.small 1 _ 0 true (by rfl)
  have HX := Lib.hid h4
  clear h1 h2 h3 h4
  go_enter Tryz.func143, Tryz.ntmps143
  go_wp2_with (first
    | (go_at_call 101; refine HF.out.mono ?_; rintro e w' ⟨rfl, rfl⟩)
    | (go_at_call 111; refine (pbWords_c _ HP.out).mono ?_; rintro e w' ⟨rfl, rfl⟩)
    | (go_at_call 182; refine (pbGive_c _ HP.out 0 (by omega) (by simp [lowF])).mono ?_; rintro e w1 ⟨rfl, a1, a2⟩; have A1 := Lib.hid a1; have A2 := Lib.hid a2; have A3 := Lib.hid (H.out.row2 HP.out.bits HX.out a2); have k2 := A3.out.c2; have k1 := A3.out.c1; have hd : ∀ ty, (Builtin.delete_ #[147, 3] ty #[.map (some b.sm), .int .i64 1]).run Tryz.prog w1 = .ok (.tuple #[]) (setB w1 b.sm (.map #[] ck)) := fun ty => del_one A3.out.small ty; have A4 := Lib.hid (A3.out.smalls #[] ck); have k5 := A4.out.c1; clear a1 a2)
    | (go_at_call 183; refine (pbEmpty_c _ A1.out true (by rfl)).mono ?_; rintro e w' ⟨rfl, rfl⟩)
    | (go_at_call 181; refine (pgGive_c _ A4.out.pg 1 (Nat.le_refl _) (by omega) (by simp [pf1, put])).mono ?_; rintro e w2 ⟨rfl, a1, a2⟩; have B1 := Lib.hid a1; have B2 := Lib.hid a2; clear a1 a2))
  have hp := A4.out.pages B1.out B2.out
  rw [pf1_back] at hp
  have hf : Frame w w2 (SFoot b g 1) := ((A2.out.mono (G := SFoot b g 1) (fun k _ e => by simp [SFoot, e])).trans (frame_block (w := w1) b.sm (.map #[] ck)) (fun k _ e => by simp [SFoot, e])).trans B2.out (fun k _ e => by simp [SFoot, e])
  go_ret
  exact ⟨rfl, .inl ⟨rfl, ck, hp⟩, hf⟩
end
end Go.Proofs.YtibgbahaldojiaaGreat.Fns
namespace Go.Proofs.YtibgbahaldojiaaGreat.Fns
open Go Go.RowKit
/-- May an object of the memory be one of a space's? -/
def spTy : Obj → Bool
  | .cells _ t _ => [150, 193, 3, 198, 206, 4, 176].contains t
  | .map _ _ => true
  | _ => false
theorem Sm.apart {w : World} {b : SpB} {g : PgB} {n m k : Nat} {f : Nat → Int} {o : Obj} (h : Sm w b g n m f) (hk : w.heap[k]? = some o) (ho : spTy o = false) : ¬ SFoot b g m k := by
  have key : ∀ {j : Nat} {o' : Obj}, w.heap[j]? = some o' → spTy o' = true → k ≠ j := fun hj hs => heap_ne hk hj (fun e => by rw [e, hs] at ho; cases ho)
  obtain ⟨PF, es, ck, hs⟩ := h.sp
  obtain ⟨cw, hw, _⟩ := hs.ar.row
  obtain ⟨cr, hr, _⟩ := hs.pg.bits.row
  rintro (e | e | e | e | e | e | e | e | ⟨hm, e⟩)
  · exact key hs.box (by rfl) e
  · exact key hs.ar.box (by rfl) e
  · exact key hw (by rfl) e
  · exact key hs.pg.box (by rfl) e
  · exact key hs.pg.bits.box (by rfl) e
  · exact key hr (by rfl) e
  · exact key hs.small (by rfl) e
  · exact key hs.large (by rfl) e
  · obtain ⟨h0, _⟩ | ⟨_, _, _, _, _, hp, _⟩ := h
    · omega
    · obtain ⟨cq, hq, _⟩ := hp.bits.row
      rcases e with e | e | e
      · exact key hp.box (by rfl) e
      · exact key hp.bits.box (by rfl) e
      · exact key hq (by rfl) e
/-- The blocks of a heap. -/
structure HpB where
  h : Nat
  t : Nat
  sp : SpB
  g : PgB
/-- A heap without classes, whose first m places of 2 words are taken. -/
structure Hp (w : World) (B : HpB) (n m : Nat) (f : Nat → Int) : Prop where
  box : w.heap[B.h]? = some (.cells #[.pointer (some ⟨B.sp.sp, 0, none⟩), .pointer (some ⟨B.t, 0, none⟩)] 84 (0, 0))
  tab : w.heap[B.t]? = some (.cells #[.slice none 0 0] 153 (0, 0))
  sm : Sm w B.sp B.g n m f
def HFoot (B : HpB) (m k : Nat) : Prop := k = B.h ∨ k = B.t ∨ SFoot B.sp B.g m k
section
variable {w w' : World} {B : HpB} {n m m' : Nat} {f f' : Nat → Int} {G : Nat → Prop} {g' : PgB}
theorem Hp.c0 (h : Hp w B n m f) : w.cell? ⟨B.h, 0, none⟩ = some (.pointer (some ⟨B.sp.sp, 0, none⟩)) := cell_of_row _ _ 0 _ _ _ h.box
theorem Hp.c1 (h : Hp w B n m f) : w.cell? ⟨B.h, 1, none⟩ = some (.pointer (some ⟨B.t, 0, none⟩)) := cell_of_row _ _ 1 _ _ _ h.box
theorem Hp.s0 (h : Hp w B n m f) : w.cell? ⟨B.sp.sp, 0, none⟩ = some (.pointer (some ⟨B.sp.ar, 0, none⟩)) := by
  obtain ⟨PF, es, ck, hs⟩ := h.sm.sp
  exact hs.c0
theorem Hp.ar (h : Hp w B n m f) : Ar w B.sp.ar B.sp.wb (n * 64) f := by
  obtain ⟨PF, es, ck, hs⟩ := h.sm.sp
  exact hs.ar
theorem Hp.frame (h : Hp w B n m f) (hf : Frame w w' G) (hG : ∀ k, HFoot B m k → ¬ G k) : Hp w' B n m f :=
  ⟨hf.heap h.box (hG _ (.inl rfl)), hf.heap h.tab (hG _ (.inr (.inl rfl))), h.sm.frame hf (fun k hk => hG k (.inr (.inr hk)))⟩
theorem Hp.below (h : Hp w B n m f) (hb : Below w.heap.size w w') : Hp w' B n m f := h.frame (G := fun _ => False) (Frame.of_below hb) (fun _ _ e => e)
theorem Hp.turn (h : Hp w B n m f) (hs : Sm w' B.sp g' n m' f') (hf : Frame w w' (SFoot B.sp B.g m)) : Hp w' { B with g := g' } n m' f' :=
  ⟨hf.heap h.box (h.sm.apart h.box (by rfl)), hf.heap h.tab (h.sm.apart h.tab (by rfl)), hs⟩
theorem Hp.words (h : Hp w B n m f) (ha : Ar w' B.sp.ar B.sp.wb (n * 64) f') (hf : Frame w w' (fun k => k = B.sp.wb)) : Hp w' B n m f' :=
  h.turn (h.sm.words ha hf) (hf.mono (fun k _ e => by simp [SFoot, e]))
end
section
variable (w : World) {B : HpB} {n m : Nat} {f : Nat → Int}
set_option maxRecDepth 100000 in
set_option maxHeartbeats 1000000 in
theorem head_c (h : Hp w B n m f) (hm : m ≤ 32) (hn : 2 ≤ n) (i a : Nat) (hi : i < m) (ha : a = 64 + i * 2) (k : Int) (fin : Bool) (hk : k = 2 ∨ k = 3) (hf : f a = hw k 1 fin) :
    Calls Tryz.prog 59 #[.pointer (some ⟨B.h, 0, none⟩), .int .i64 (a : Int)] w fun e w' => e = .returned (.tuple #[hd k 1 fin, .int .i64 0]) ∧ Below w.heap.size w w' := by
  have HB0 := Lib.hid (show Below w.heap.size w (w.alloc (.cells #[.int .i64 0, .int .i64 0, .int .i64 0, .bool false] 111)) from (Below.refl _ _).alloc (Nat.le_refl _) _)
  have H := Lib.hid (h.below HB0.out)
  have R0 := Lib.hid (heap_alloc_new w (.cells #[.int .i64 0, .int .i64 0, .int .i64 0, .bool false] 111))
  have k0 := H.out.c0
  have s0 := H.out.s0
  obtain ⟨x, hx⟩ : ∃ x, hw k 1 fin = x := ⟨_, rfl⟩
  rw [hx] at hf
  have HX := Lib.hid hx
  have HF := Lib.hid hf
  have HK := Lib.hid hk
  have HA := Lib.hid ha
  clear h hx hf hk ha
  go_enter Tryz.func59, Tryz.ntmps59
  go_wp2_with (first
    | (go_at_call 101; refine (spFind_c _ H.out.sm hm hn i a hi HA.out).mono ?_; rintro e w' ⟨rfl, rfl⟩)
    | (go_at_call 102; refine (arLoad_c _ H.out.ar a (by have := HA.out; omega) x HF.out).mono ?_; rintro e w' ⟨rfl, rfl⟩)
    | (go_at_call 103; refine (hGet_c _ k 1 fin x HX.out HK.out (by omega)).mono ?_; rintro e w1 ⟨rfl, hb⟩; unfold hd; have HB := Lib.hid hb; have hr := (hb.block _ (lt_of_block R0.out)).trans R0.out; have HR := Lib.hid hr; have f0 := frozen_of_row _ _ 0 _ _ hr; have f1 := frozen_of_row _ _ 1 _ _ hr; have f2 := frozen_of_row _ _ 2 _ _ hr; have f3 := frozen_of_row _ _ 3 _ _ hr; have c0 := cell_of_row _ _ 0 _ _ _ hr; have c1 := cell_of_row _ _ 1 _ _ _ hr; have c2 := cell_of_row _ _ 2 _ _ _ hr; have c3 := cell_of_row _ _ 3 _ _ _ hr; have hlt := lt_of_block hr; clear hb hr))
  have hF := (Below.heap_alloc _ (.cells #[.int .i64 k, .int .i64 0, .int .i64 1, .bool fin] 111) w.heap.size (by simpa using hlt)).trans (fin4 w1 w.heap.size 111 _ _ _ _ (.int .i64 k) (.int .i64 0) (.int .i64 1) (.bool fin) HR.out)
  have q0 := cell_of_row _ _ 0 _ _ _ hF
  have q1 := cell_of_row _ _ 1 _ _ _ hF
  have q2 := cell_of_row _ _ 2 _ _ _ hF
  have q3 := cell_of_row _ _ 3 _ _ _ hF
  have hb4 := below_set4 (w := w) (w1 := w1) w.heap.size (.int .i64 k) (.int .i64 0) (.int .i64 1) (.bool fin) (Nat.le_refl _) (HB0.out.trans (HB.out.mono HB0.out.size))
  refine bodyPost_ret (v := .tuple #[hd k 1 fin, .int .i64 0]) (by simp [results, Tryz.results59, go_sem, q0, q1, q2, q3, hd]) rfl ⟨rfl, hb4.alloc hb4.size _⟩
/-- A field's place. -/
theorem fieldAt_c (h : Hp w B n m f) (hm : m ≤ 32) (hn : 2 ≤ n) (i a : Nat) (hi : i < m) (ha : a = 64 + i * 2) (k : Int) (fin : Bool) (hk : k = 2 ∨ k = 3) (hf : f a = hw k 1 fin) :
    Calls Tryz.prog 94 #[.pointer (some ⟨B.h, 0, none⟩), .int .i64 (a : Int), .int .i64 0] w fun e w' => e = .returned (.tuple #[.int .i64 ((a : Int) + 1), .int .i64 0]) ∧ Below w.heap.size w w' := by
  have HC := Lib.hid (head_c w h hm hn i a hi ha k fin hk hf)
  unfold hd at HC
  have a0 : a ≤ 200 := by omega
  clear h hk hf ha
  go_enter Tryz.func94, Tryz.ntmps94
  go_wp2_with (go_at_call 59; refine HC.out.mono ?_; rintro e w1 ⟨rfl, hb⟩; have HB := Lib.hid hb; clear hb)
  refine bodyPost_ret (v := .tuple #[.int .i64 ((a : Int) + 1), .int .i64 0]) (by simp [results, Tryz.results94, go_sem]) rfl ⟨rfl, HB.out.alloc HB.out.size _⟩
set_option maxHeartbeats 1000000 in
theorem field_c (h : Hp w B n m f) (hm : m ≤ 32) (hn : 2 ≤ n) (i a : Nat) (hi : i < m) (ha : a = 64 + i * 2) (k : Int) (fin : Bool) (hk : k = 2 ∨ k = 3) (hf : f a = hw k 1 fin) (z : Int) (hz : f (a + 1) = z) :
    Calls Tryz.prog 60 #[.pointer (some ⟨B.h, 0, none⟩), .int .i64 (a : Int), .int .i64 0] w fun e w' => e = .returned (.tuple #[.int .i64 z, .int .i64 0]) ∧ Below w.heap.size w w' := by
  have HC := Lib.hid (fieldAt_c w h hm hn i a hi ha k fin hk hf)
  have H := Lib.hid h
  have HA := Lib.hid ha
  have HZ := Lib.hid hz
  clear h hk hf ha hz
  go_enter Tryz.func60, Tryz.ntmps60
  go_wp2_with (first
    | (go_at_call 94; refine HC.out.mono ?_; rintro e w1 ⟨rfl, hb⟩; have HB := Lib.hid hb; have H1 := Lib.hid (H.out.below hb); have k1 := H1.out.c0; have s1 := H1.out.s0; clear hb)
    | (go_at_call 102; refine (arLoad_c _ H1.out.ar (a + 1) (by have := HA.out; omega) z HZ.out).mono ?_; rintro e w' ⟨rfl, rfl⟩))
  refine bodyPost_ret (v := .tuple #[.int .i64 z, .int .i64 0]) (by simp [results, Tryz.results60, go_sem]) rfl ⟨rfl, HB.out⟩
set_option maxHeartbeats 1000000 in
theorem put_c (h : Hp w B n m f) (hm : m ≤ 32) (hn : 2 ≤ n) (i a : Nat) (hi : i < m) (ha : a = 64 + i * 2) (k : Int) (fin : Bool) (hk : k = 2 ∨ k = 3) (hf : f a = hw k 1 fin) (x : Int) :
    Calls Tryz.prog 50 #[.pointer (some ⟨B.h, 0, none⟩), .int .i64 (a : Int), .int .i64 0, .int .i64 x] w fun e w' => e = .returned (.int .i64 0) ∧ Hp w' B n m (put f (a + 1) x) ∧ Frame w w' (SFoot B.sp B.g m) := by
  have HC := Lib.hid (fieldAt_c w h hm hn i a hi ha k fin hk hf)
  have H := Lib.hid h
  have HA := Lib.hid ha
  clear h hk hf ha
  go_enter Tryz.func50, Tryz.ntmps50
  go_wp2_with (first
    | (go_at_call 94; refine HC.out.mono ?_; rintro e w1 ⟨rfl, hb⟩; have HB := Lib.hid hb; have H1 := Lib.hid (H.out.below hb); have k1 := H1.out.c0; have s1 := H1.out.s0; clear hb)
    | (go_at_call 95; refine (arStore_c _ H1.out.ar (a + 1) (by have := HA.out; omega) x).mono ?_; rintro e w2 ⟨rfl, h2, f2⟩; have H2 := Lib.hid h2; have F2 := Lib.hid f2; clear h2 f2))
  go_ret
  exact ⟨rfl, H1.out.words H2.out F2.out, (Frame.of_below HB.out).trans F2.out (fun k _ e => by simp [SFoot, e])⟩
end
end Go.Proofs.YtibgbahaldojiaaGreat.Fns
