/- A row of cells, said by a function of its places; what keeps it. -/
/- The arena: words. -/
/- Bits: places that are so, or not. -/
/- Bits: Set, Run and Count. -/
import Derived.Test.YtibgbahaldojiaaGreatHndAll
import Derived.Lib.SliceRun
namespace Go.Proofs.YtibgbahaldojiaaGreat.Fns
open Go Go.RowKit
/-- Block b is a row of n cells of type t; cell i holds f i. -/
def Rw (w : World) (b : Nat) (t : TypeId) (n : Nat) (f : Nat → Value) : Prop :=
  ∃ cs, w.heap[b]? = some (.cells cs t (0, 0)) ∧ cs.size = n ∧ ∀ i, i < n → cs[i]? = some (f i)
section
variable {w w' : World} {b b' n n' : Nat} {t t' : TypeId} {f f' : Nat → Value} {F : Nat → Prop}
theorem Rw.lt (h : Rw w b t n f) : b < w.heap.size := by obtain ⟨cs, h1, _⟩ := h; exact lt_of_block h1
theorem Rw.cell (h : Rw w b t n f) (i : Nat) (hi : i < n) : w.cell? ⟨b, i, none⟩ = some (f i) := by
  obtain ⟨cs, h1, _, h3⟩ := h
  rw [cell_of_row w b i cs t (0, 0) h1]; exact h3 i hi
theorem Rw.frz (h : Rw w b t n f) (i : Nat) : w.frozen? ⟨b, i, none⟩ = false := by
  obtain ⟨cs, h1, _⟩ := h
  exact frozen_of_row w b i cs t h1
theorem Rw.frame (h : Rw w b t n f) (hf : Frame w w' F) (hb : ¬ F b) : Rw w' b t n f := by
  obtain ⟨cs, h1, h2⟩ := h
  exact ⟨cs, hf.heap h1 hb, h2⟩
theorem Rw.below (h : Rw w b t n f) (hb : Below w.heap.size w w') : Rw w' b t n f := h.frame (F := fun _ => False) (Frame.of_below hb) (fun e => e)
theorem Rw.ne (h : Rw w b t n f) (h' : Rw w b' t' n' f') (ht : t ≠ t') : b ≠ b' := by
  obtain ⟨cs, h1, _⟩ := h
  obtain ⟨cs', h1', _⟩ := h'
  intro e
  subst e
  rw [h1] at h1'
  injection h1' with h1'
  injection h1' with _ h1'
  exact ht h1'
theorem Rw.set (h : Rw w b t n f) (i : Nat) (hi : i < n) (v : Value) : Rw (w.setCell ⟨b, i, none⟩ v) b t n (put f i v) := by
  obtain ⟨cs, h1, h2, h3⟩ := h
  refine ⟨cs.setIfInBounds i v, heap_setCell_same w b i cs t v h1, by simpa using h2, fun j hj => ?_⟩
  by_cases e : j = i
  · subst e
    rw [Array.getElem?_setIfInBounds_self_of_lt (by omega), put_same]
  · rw [Array.getElem?_setIfInBounds_ne (fun e2 => e e2.symm), put_other _ _ _ _ e]; exact h3 j hj
theorem Rw.congr (h : Rw w b t n f) (he : ∀ i, i < n → f i = f' i) : Rw w b t n f' := by
  obtain ⟨cs, h1, h2, h3⟩ := h
  exact ⟨cs, h1, h2, fun i hi => (h3 i hi).trans (by rw [he i hi])⟩
theorem Rw.one {v : Value} (h : w.heap[b]? = some (.cells #[v] t (0, 0))) : Rw w b t 1 (fun _ => v) :=
  ⟨_, h, rfl, fun i hi => by obtain rfl : i = 0 := by omega
                             rfl⟩
theorem Rw.owns (h : Rw w b t n f) {B : Nat} (hB : B ≤ b) (hn : n ≤ maxLen) : w.ownsRow B t 1 (.slice (some ⟨b, 0, none⟩) n n) n ((List.range n).map f) := by
  obtain ⟨cs, h1, h2, h3⟩ := h
  refine ⟨by simp, .inr ⟨b, n, cs, rfl, hB, h1, Nat.le_refl _, hn, by rw [h2, Nat.mul_one], ?_⟩⟩
  apply List.ext_getElem?
  intro i
  by_cases hi : i < n
  · rw [List.getElem?_take, if_pos (by omega)]
    have h4 := h3 i hi
    simp only [List.getElem?_map, List.getElem?_range hi, Option.map_some]
    rw [← h4, Array.getElem?_toList]
  · rw [List.getElem?_eq_none (by simp; omega), List.getElem?_eq_none (by simp; omega)]
/-- What make leaves. -/
theorem Rw.made (z : Value) (hz : z.cells = #[z]) : Rw (w.alloc (.cells (madeCells z.cells n) t)) w.heap.size t n (fun _ => z) := by
  refine ⟨_, heap_alloc_new w _, size_madeCells _ _, fun i hi => ?_⟩
  simp [madeCells, hz, hi, Nat.mod_one]
theorem frame_set (i : Nat) (v : Value) : Frame w (w.setCell ⟨b, i, none⟩ v) (fun k => k = b) := (Frame.refl w (fun k => k = b)).setCell (p := ⟨b, i, none⟩) (fun _ => rfl) _
end
end Go.Proofs.YtibgbahaldojiaaGreat.Fns
namespace Go.Proofs.YtibgbahaldojiaaGreat.Fns
open Go Go.RowKit
theorem info3 : (Tryz.prog.info? 3).map (fun i => (i.zero, i.size, i.bytes)) = some (some (.int .i64 0), 1, 8) := by kernel_rfl
theorem info4 : (Tryz.prog.info? 4).map (fun i => (i.zero, i.size, i.bytes)) = some (some (.bool false), 1, 1) := by kernel_rfl
theorem zero3 (w : World) : (zeroValue 3).run Tryz.prog w = .ok (.int .i64 0) w := by kernel_rfl
/-- Block a holds an arena: its n words lie in block b. -/
structure Ar (w : World) (a b n : Nat) (f : Nat → Int) : Prop where
  box : w.heap[a]? = some (.cells #[.slice (some ⟨b, 0, none⟩) n n] 193 (0, 0))
  row : Rw w b 3 n (fun i => .int .i64 (f i))
  most : n ≤ 16384
section
variable {w w' : World} {a b n : Nat} {f : Nat → Int} {F : Nat → Prop}
theorem Ar.c0 (h : Ar w a b n f) : w.cell? ⟨a, 0, none⟩ = some (.slice (some ⟨b, 0, none⟩) n n) := cell_of_row _ _ 0 _ _ _ h.box
theorem Ar.frame (h : Ar w a b n f) (hf : Frame w w' F) (ha : ¬ F a) (hb : ¬ F b) : Ar w' a b n f := ⟨hf.heap h.box ha, h.row.frame hf hb, h.most⟩
theorem Ar.below (h : Ar w a b n f) (hb : Below w.heap.size w w') : Ar w' a b n f := h.frame (F := fun _ => False) (Frame.of_below hb) (fun e => e) (fun e => e)
theorem Ar.ne (h : Ar w a b n f) : a ≠ b := (Rw.one h.box).ne h.row (by decide)
theorem Ar.set (h : Ar w a b n f) (i : Nat) (hi : i < n) (x : Int) : Ar (w.setCell ⟨b, i, none⟩ (.int .i64 x)) a b n (put f i x) :=
  ⟨(frame_set (b := b) i _).heap h.box h.ne, (h.row.set i hi _).congr (fun j _ => by unfold put; split <;> rfl), h.most⟩
end
theorem arLen_c (w : World) {a b n : Nat} {f : Nat → Int} (h : Ar w a b n f) : Calls Tryz.prog 118 #[.pointer (some ⟨a, 0, none⟩)] w fun e w' => e = .returned (.int .i64 (n : Int)) ∧ w = w' := by
  have k0 := h.c0
  clear h
  go_enter Tryz.func118, Tryz.ntmps118
  go_wp2
  go_ret
  exact ⟨rfl, rfl⟩
theorem arHas_c (w : World) {a b n : Nat} {f : Nat → Int} (h : Ar w a b n f) (i : Int) (r : Bool) (hr : decide (0 ≤ i ∧ i < n) = r) : Calls Tryz.prog 128 #[.pointer (some ⟨a, 0, none⟩), .int .i64 i] w fun e w' => e = .returned (.bool r) ∧ w = w' := by
  have k0 := h.c0
  clear h
  by_cases h0 : 0 ≤ i
  · have d0 : decide (0 ≤ i) = true := by simpa using h0
    have d1 : decide (i < (n : Int)) = r := by rw [← hr]; simp [h0]
    clear hr
    go_enter Tryz.func128, Tryz.ntmps128
    go_wp2
    go_ret
    exact ⟨rfl, rfl⟩
  · have d0 : decide (0 ≤ i) = false := by simpa using h0
    obtain rfl : r = false := by rw [← hr]; simp [h0]
    clear hr
    go_enter Tryz.func128, Tryz.ntmps128
    go_wp2
    go_ret
    exact ⟨rfl, rfl⟩
theorem arLoad_c (w : World) {a b n : Nat} {f : Nat → Int} (h : Ar w a b n f) (i : Nat) (hi : i < n) (z : Int) (hz : f i = z) : Calls Tryz.prog 102 #[.pointer (some ⟨a, 0, none⟩), .int .i64 (i : Int)] w fun e w' => e = .returned (.tuple #[.int .i64 z, .int .i64 0]) ∧ w = w' := by
  have H := Lib.hid h
  have k0 := h.c0
  have k1 := h.row.cell i hi
  rw [hz] at k1
  have hm := h.most
  have g1 : (0 : Int) ≤ (i : Int) := by omega
  have g2 : (i : Int) < (n : Int) := by omega
  clear h
  go_enter Tryz.func102, Tryz.ntmps102
  go_wp2_with (go_at_call 128; refine (arHas_c _ H.out _ true (by simp; omega)).mono ?_; rintro e w' ⟨rfl, rfl⟩)
  refine bodyPost_ret (v := .tuple #[.int .i64 z, .int .i64 0]) (by simp [results, Tryz.results102, go_sem]) rfl ⟨rfl, rfl⟩
theorem arStore_c (w : World) {a b n : Nat} {f : Nat → Int} (h : Ar w a b n f) (i : Nat) (hi : i < n) (x : Int) : Calls Tryz.prog 95 #[.pointer (some ⟨a, 0, none⟩), .int .i64 (i : Int), .int .i64 x] w fun e w' => e = .returned (.int .i64 0) ∧ Ar w' a b n (put f i x) ∧ Frame w w' (fun k => k = b) := by
  have H := Lib.hid h
  have k0 := h.c0
  have k1 := h.row.cell i hi
  have k2 := h.row.frz i
  have hm := h.most
  have g1 : (0 : Int) ≤ (i : Int) := by omega
  have g2 : (i : Int) < (n : Int) := by omega
  clear h
  go_enter Tryz.func95, Tryz.ntmps95
  go_wp2_with (go_at_call 128; refine (arHas_c _ H.out _ true (by simp; omega)).mono ?_; rintro e w' ⟨rfl, rfl⟩)
  go_ret
  exact ⟨rfl, H.out.set i hi x, frame_set i _⟩
theorem arNew_c (w : World) (p : Nat) (hp : 1 ≤ p) (hp2 : p ≤ 256) : Calls Tryz.prog 83 #[.int .i64 (p : Int)] w fun e w' => e = .returned (.tuple #[.pointer (some ⟨w.heap.size + 1, 0, none⟩), .int .i64 0]) ∧ Ar w' (w.heap.size + 1) w.heap.size (p * 64) (fun _ => 0) ∧ Below w.heap.size w w' := by
  obtain ⟨i0, hi0, hz0, hz1, hz2⟩ := info_parts info3
  have d1 : decide ((p : Int) < 1) = false := by simp; omega
  have d2 : decide ((256 : Int) < (p : Int)) = false := by simp; omega
  have hm := run_make (P := Tryz.prog) w 51 3 i0 (.int .i64 0) Tryz.underlying51 hi0 hz0 .i64 .i64 ((p : Int) * 64) ((p : Int) * 64) (by omega) (by omega) (by rw [hz2]; omega) (by omega)
  rw [hz1, Nat.mul_one] at hm
  have e1 : ((p : Int) * 64).toNat = p * 64 := by omega
  rw [e1] at hm
  clear hi0 hz0 hz1 hz2 e1
  go_enter Tryz.func83, Tryz.ntmps83
  go_wp2
  refine bodyPost_ret (v := .tuple #[.pointer (some ⟨w.heap.size + 1, 0, none⟩), .int .i64 0]) (by simp [results, Tryz.results83, go_sem]) rfl ⟨rfl, ⟨?_, ?_, by omega⟩, ((Below.refl _ _).alloc (Nat.le_refl _) _).alloc (by simp) _⟩
  · have := heap_alloc_new (w.alloc (.cells (madeCells #[.int .i64 0] (p * 64)) 3)) (.cells #[.slice (some ⟨w.heap.size, 0, none⟩) (p * 64) (p * 64)] 193)
    simpa using this
  · exact (Rw.made (w := w) (n := p * 64) (t := 3) (.int .i64 0) rfl).below ((Below.refl _ _).alloc (Nat.le_refl _) _)
theorem Rw.clear {b t n : Nat} (z : Value) : ∀ (m o : Nat) (w : World) (f : Nat → Value), Rw w b t n f → o + m ≤ n → Rw (w.setCells b o (List.replicate m z)) b t n (fun i => if o ≤ i ∧ i < o + m then z else f i) ∧ Frame w (w.setCells b o (List.replicate m z)) (fun k => k = b)
  | 0, o, w, f, h, _ => ⟨h.congr (fun i _ => by rw [if_neg (by omega)]), Frame.refl _ _⟩
  | m + 1, o, w, f, h, hm => by
    have h1 := h.set o (by omega) z
    obtain ⟨h2, h3⟩ := Rw.clear z m (o + 1) (w.setCell ⟨b, o, none⟩ z) _ h1 (by omega)
    refine ⟨h2.congr (fun i _ => ?_), (frame_set o z).trans h3 (fun _ _ e => e)⟩
    by_cases e : i = o
    · subst e
      rw [if_neg (by omega), put_same, if_pos (by omega)]
    · rw [put_other _ _ _ _ e]
      by_cases e2 : o + 1 ≤ i ∧ i < o + 1 + m
      · rw [if_pos e2, if_pos (by omega)]
      · rw [if_neg e2, if_neg (by omega)]
/-- Words from a place on are 0. -/
def wipe (f : Nat → Int) (o m : Nat) : Nat → Int := fun i => if o ≤ i ∧ i < o + m then 0 else f i
theorem Ar.wipe {w : World} {a b n : Nat} {f : Nat → Int} (h : Ar w a b n f) (o m : Nat) (hm : o + m ≤ n) : Ar (w.setCells b o (List.replicate m (.int .i64 0))) a b n (wipe f o m) ∧ Frame w (w.setCells b o (List.replicate m (.int .i64 0))) (fun k => k = b) := by
  obtain ⟨h1, h2⟩ := Rw.clear (.int .i64 0) m o w _ h.row hm
  exact ⟨⟨h2.heap h.box h.ne, h1.congr (fun i _ => by unfold YtibgbahaldojiaaGreat.Fns.wipe; split <;> rfl), h.most⟩, h2⟩
set_option maxRecDepth 100000 in
set_option maxHeartbeats 1000000 in
theorem arFill_c (w : World) {a b n : Nat} {f : Nat → Int} (h : Ar w a b n f) (o m : Nat) (hm : o + m ≤ n) (hm0 : 0 < m) : Calls Tryz.prog 152 #[.pointer (some ⟨a, 0, none⟩), .int .i64 (o : Int), .int .i64 (m : Int)] w fun e w' => e = .returned (.int .i64 0) ∧ Ar w' a b n (wipe f o m) ∧ Frame w w' (fun k => k = b) := by
  have H := Lib.hid h
  have k0 := h.c0
  have hmost := h.most
  have d1 : decide ((m : Int) < 0) = false := by simp
  have d2 : decide ((o : Int) < 0) = false := by simp
  have d3 : decide ((0 : Int) < (m : Int)) = true := by simp; omega
  have d4 : decide (0 < m) = true := by simp; omega
  have hcl := Lib.run_clear_slice (P := Tryz.prog) w 51 3 0 (.int .i64 0) Tryz.underlying51 zero3 rfl rfl b o m (n - o) hm0 (fun j hj => by rw [h.row.cell (o + j) (by omega)]; rfl) (fun j hj => h.row.frz _)
  have HW := Lib.hid (h.wipe o m hm)
  have d5 : decide ((n : Int) - (o : Int) < (m : Int)) = false := by simp; omega
  clear h
  go_enter Tryz.func152, Tryz.ntmps152
  go_wp2
  go_ret
  exact ⟨rfl, HW.out.1, HW.out.2⟩
end Go.Proofs.YtibgbahaldojiaaGreat.Fns
namespace Go.Proofs.YtibgbahaldojiaaGreat.Fns
open Go Go.RowKit
/-- Block b holds n bits; they lie in block r. -/
structure Bt (w : World) (b r n : Nat) (F : Nat → Bool) : Prop where
  box : w.heap[b]? = some (.cells #[.slice (some ⟨r, 0, none⟩) n n] 206 (0, 0))
  row : Rw w r 4 n (fun i => .bool (F i))
  most : n ≤ 16384
section
variable {w w' : World} {b r n : Nat} {F : Nat → Bool} {G : Nat → Prop}
theorem Bt.c0 (h : Bt w b r n F) : w.cell? ⟨b, 0, none⟩ = some (.slice (some ⟨r, 0, none⟩) n n) := cell_of_row _ _ 0 _ _ _ h.box
theorem Bt.frame (h : Bt w b r n F) (hf : Frame w w' G) (hb : ¬ G b) (hr : ¬ G r) : Bt w' b r n F := ⟨hf.heap h.box hb, h.row.frame hf hr, h.most⟩
theorem Bt.below (h : Bt w b r n F) (hb : Below w.heap.size w w') : Bt w' b r n F := h.frame (G := fun _ => False) (Frame.of_below hb) (fun e => e) (fun e => e)
theorem Bt.ne (h : Bt w b r n F) : b ≠ r := (Rw.one h.box).ne h.row (by decide)
theorem Bt.set (h : Bt w b r n F) (i : Nat) (hi : i < n) (x : Bool) : Bt (w.setCell ⟨r, i, none⟩ (.bool x)) b r n (put F i x) :=
  ⟨(frame_set (b := r) i _).heap h.box h.ne, (h.row.set i hi _).congr (fun j _ => by unfold put; split <;> rfl), h.most⟩
end
theorem btNew_c (w : World) (n : Nat) (hn : n ≤ 16384) : Calls Tryz.prog 120 #[.int .i64 (n : Int)] w fun e w' => e = .returned (.tuple #[.pointer (some ⟨w.heap.size + 1, 0, none⟩), .int .i64 0]) ∧ Bt w' (w.heap.size + 1) w.heap.size n (fun _ => false) ∧ Below w.heap.size w w' := by
  obtain ⟨i0, hi0, hz0, hz1, hz2⟩ := info_parts info4
  have d1 : decide ((n : Int) < 0) = false := by simp
  have d2 : decide ((16384 : Int) < (n : Int)) = false := by simp; omega
  have hm := run_make (P := Tryz.prog) w 161 4 i0 (.bool false) Tryz.underlying161 hi0 hz0 .i64 .i64 (n : Int) (n : Int) (by omega) (by omega) (by rw [hz2]; omega) (by omega)
  rw [hz1, Nat.mul_one, Int.toNat_natCast] at hm
  clear hi0 hz0 hz1 hz2
  go_enter Tryz.func120, Tryz.ntmps120
  go_wp2
  refine bodyPost_ret (v := .tuple #[.pointer (some ⟨w.heap.size + 1, 0, none⟩), .int .i64 0]) (by simp [results, Tryz.results120, go_sem]) rfl ⟨rfl, ⟨?_, ?_, hn⟩, ((Below.refl _ _).alloc (Nat.le_refl _) _).alloc (by simp) _⟩
  · have := heap_alloc_new (w.alloc (.cells (madeCells #[.bool false] n) 4)) (.cells #[.slice (some ⟨w.heap.size, 0, none⟩) n n] 206)
    simpa using this
  · exact (Rw.made (w := w) (n := n) (t := 4) (.bool false) rfl).below ((Below.refl _ _).alloc (Nat.le_refl _) _)
section
variable (w : World) {b r n : Nat} {F : Nat → Bool} (h : Bt w b r n F)
include h
theorem btSize_c : Calls Tryz.prog 130 #[.pointer (some ⟨b, 0, none⟩)] w fun e w' => e = .returned (.int .i64 (n : Int)) ∧ w = w' := by
  have k0 := h.c0
  clear h
  go_enter Tryz.func130, Tryz.ntmps130
  go_wp2
  go_ret
  exact ⟨rfl, rfl⟩
theorem btPlace_c (i : Int) (z : Bool) (hz : decide (0 ≤ i ∧ i < n) = z) : Calls Tryz.prog 148 #[.pointer (some ⟨b, 0, none⟩), .int .i64 i] w fun e w' => e = .returned (.bool z) ∧ w = w' := by
  have H := Lib.hid h
  clear h
  by_cases h0 : 0 ≤ i
  · have d0 : decide (0 ≤ i) = true := by simpa using h0
    have d1 : decide (i < (n : Int)) = z := by rw [← hz]; simp [h0]
    clear hz
    go_enter Tryz.func148, Tryz.ntmps148
    go_wp2_with (go_at_call 130; refine (btSize_c _ H.out).mono ?_; rintro e w' ⟨rfl, rfl⟩)
    go_ret
    exact ⟨rfl, rfl⟩
  · have d0 : decide (0 ≤ i) = false := by simpa using h0
    obtain rfl : z = false := by rw [← hz]; simp [h0]
    clear hz
    go_enter Tryz.func148, Tryz.ntmps148
    go_wp2
    go_ret
    exact ⟨rfl, rfl⟩
theorem btHas_c (i : Int) (z : Bool) (hz : (decide (0 ≤ i ∧ i < n) && F i.toNat) = z) : Calls Tryz.prog 129 #[.pointer (some ⟨b, 0, none⟩), .int .i64 i] w fun e w' => e = .returned (.bool z) ∧ w = w' := by
  have H := Lib.hid h
  have k0 := h.c0
  by_cases h0 : 0 ≤ i ∧ i < n
  · obtain ⟨j, rfl⟩ := Int.eq_ofNat_of_zero_le h0.1
    have hj : j < n := by omega
    have k1 := h.row.cell j hj
    rw [decide_eq_true h0, Bool.true_and, Int.toNat_natCast] at hz
    rw [hz] at k1
    have g1 : (0 : Int) ≤ (j : Int) := by omega
    have g2 : (j : Int) < (n : Int) := by omega
    clear h hz
    go_enter Tryz.func129, Tryz.ntmps129
    go_wp2_with (go_at_call 148; refine (btPlace_c _ H.out _ true (decide_eq_true h0)).mono ?_; rintro e w' ⟨rfl, rfl⟩)
    go_ret
    exact ⟨rfl, rfl⟩
  · rw [decide_eq_false h0, Bool.false_and] at hz
    subst hz
    clear h
    go_enter Tryz.func129, Tryz.ntmps129
    go_wp2_with (go_at_call 148; refine (btPlace_c _ H.out _ false (decide_eq_false h0)).mono ?_; rintro e w' ⟨rfl, rfl⟩)
    go_ret
    exact ⟨rfl, rfl⟩
theorem btNext0_c (is : Bool) (z : Int) (hz : (∃ k : Nat, z = (k : Int) ∧ 0 ≤ k ∧ k < n ∧ F k = is ∧ ∀ j : Nat, 0 ≤ j → j < k → F j ≠ is) ∨ (z = -1 ∧ ∀ j : Nat, 0 ≤ j → j < n → F j ≠ is)) :
    Calls Tryz.prog 110 #[.pointer (some ⟨b, 0, none⟩), .int .i64 0, .bool is] w fun e w' => e = .returned (.int .i64 z) ∧ w = w' := by
  have H := Lib.hid h
  have k0 := h.c0
  have hmost := h.most
  have HZ := Lib.hid hz
  clear h hz
  go_enter Tryz.func110, Tryz.ntmps110
  go_wp2
  go_loopw [7] (fun iv wr => ∃ j : Nat, (0 ≤ j) ∧ (j ≤ n ∨ j = 0) ∧ iv = .int .i64 (j : Int) ∧ wr = w ∧ ∀ q : Nat, 0 ≤ q → q < j → F q ≠ is) (fun iv _ => n - (intOf iv).toNat)
  case atStart => exact ⟨0, by omega, by omega, rfl, rfl, fun q h1 h2 => by omega⟩
  case round =>
    obtain ⟨j, hj0, hj1, rfl, rfl, hj2⟩ := hrel
    have HJ := Lib.hid hj2
    clear hj2
    by_cases hlt : j < n
    · have dj : decide ((j : Int) < (n : Int)) = true := by simp; omega
      have dj2 : decide (j < n) = true := by simp; omega
      have k1 := H.out.row.cell j hlt
      have g1 : (0 : Int) ≤ (j : Int) := by omega
      have g2 : (j : Int) < (n : Int) := by omega
      by_cases hF : F j = is
      · have e1 : (F j == is) = true := by simpa using hF
        have hzj : z = (j : Int) := by
          rcases HZ.out with ⟨k, hk, h1, h2, h3, h4⟩ | ⟨_, h4⟩
          · rw [hk]
            rcases Nat.lt_trichotomy k j with h5 | h5 | h5
            · exact absurd h3 (HJ.out k (by omega) h5)
            · rw [h5]
            · exact absurd hF (h4 j (by omega) h5)
          · exact absurd hF (h4 j (by omega) hlt)
        subst hzj
        generalize F j = fj at k1 e1
        clear hF
        go_wp2_with (go_at_call 130; refine (btSize_c _ H.out).mono ?_; rintro e w' ⟨rfl, rfl⟩)
        go_ret
        exact ⟨rfl, rfl⟩
      · have e1 : (F j == is) = false := by simpa using hF
        have HF := Lib.hid hF
        generalize hfj : F j = fj at k1 e1
        have HFJ := Lib.hid hfj
        clear hF hfj
        go_wp2_with (go_at_call 130; refine (btSize_c _ H.out).mono ?_; rintro e w' ⟨rfl, rfl⟩)
        go_roundw
        case rel => exact ⟨j + 1, by omega, by omega, by first | go_num | trivial, by first | rfl | trivial, fun q h1 h2 => by
          rcases Nat.lt_or_ge q j with h3 | h3
          · exact HJ.out q h1 h3
          · obtain rfl : q = j := by omega
            exact HF.out⟩
        case measure => simp [intOf]; omega
    · have dj : decide ((j : Int) < (n : Int)) = false := by simp; omega
      have dj2 : decide (j < n) = false := by simp; omega
      obtain rfl : z = -1 := by
        rcases HZ.out with ⟨k, _, h1, h2, h3, _⟩ | ⟨h3, _⟩
        · exact absurd h3 (HJ.out k (by omega) (by omega))
        · exact h3
      go_wp2_with (go_at_call 130; refine (btSize_c _ H.out).mono ?_; rintro e w' ⟨rfl, rfl⟩)
      go_ret
      exact ⟨rfl, rfl⟩
theorem btNextP_c (i : Nat) (hi : i ≤ 100000) (hi0 : 0 < i) (is : Bool) (z : Int) (hz : (∃ k : Nat, z = (k : Int) ∧ i ≤ k ∧ k < n ∧ F k = is ∧ ∀ j : Nat, i ≤ j → j < k → F j ≠ is) ∨ (z = -1 ∧ ∀ j : Nat, i ≤ j → j < n → F j ≠ is)) :
    Calls Tryz.prog 110 #[.pointer (some ⟨b, 0, none⟩), .int .i64 (i : Int), .bool is] w fun e w' => e = .returned (.int .i64 z) ∧ w = w' := by
  have H := Lib.hid h
  have k0 := h.c0
  have hmost := h.most
  have HZ := Lib.hid hz
  have g0 : ¬ (i : Int) ≤ 0 := by omega
  clear h hz
  go_enter Tryz.func110, Tryz.ntmps110
  go_wp2
  go_loopw [7] (fun iv wr => ∃ j : Nat, (i ≤ j) ∧ (j ≤ n ∨ j = i) ∧ iv = .int .i64 (j : Int) ∧ wr = w ∧ ∀ q : Nat, i ≤ q → q < j → F q ≠ is) (fun iv _ => n - (intOf iv).toNat)
  case atStart => exact ⟨i, by omega, by omega, rfl, rfl, fun q h1 h2 => by omega⟩
  case round =>
    obtain ⟨j, hj0, hj1, rfl, rfl, hj2⟩ := hrel
    have HJ := Lib.hid hj2
    clear hj2
    by_cases hlt : j < n
    · have dj : decide ((j : Int) < (n : Int)) = true := by simp; omega
      have dj2 : decide (j < n) = true := by simp; omega
      have k1 := H.out.row.cell j hlt
      have g1 : (0 : Int) ≤ (j : Int) := by omega
      have g2 : (j : Int) < (n : Int) := by omega
      by_cases hF : F j = is
      · have e1 : (F j == is) = true := by simpa using hF
        have hzj : z = (j : Int) := by
          rcases HZ.out with ⟨k, hk, h1, h2, h3, h4⟩ | ⟨_, h4⟩
          · rw [hk]
            rcases Nat.lt_trichotomy k j with h5 | h5 | h5
            · exact absurd h3 (HJ.out k (by omega) h5)
            · rw [h5]
            · exact absurd hF (h4 j (by omega) h5)
          · exact absurd hF (h4 j (by omega) hlt)
        subst hzj
        generalize F j = fj at k1 e1
        clear hF
        go_wp2_with (go_at_call 130; refine (btSize_c _ H.out).mono ?_; rintro e w' ⟨rfl, rfl⟩)
        go_ret
        exact ⟨rfl, rfl⟩
      · have e1 : (F j == is) = false := by simpa using hF
        have HF := Lib.hid hF
        generalize hfj : F j = fj at k1 e1
        have HFJ := Lib.hid hfj
        clear hF hfj
        go_wp2_with (go_at_call 130; refine (btSize_c _ H.out).mono ?_; rintro e w' ⟨rfl, rfl⟩)
        go_roundw
        case rel => exact ⟨j + 1, by omega, by omega, by first | go_num | trivial, by first | rfl | trivial, fun q h1 h2 => by
          rcases Nat.lt_or_ge q j with h3 | h3
          · exact HJ.out q h1 h3
          · obtain rfl : q = j := by omega
            exact HF.out⟩
        case measure => simp [intOf]; omega
    · have dj : decide ((j : Int) < (n : Int)) = false := by simp; omega
      have dj2 : decide (j < n) = false := by simp; omega
      obtain rfl : z = -1 := by
        rcases HZ.out with ⟨k, _, h1, h2, h3, _⟩ | ⟨h3, _⟩
        · exact absurd h3 (HJ.out k (by omega) (by omega))
        · exact h3
      go_wp2_with (go_at_call 130; refine (btSize_c _ H.out).mono ?_; rintro e w' ⟨rfl, rfl⟩)
      go_ret
      exact ⟨rfl, rfl⟩
theorem btNext_c (i : Nat) (hi : i ≤ 100000) (is : Bool) (z : Int) (hz : (∃ k : Nat, z = (k : Int) ∧ i ≤ k ∧ k < n ∧ F k = is ∧ ∀ j : Nat, i ≤ j → j < k → F j ≠ is) ∨ (z = -1 ∧ ∀ j : Nat, i ≤ j → j < n → F j ≠ is)) :
    Calls Tryz.prog 110 #[.pointer (some ⟨b, 0, none⟩), .int .i64 (i : Int), .bool is] w fun e w' => e = .returned (.int .i64 z) ∧ w = w' := by
  rcases Nat.eq_zero_or_pos i with rfl | h0
  · exact btNext0_c w h is z hz
  · exact btNextP_c w h i hi h0 is z hz
end
end Go.Proofs.YtibgbahaldojiaaGreat.Fns
namespace Go.Proofs.YtibgbahaldojiaaGreat.Fns
open Go Go.RowKit
theorem btLit_c (w : World) {b r n : Nat} {F : Nat → Bool} (h : Bt w b r n F) (pa : Addr) (hp : w.cell? pa = some (.pointer (some ⟨b, 0, none⟩))) (x : Int) (hx : 0 ≤ x ∧ x < n) :
    Calls Tryz.prog 147 #[.int .i64 x, .pointer (some pa)] w fun e w' => e = .returned (.bool false) ∧ w = w' := by
  have H := Lib.hid h
  clear h
  go_enter Tryz.func147, Tryz.ntmps147
  go_wp2_with (go_at_call 148; refine (btPlace_c _ H.out x true (decide_eq_true hx)).mono ?_; rintro e w' ⟨rfl, rfl⟩)
  go_ret
  exact ⟨rfl, rfl⟩
theorem idxf_c (w : World) {b r n : Nat} {F : Nat → Bool} (h : Bt w b r n F) (pa : Addr) (hp : w.cell? pa = some (.pointer (some ⟨b, 0, none⟩))) (A : Option Addr) (m c C : Nat) (xs : List Int) (hx : Ints w C A m xs) (hm : m ≤ 100000) (hin : ∀ j, j < m → 0 ≤ xs.getD j 0 ∧ xs.getD j 0 < n) :
    Calls Tryz.prog 184 #[.slice A m c, .func (.func 147) #[] #[.pointer (some pa)]] w fun e w' => e = .returned (.int .i64 (-1)) ∧ w = w' := by
  have H := Lib.hid h
  have HX := Lib.hid hx
  have HP := Lib.hid hp
  have HI := Lib.hid hin
  clear h hx hp hin
  go_enter Tryz.func184, Tryz.ntmps184
  go_wp2
  go_loopw [5, 8] (fun iv i wr => ∃ j : Nat, j ≤ m ∧ i = .int .i64 (j : Int) ∧ wr = w) (fun _ i _ => m - (intOf i).toNat)
  case atStart => exact ⟨0, by omega, rfl, rfl⟩
  case round =>
    obtain ⟨j, hj, rfl, rfl⟩ := hrel
    by_cases hlt : j < m
    · have dj : decide ((j : Int) < (m : Int)) = true := by simp; omega
      have dj2 : decide (j < m) = true := by simp; omega
      obtain ⟨ad, rfl, _, hc⟩ := HX.out.2 (by omega)
      have hcj := hc j hlt
      have hij := HI.out j hlt
      generalize xs.getD j 0 = x at hcj hij
      have HIJ := Lib.hid hij
      clear hc hij
      have g1 : (0 : Int) ≤ (j : Int) := by omega
      have g2 : (j : Int) < (m : Int) := by omega
      go_wp2_with (go_at_call 147; refine (btLit_c _ H.out pa HP.out x HIJ.out).mono ?_; rintro e w' ⟨rfl, rfl⟩)
      go_roundw
      case rel => exact ⟨j + 1, by omega, by first | go_num | trivial, by first | rfl | trivial⟩
      case measure => simp [intOf]; omega
    · obtain rfl : j = m := by omega
      have dj : decide ((j : Int) < (j : Int)) = false := by simp
      go_wp2
      go_ret
      exact ⟨rfl, rfl⟩
theorem cntf_c (w : World) {b r n : Nat} {F : Nat → Bool} (h : Bt w b r n F) (pa : Addr) (hp : w.cell? pa = some (.pointer (some ⟨b, 0, none⟩))) (A : Option Addr) (m c C : Nat) (xs : List Int) (hx : Ints w C A m xs) (hm : m ≤ 100000) (hin : ∀ j, j < m → 0 ≤ xs.getD j 0 ∧ xs.getD j 0 < n) :
    Calls Tryz.prog 146 #[.slice A m c, .func (.func 147) #[] #[.pointer (some pa)]] w fun e w' => e = .returned (.bool false) ∧ w = w' := by
  have H := Lib.hid h
  have HX := Lib.hid hx
  have HP := Lib.hid hp
  have HI := Lib.hid hin
  clear h hx hp hin
  go_enter Tryz.func146, Tryz.ntmps146
  go_wp2_with (go_at_call 184; refine (idxf_c _ H.out pa HP.out A m c C xs HX.out hm HI.out).mono ?_; rintro e w' ⟨rfl, rfl⟩)
  go_ret
  exact ⟨rfl, rfl⟩
/-- Bits behind a setting of some. -/
def setL (F : Nat → Bool) (is : Bool) (xs : List Int) : Nat → Bool := xs.foldl (fun G x => put G x.toNat is) F
theorem setL_take (F : Nat → Bool) (is : Bool) (xs : List Int) (j : Nat) (h : j < xs.length) : setL F is (xs.take (j + 1)) = put (setL F is (xs.take j)) (xs.getD j 0).toNat is := by
  unfold setL
  rw [List.take_add_one, List.foldl_append]
  simp [List.getD_eq_getElem?_getD, List.getElem?_eq_getElem h]
set_option maxHeartbeats 1000000 in
theorem btSet_c (w : World) {b r n : Nat} {F : Nat → Bool} (h : Bt w b r n F) (is : Bool) (A : Option Addr) (m c C : Nat) (xs : List Int) (hx : Ints w C A m xs) (hC : C ≤ w.heap.size) (hm : m ≤ 100000) (hin : ∀ j, j < m → 0 ≤ xs.getD j 0 ∧ xs.getD j 0 < n) (hA : ∀ ad, A = some ad → ad.block ≠ r) :
    Calls Tryz.prog 121 #[.pointer (some ⟨b, 0, none⟩), .bool is, .slice A m c] w fun e w' => e = .returned (.int .i64 0) ∧ Bt w' b r n (setL F is xs) ∧ Frame w w' (fun k => k = r) := by
  have hmf : ∀ (fn : Fn) (first cap : Array Value) (w : World), (Instr.makeFunc fn first cap).run Tryz.prog w = .ok (.func fn first cap) w := fun _ _ _ _ => rfl
  have hbel : Below w.heap.size w (w.alloc (.cells #[.pointer (some ⟨b, 0, none⟩)] 174)) := (Below.refl _ _).alloc (Nat.le_refl _) _
  have H := Lib.hid (h.below hbel)
  have HX := Lib.hid (hx.below hbel hC)
  have HI := Lib.hid hin
  have HP := Lib.hid (cell_of_row _ _ 0 _ _ _ (heap_alloc_new w (.cells #[.pointer (some ⟨b, 0, none⟩)] 174)))
  have HA := Lib.hid hA
  have HRL := Lib.hid h.row.lt
  have HXL := Lib.hid hx.1
  have HBL := Lib.hid hbel
  have kp := HP.out
  clear h hx hin hA hbel
  go_enter Tryz.func121, Tryz.ntmps121
  go_wp2_with (go_at_call 146; refine (cntf_c _ H.out _ HP.out A m c C xs HX.out hm HI.out).mono ?_; rintro e w' ⟨rfl, rfl⟩)
  go_loopw [8, 18] (fun iv i wr => ∃ j : Nat, j ≤ m ∧ i = .int .i64 (j : Int) ∧ Bt wr b r n (setL F is (xs.take j)) ∧ Frame (w.alloc (.cells #[.pointer (some ⟨b, 0, none⟩)] 174)) wr (fun k => k = r)) (fun _ i _ => m - (intOf i).toNat)
  case atStart => exact ⟨0, by omega, rfl, H.out, Frame.refl _ _⟩
  case round =>
    obtain ⟨j, hj, rfl, hb, hf⟩ := hrel
    have HB := Lib.hid hb
    have HF := Lib.hid hf
    have kp := hf.cell HP.out (by simp only; have := HRL.out; omega)
    have k0 := hb.c0
    clear hb hf
    by_cases hlt : j < m
    · have dj : decide ((j : Int) < (m : Int)) = true := by simp; omega
      have dj2 : decide (j < m) = true := by simp; omega
      obtain ⟨ad, rfl, _, hc⟩ := HX.out.2 (by omega)
      have hcj := HF.out.cell (hc j hlt) (by rw [block_of_add]; exact HA.out ad rfl)
      have hij := HI.out j hlt
      have HT := Lib.hid (setL_take F is xs j (by rw [HXL.out]; exact hlt))
      generalize hxj : xs.getD j 0 = x at hcj hij HT
      obtain ⟨x0, x1⟩ := hij
      obtain ⟨q, rfl⟩ := Int.eq_ofNat_of_zero_le x0
      have hq : q < n := by omega
      have kc := HB.out.row.cell q hq
      have kf := HB.out.row.frz q
      clear hc hxj
      have g1 : (0 : Int) ≤ (j : Int) := by omega
      have g2 : (j : Int) < (m : Int) := by omega
      have g3 : (0 : Int) ≤ (q : Int) := by omega
      have g4 : (q : Int) < (n : Int) := by omega
      go_wp2
      go_roundw
      case rel => exact ⟨j + 1, by omega, by go_num, by rw [HT.out, Int.toNat_natCast]; exact HB.out.set q hq is, HF.out.trans (frame_set q _) (fun _ _ e => e)⟩
      case measure => simp [intOf]; omega
    · obtain rfl : j = m := by omega
      have dj : decide ((j : Int) < (j : Int)) = false := by simp
      go_wp2
      go_ret
      exact ⟨rfl, by have h := HB.out; rw [List.take_of_length_le (by rw [HXL.out]; exact Nat.le_refl _)] at h; exact h, (Frame.of_below HBL.out).trans HF.out (fun _ _ e => e)⟩
theorem btRun_c (w : World) {b r n : Nat} {F : Nat → Bool} (h : Bt w b r n F) (z : Int) (hz : (∃ k : Nat, z = (k : Int) ∧ k < n ∧ F k = false ∧ ∀ j : Nat, j < k → F j = true) ∨ (z = -1 ∧ ∀ j : Nat, j < n → F j = true)) :
    Calls Tryz.prog 206 #[.pointer (some ⟨b, 0, none⟩), .int .i64 0, .int .i64 1] w fun e w' => e = .returned (.int .i64 z) ∧ w = w' := by
  have H := Lib.hid h
  have k0 := h.c0
  have hmost := h.most
  have HZ := Lib.hid hz
  clear h hz
  go_enter Tryz.func206, Tryz.ntmps206
  go_wp2
  go_loopw [7, 8] (fun fv iv wr => ∃ j : Nat, j ≤ n ∧ fv = .int .i64 0 ∧ iv = .int .i64 (j : Int) ∧ wr = w ∧ ∀ q : Nat, q < j → F q = true) (fun _ iv _ => n - (intOf iv).toNat)
  case atStart => exact ⟨0, by omega, rfl, rfl, rfl, fun q h1 => by omega⟩
  case round =>
    obtain ⟨j, hj0, rfl, rfl, rfl, hj2⟩ := hrel
    have HJ := Lib.hid hj2
    clear hj2
    by_cases hlt : j < n
    · have dj : decide ((j : Int) < (n : Int)) = true := by simp; omega
      have dj2 : decide (j < n) = true := by simp; omega
      have k1 := H.out.row.cell j hlt
      have g1 : (0 : Int) ≤ (j : Int) := by omega
      have g2 : (j : Int) < (n : Int) := by omega
      cases hF : F j
      · have hzj : z = (j : Int) := by
          rcases HZ.out with ⟨k, hk, h2, h3, h4⟩ | ⟨_, h4⟩
          · rw [hk]
            rcases Nat.lt_trichotomy k j with h5 | h5 | h5
            · have := HJ.out k h5; rw [h3] at this; cases this
            · rw [h5]
            · have := h4 j h5; rw [hF] at this; cases this
          · have := h4 j hlt; rw [hF] at this; cases this
        subst hzj
        rw [hF] at k1
        clear hF
        go_wp2_with (go_at_call 130; refine (btSize_c _ H.out).mono ?_; rintro e w' ⟨rfl, rfl⟩)
        go_ret
        exact ⟨by first | rfl | simp, rfl⟩
      · rw [hF] at k1
        have HF := Lib.hid hF
        clear hF
        go_wp2_with (go_at_call 130; refine (btSize_c _ H.out).mono ?_; rintro e w' ⟨rfl, rfl⟩)
        go_roundw
        case rel => exact ⟨j + 1, by omega, by first | rfl | trivial, by first | go_num | trivial, by first | rfl | trivial, fun q h1 => by
          rcases Nat.lt_or_ge q j with h3 | h3
          · exact HJ.out q h3
          · obtain rfl : q = j := by omega
            exact HF.out⟩
        case measure => simp [intOf]; omega
    · have dj : decide ((j : Int) < (n : Int)) = false := by simp; omega
      have dj2 : decide (j < n) = false := by simp; omega
      obtain rfl : z = -1 := by
        rcases HZ.out with ⟨k, _, h2, h3, _⟩ | ⟨h3, _⟩
        · have := HJ.out k (by omega); rw [h3] at this; cases this
        · exact h3
      go_wp2_with (go_at_call 130; refine (btSize_c _ H.out).mono ?_; rintro e w' ⟨rfl, rfl⟩)
      go_ret
      exact ⟨rfl, rfl⟩
/-- The first place from fr on, of m, that is so; -1: none. -/
def nxtF (F : Nat → Bool) : Nat → Nat → Int
  | 0, _ => -1
  | m + 1, fr => if F fr = true then (fr : Int) else nxtF F m (fr + 1)
theorem nxtF_spec (F : Nat → Bool) : ∀ (m fr n : Nat), n = fr + m → (∃ k : Nat, nxtF F m fr = (k : Int) ∧ fr ≤ k ∧ k < n ∧ F k = true ∧ ∀ j : Nat, fr ≤ j → j < k → F j ≠ true) ∨ (nxtF F m fr = -1 ∧ ∀ j : Nat, fr ≤ j → j < n → F j ≠ true)
  | 0, fr, n, h => .inr ⟨rfl, fun j h1 h2 => by omega⟩
  | m + 1, fr, n, h => by
    by_cases hF : F fr = true
    · exact .inl ⟨fr, by simp [nxtF, hF], Nat.le_refl _, by omega, hF, fun j h1 h2 => by omega⟩
    · have e : nxtF F (m + 1) fr = nxtF F m (fr + 1) := by simp [nxtF, hF]
      rw [e]
      rcases nxtF_spec F m (fr + 1) n (by omega) with ⟨k, h1, h2, h3, h4, h5⟩ | ⟨h1, h2⟩
      · exact .inl ⟨k, h1, by omega, h3, h4, fun j h6 h7 => by
          rcases Nat.eq_or_lt_of_le h6 with h8 | h8
          · exact h8 ▸ hF
          · exact h5 j h8 h7⟩
      · exact .inr ⟨h1, fun j h6 h7 => by
          rcases Nat.eq_or_lt_of_le h6 with h8 | h8
          · exact h8 ▸ hF
          · exact h2 j h8 h7⟩
/-- How many of the first n are so. -/
def cntF (F : Nat → Bool) : Nat → Nat
  | 0 => 0
  | n + 1 => cntF F n + if F n = true then 1 else 0
theorem cntF_skip (F : Nat → Bool) (fr : Nat) : ∀ k, fr ≤ k → (∀ j, fr ≤ j → j < k → F j ≠ true) → cntF F k = cntF F fr
  | 0, h, _ => by obtain rfl : fr = 0 := by omega
                  rfl
  | k + 1, h, hn => by
    rcases Nat.eq_or_lt_of_le h with h1 | h1
    · rw [h1]
    · have := cntF_skip F fr k (by omega) (fun j h2 h3 => hn j h2 (by omega))
      simp only [cntF]
      rw [if_neg (hn k (by omega) (by omega)), this]; rfl
theorem cntF_le (F : Nat → Bool) : ∀ n, cntF F n ≤ n
  | 0 => Nat.le_refl _
  | n + 1 => by have := cntF_le F n; simp only [cntF]; split <;> omega
def mz (n : Nat) (z : Int) : Nat := if z < 0 then 0 else n + 1 - z.toNat
theorem btCount_c (w : World) {b r n : Nat} {F : Nat → Bool} (h : Bt w b r n F) :
    Calls Tryz.prog 205 #[.pointer (some ⟨b, 0, none⟩)] w fun e w' => e = .returned (.int .i64 (cntF F n : Int)) ∧ w = w' := by
  have H := Lib.hid h
  have hmost := h.most
  obtain ⟨z0, hz0⟩ : ∃ z0, z0 = nxtF F n 0 := ⟨_, rfl⟩
  have HZ0 := Lib.hid hz0
  clear h hz0
  go_enter Tryz.func205, Tryz.ntmps205
  go_wp2_with (go_at_call 110; refine (btNext0_c _ H.out true z0 (by rw [HZ0.out]; exact nxtF_spec F n 0 n (by omega))).mono ?_; rintro e w' ⟨rfl, rfl⟩)
  go_loopw [3, 4] (fun cv iv wr => ∃ fr : Nat, fr ≤ n ∧ cv = .int .i64 (cntF F fr : Int) ∧ iv = .int .i64 (nxtF F (n - fr) fr) ∧ wr = w) (fun _ iv _ => mz n (intOf iv))
  case atStart => exact ⟨0, by omega, rfl, by rw [HZ0.out]; rfl, rfl⟩
  case round =>
    obtain ⟨fr, hfr, rfl, rfl, rfl⟩ := hrel
    have hle := cntF_le F fr
    rcases nxtF_spec F (n - fr) fr n (by omega) with ⟨k, h1, h2, h3, h4, h5⟩ | ⟨h1, h2⟩
    · have HC := Lib.hid (cntF_skip F fr k h2 h5)
      have H4 := Lib.hid h4
      rw [h1]
      obtain ⟨z1, hz1⟩ : ∃ z1, z1 = nxtF F (n - (k + 1)) (k + 1) := ⟨_, rfl⟩
      have HS := Lib.hid (nxtF_spec F (n - (k + 1)) (k + 1) n (by omega))
      have HZ1 := Lib.hid hz1
      have g1 : decide ((0 : Int) ≤ (k : Int)) = true := by simp
      clear h1 h4 h5 hz1
      go_wp2_with (go_at_call 110; refine (btNext_c _ H.out (k + 1) (by omega) true z1 (by rw [HZ1.out]; exact HS.out)).mono ?_; rintro e w' ⟨rfl, rfl⟩)
      go_roundw
      case rel => exact ⟨k + 1, by omega, by simp only [cntF]; rw [if_pos H4.out, HC.out]; simp, by rw [HZ1.out], by first | rfl | trivial⟩
      case measure =>
        have hs := HS.out
        rw [← HZ1.out] at hs
        show mz n z1 < mz n (k : Int)
        unfold mz
        rcases hs with ⟨k', h1, h2, h3, _⟩ | ⟨h1, _⟩
        · rw [h1, if_neg (by omega), if_neg (by omega)]; omega
        · rw [h1, if_pos (by omega), if_neg (by omega)]; omega
    · have HC := Lib.hid (cntF_skip F fr n hfr h2)
      rw [h1]
      clear h1 h2
      go_wp2
      go_ret
      exact ⟨by rw [HC.out]; rfl, rfl⟩
end Go.Proofs.YtibgbahaldojiaaGreat.Fns
