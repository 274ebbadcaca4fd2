/- The heap at objects of one field in blocks of 2 words: all objects. -/
import Derived.Test.YtibgbahaldojiaaGreatObjs
namespace Go.Proofs.YtibgbahaldojiaaGreat.Fns
open Go Go.RowKit
theorem info186 : (Tryz.prog.info? 186).map (fun i => (i.zero, i.size, i.bytes)) = some (some (.agg #[.int .i64 0, .int .i64 0, .int .i64 0, .int .i64 0, .bool false, .slice none 0 0]), 6, 64) := by kernel_rfl
/-- The cells of an object that is listed. -/
def obC (a k : Int) (fin : Bool) (A : Option Addr) (c : Nat) : List Value := [.int .i64 a, .int .i64 k, .int .i64 0, .int .i64 1, .bool fin, .slice A 1 c]
/-- The cells of the first j objects. -/
def ObL (K : Nat → Int) (Fb : Nat → Bool) (j : Nat) (xs : List Value) : Prop := xs.length = j * 6 ∧ ∀ i, i < j → ∃ A c, ∀ q, q < 6 → xs[i * 6 + q]? = (obC (64 + (i : Int) * 2) (K i) (Fb i) A c)[q]?
theorem ObL.nil (K : Nat → Int) (Fb : Nat → Bool) : ObL K Fb 0 [] := ⟨rfl, fun i hi => by omega⟩
theorem ObL.add {K : Nat → Int} {Fb : Nat → Bool} {j : Nat} {xs : List Value} (h : ObL K Fb j xs) (A : Option Addr) (c : Nat) : ObL K Fb (j + 1) (xs ++ obC (64 + (j : Int) * 2) (K j) (Fb j) A c) := by
  obtain ⟨h1, h2⟩ := h
  refine ⟨by simp [obC]; omega, fun i hi => ?_⟩
  by_cases e : i = j
  · subst e
    refine ⟨A, c, fun q hq => ?_⟩
    rw [List.getElem?_append_right (by omega), show i * 6 + q - xs.length = q by omega]
  · obtain ⟨A', c', h3⟩ := h2 i (by omega)
    refine ⟨A', c', fun q hq => ?_⟩
    rw [List.getElem?_append_left (by omega)]
    exact h3 q hq
/-- The chain of objects: what each word says. -/
structure Ch (m : Nat) (f : Nat → Int) (K : Nat → Int) (Fb : Nat → Bool) (V : Nat → Int) : Prop where
  head : ∀ i, i < m → f (64 + i * 2) = hw (K i) 1 (Fb i)
  word : ∀ i, i < m → f (64 + i * 2 + 1) = V i
  kind : ∀ i, i < m → K i = 2 ∨ K i = 3
theorem six_cells (w : World) (a b c d e g : Value) (t : TypeId) : ∀ j u, [a, b, c, d, e, g][j]? = some u → (w.alloc (.cells #[a, b, c, d, e, g] t)).cell? ((⟨w.heap.size, 0, none⟩ : Addr).add j) = some u := by
  intro j u hj
  have e : ((⟨w.heap.size, 0, none⟩ : Addr).add j) = ⟨w.heap.size, j, none⟩ := by
    unfold Addr.add
    split
    · rename_i h; subst h; rfl
    · simp
  rw [e, cell_of_row (w.alloc (.cells #[a, b, c, d, _, g] t)) w.heap.size j _ _ _ (heap_alloc_new w _), ← hj]
  simp
theorem form186 {w : World} {base n : Nat} {v : Value} {xs : List Value} (h : w.ownsRow base 186 6 v n xs) : ∃ A c, v = .slice A n c := by
  rcases h.2 with ⟨rfl, h0⟩ | ⟨b, cap, _, rfl, _⟩
  · exact ⟨none, 0, by rw [h0]⟩
  · exact ⟨_, _, rfl⟩
theorem row6 (w1 : World) (k : Nat) (t : TypeId) (a b c d e g u1 u2 u3 u4 : Value) (hr : w1.heap[k]? = some (.cells #[a, b, c, d, e, g] t (0, 0))) :
    ((((w1.setCell ⟨k, 1, none⟩ u1).setCell ⟨k, 2, none⟩ u2).setCell ⟨k, 3, none⟩ u3).setCell ⟨k, 4, none⟩ u4).heap[k]? = some (.cells #[a, u1, u2, u3, u4, g] t (0, 0)) := by
  have h1 : (w1.setCell ⟨k, 1, none⟩ u1).heap[k]? = some (.cells #[a, u1, c, d, e, g] t (0, 0)) := by rw [heap_setCell_same w1 k 1 _ _ _ hr]; rfl
  have h2 : ((w1.setCell ⟨k, 1, none⟩ u1).setCell ⟨k, 2, none⟩ u2).heap[k]? = some (.cells #[a, u1, u2, d, e, g] t (0, 0)) := by rw [heap_setCell_same _ k 2 _ _ _ h1]; rfl
  have h3 : (((w1.setCell ⟨k, 1, none⟩ u1).setCell ⟨k, 2, none⟩ u2).setCell ⟨k, 3, none⟩ u3).heap[k]? = some (.cells #[a, u1, u2, u3, e, g] t (0, 0)) := by rw [heap_setCell_same _ k 3 _ _ _ h2]; rfl
  rw [heap_setCell_same _ k 4 _ _ _ h3]; rfl
theorem row65 (w1 : World) (k : Nat) (t : TypeId) (a b c d e g u : Value) (hr : w1.heap[k]? = some (.cells #[a, b, c, d, e, g] t (0, 0))) :
    (w1.setCell ⟨k, 5, none⟩ u).heap[k]? = some (.cells #[a, b, c, d, e, u] t (0, 0)) := by rw [heap_setCell_same w1 k 5 _ _ _ hr]; rfl
theorem below_set6 {w w1 : World} {B : Nat} (k : Nat) (u1 u2 u3 u4 : Value) (hk : B ≤ k) (h : Below B w w1) : Below B w ((((w1.setCell ⟨k, 1, none⟩ u1).setCell ⟨k, 2, none⟩ u2).setCell ⟨k, 3, none⟩ u3).setCell ⟨k, 4, none⟩ u4) :=
  (((h.setCell (p := ⟨k, 1, none⟩) hk _).setCell (p := ⟨k, 2, none⟩) hk _).setCell (p := ⟨k, 3, none⟩) hk _).setCell (p := ⟨k, 4, none⟩) hk _
theorem owns_below {w w' : World} {B e size n : Nat} {v : Value} {xs : List Value} (h : w.ownsRow B e size v n xs) (hb : Below w.heap.size w w') : w'.ownsRow B e size v n xs :=
  (Frame.of_below (F := fun _ => False) hb).owns h (fun _ _ e => e)
theorem own_form1 {w : World} {v : Value} {B : Nat} {xs : List Value} (h : w.ownsRow B 3 1 v 1 xs) : ∃ s c, v = .slice (some s) 1 c := by
  rcases h.2 with ⟨_, h0⟩ | ⟨b, cp, _, h1, _⟩
  · omega
  · exact ⟨_, cp, h1⟩
theorem obC_one (a k : Int) (fin : Bool) (A : Option Addr) (c : Nat) : ∀ u ∈ obC a k fin A c, u.oneCell' = true := by
  intro u hu
  simp only [obC, List.mem_cons, List.not_mem_nil, or_false] at hu
  rcases hu with rfl | rfl | rfl | rfl | rfl | rfl <;> rfl
section
variable (w : World) {B : HpB} {n m : Nat} {f K V : Nat → Int} {Fb : Nat → Bool}
set_option maxRecDepth 100000 in
set_option maxHeartbeats 4000000 in
theorem objects_c (h : Hp w B n m f) (hc : Ch m f K Fb V) (hm : m ≤ 32) (hn : 2 ≤ n) :
    Calls Tryz.prog 77 #[.pointer (some ⟨B.h, 0, none⟩)] w fun e w' => ∃ v xs, e = .returned v ∧ w'.ownsRow w.heap.size 186 6 v m xs ∧ ObL K Fb m xs ∧ Below w.heap.size w w' := by
  obtain ⟨i0, hi0, hz0, hz1, hz2⟩ := info_parts info186
  have INFO := Lib.hid (And.intro hi0 (And.intro hz0 (And.intro hz1 hz2)))
  clear hi0 hz0 hz1 hz2
  obtain ⟨i3, hi0, hz0, hz1, hz2⟩ := info_parts info3
  have INFO3 := Lib.hid (And.intro hi0 (And.intro hz0 (And.intro hz1 hz2)))
  clear hi0 hz0 hz1 hz2
  have H := Lib.hid h
  have HC := Lib.hid hc
  have HM := Lib.hid hm
  have k0 := h.c0
  clear h hc hm
  go_enter Tryz.func77, Tryz.ntmps77
  go_wp2_with (go_at_call 71; refine (each_c _ H.out.sm HM.out).mono ?_; rintro e w1 ⟨v, rfl, ho, hb⟩; have HO := Lib.hid ho; have HB := Lib.hid hb; have H1 := Lib.hid (H.out.below hb); obtain ⟨A, c, rfl⟩ := own_form ho; clear ho hb)
  go_loopw [3, 18] (fun v iv wr => ∃ j xs, j ≤ m ∧ iv = .int .i64 (j : Int) ∧ wr.ownsRow w1.heap.size 186 6 v j xs ∧ ObL K Fb j xs ∧ Below w1.heap.size w1 wr) (fun _ iv _ => m - (intOf iv).toNat)
  case atStart => exact ⟨0, [], Nat.zero_le _, rfl, World.ownsRow_nil _ _ _ _, ObL.nil _ _, Below.refl _ _⟩
  case round =>
    obtain ⟨j, xs, hj, rfl, ho, hx, hb⟩ := hrel
    have HOX := Lib.hid ho
    have HX := Lib.hid hx
    have HBX := Lib.hid hb
    obtain ⟨A2, c2, rfl⟩ := form186 ho
    by_cases hlt : j < m
    · obtain ⟨s, c', hA, hcell⟩ := own_cell HO.out hlt
      injection hA with hA _ h3
      subst hA h3
      rw [ats_getD _ _ hlt] at hcell
      have hcell := (hb.cell (World.block_lt_of_cell? _ _ hcell)).trans hcell
      obtain ⟨a, ha⟩ : ∃ a : Nat, a = 64 + j * 2 := ⟨_, rfl⟩
      rw [show (64 : Int) + (j : Int) * 2 = (a : Int) by omega] at hcell
      have HA := Lib.hid ha
      have HW := Lib.hid (H1.out.below hb)
      have hsz := hb.size
      have HSZ := Lib.hid hsz
      obtain ⟨wo, rfl⟩ : ∃ wo : World, wo = wr := ⟨_, rfl⟩
      have hb6 : Below wo.heap.size wo (wo.alloc (.cells #[.int .i64 (a : Int), .int .i64 0, .int .i64 0, .int .i64 0, .bool false, .slice none 0 0] 186)) := (Below.refl _ _).alloc (Nat.le_refl _) _
      have HB6 := Lib.hid hb6
      have H6 := Lib.hid (HW.out.below hb6)
      have R6 := Lib.hid (heap_alloc_new wo (.cells #[.int .i64 (a : Int), .int .i64 0, .int .i64 0, .int .i64 0, .bool false, .slice none 0 0] 186))
      have HK := Lib.hid (HC.out.kind j hlt)
      have HF := Lib.hid (show f a = hw (K j) 1 (Fb j) by rw [ha]; exact HC.out.head j hlt)
      generalize hkj : K j = kj at HK HF
      generalize hfj : Fb j = fj at HF
      have HKJ := Lib.hid hkj
      have HFJ := Lib.hid hfj
      have dj : decide ((j : Int) < (m : Int)) = true := by simp; omega
      have dj2 : decide (j < m) = true := by simp; omega
      have g1 : (0 : Int) ≤ (j : Int) := by omega
      have g2 : (j : Int) < (m : Int) := by omega
      have hm := HM.out
      clear ha ho hx hb hsz hb6 hkj hfj
      go_wp2_with (go_at_call 59; refine (head_c _ H6.out hm hn j a hlt HA.out kj fj HK.out HF.out).mono ?_; rintro e w2 ⟨rfl, hb⟩; unfold hd; have HB2 := Lib.hid hb; have hr := (hb.block _ (lt_of_block R6.out)).trans R6.out; have R2 := Lib.hid hr; have f0 := frozen_of_row _ _ 0 _ _ hr; have f1 := frozen_of_row _ _ 1 _ _ hr; have f2 := frozen_of_row _ _ 2 _ _ hr; have f3 := frozen_of_row _ _ 3 _ _ hr; have f4 := frozen_of_row _ _ 4 _ _ hr; have f5 := frozen_of_row _ _ 5 _ _ hr; have c0 := cell_of_row _ _ 0 _ _ _ hr; have c1 := cell_of_row _ _ 1 _ _ _ hr; have c2 := cell_of_row _ _ 2 _ _ _ hr; have c3 := cell_of_row _ _ 3 _ _ _ hr; have c4 := cell_of_row _ _ 4 _ _ _ hr; have c5 := cell_of_row _ _ 5 _ _ _ hr; have hlt := lt_of_block hr; clear hb hr)
      obtain ⟨z, hz⟩ : ∃ z, f (a + 1) = z := ⟨_, rfl⟩
      have HZ := Lib.hid hz
      clear hz f0 f1 f2 f3 f4 f5 c0 c1 c2 c3 c4 c5
      go_loopw [7, 8, 9, 34] (fun _ _ _ iv wi => ∃ VV, wi.heap[wo.heap.size]? = some (.cells #[.int .i64 (a : Int), .int .i64 kj, .int .i64 0, .int .i64 1, .bool fj, VV] 186 (0, 0)) ∧ Below wo.heap.size wo wi ∧ ((iv = .int .i64 0 ∧ VV = .slice none 0 0) ∨ (iv = .int .i64 1 ∧ ∃ s' c', VV = .slice (some s') 1 c'))) (fun _ _ _ iv _ => 1 - (intOf iv).toNat)
      case atStart => exact ⟨_, row6 _ _ _ _ _ _ _ _ _ _ _ _ _ R2.out, below_set6 _ _ _ _ _ (Nat.le_refl _) (HB6.out.trans (HB2.out.mono HB6.out.size)), .inl ⟨rfl, rfl⟩⟩
      case round =>
        obtain ⟨VV, hr, hb, ⟨rfl, rfl⟩ | ⟨rfl, s', c', rfl⟩⟩ := hrel
        · have HBI := Lib.hid hb
          have HRI := Lib.hid hr
          have HI := Lib.hid (HW.out.below hb)
          clear hr hb
          go_wp2_with (first
            | (go_at_call 60; refine (field_c _ HI.out hm hn j a (by assumption) HA.out kj fj HK.out HF.out z HZ.out).mono ?_; rintro e w3 ⟨rfl, hb⟩; have HB3 := Lib.hid hb; have hr := (hb.block _ (lt_of_block HRI.out)).trans HRI.out; have HR3 := Lib.hid hr; have c5 := cell_of_row _ _ 5 _ _ _ hr; have f5 := frozen_of_row _ _ 5 _ _ hr; have hlt := lt_of_block hr; clear hb hr)
            | (at_builtin; refine wpList_push _ rfl (.tmp 45) (.tmp 47) 51 rfl w3.heap.size 3 i3 Tryz.underlying51 INFO3.out.1 INFO3.out.2.1 INFO3.out.2.2.1 INFO3.out.2.2.2 (.slice none 0 0) 0 [] (by simp [Act.eval]) (World.ownsRow_nil _ _ _ _) (w3.heap.size + 1) (some ⟨w3.heap.size, 0, none⟩) 1 1 _ rfl (ints_one w3 _) (by omega) (by simp) ?_; intro v2 w4 ho hg _; obtain ⟨s', c', rfl⟩ := own_form1 ho; have HO4 := Lib.hid ho; have HG := Lib.hid hg; have hb4 := ((Below.refl w3.heap.size w3).alloc (Nat.le_refl _) _).grown hg (by simp) (fun k hk => by cases hk); have HB4 := Lib.hid hb4; have hr := (hb4.block _ (lt_of_block HR3.out)).trans HR3.out; have HR4 := Lib.hid hr; have f5 := frozen_of_row _ _ 5 _ _ hr; have c5 := cell_of_row _ _ 5 _ _ _ hr; clear ho hg hb4 hr))
          go_roundw
          case rel => exact ⟨_, row65 _ _ _ _ _ _ _ _ _ _ HR4.out, (HBI.out.trans ((HB3.out.trans (HB4.out.mono HB3.out.size)).mono HBI.out.size)).setCell (p := ⟨wo.heap.size, 5, none⟩) (Nat.le_refl _) _, .inr ⟨by go_num, s', c', rfl⟩⟩
          case measure => simp [intOf]
        · have HBI := Lib.hid hb
          have HRI := Lib.hid hr
          have b0 := cell_of_row _ _ 0 _ _ _ hr
          have b1 := cell_of_row _ _ 1 _ _ _ hr
          have b2 := cell_of_row _ _ 2 _ _ _ hr
          have b3 := cell_of_row _ _ 3 _ _ _ hr
          have b4 := cell_of_row _ _ 4 _ _ _ hr
          have b5 := cell_of_row _ _ 5 _ _ _ hr
          have HOI := Lib.hid (owns_below HOX.out hb)
          have HSI := Lib.hid hb.size
          clear hr hb
          go_wp2_with (at_builtin; refine wpList_append_own _ rfl (.tmp 51) (.tmp 53) 49 rfl w1.heap.size 186 i0 _ 6 64 Tryz.underlying49 INFO.out.1 INFO.out.2.1 INFO.out.2.2.1 INFO.out.2.2.2 rfl (by decide) (.slice A2 j c2) j xs (by simp [Act.eval]) (HOI.out.alloc _) ⟨wr.heap.size, 0, none⟩ 1 1 (obC (a : Int) kj fj (some s') c') rfl rfl (six_cells wr _ _ _ _ _ _ _) (obC_one _ _ _ _ _) (by unfold maxLen; omega) (by omega) (Nat.le_trans HSZ.out (Nat.le_trans HSI.out (by simp))) ?_; intro v2 w5 ho hg _; have HO5 := Lib.hid ho; have HG5 := Lib.hid hg; clear ho hg)
          have hb5 : Below w1.heap.size w1 w5 := ((HBX.out.trans (HBI.out.mono HSZ.out)).alloc (Nat.le_trans HSZ.out HSI.out) _).grown HG5.out (Nat.le_trans (Nat.le_trans HSZ.out HSI.out) (by simp)) (fun k hk => (HOI.out.lt k hk).1)
          have hx := HX.out.add (some s') c'
          rw [HKJ.out, HFJ.out, show (64 : Int) + (j : Int) * 2 = (a : Int) by have := HA.out; omega] at hx
          go_roundw
          case rel => exact ⟨j + 1, _, by omega, by go_num, HO5.out, hx, hb5⟩
          case measure => simp [intOf]; omega
    · obtain rfl : j = m := by omega
      have dj : decide ((j : Int) < (j : Int)) = false := by simp
      clear ho hx hb
      go_wp2
      go_ret
      exact ⟨_, xs, rfl, ownsRow_base_a HOX.out HB.out.size, HX.out, HB.out.trans (HBX.out.mono HB.out.size)⟩
end
end Go.Proofs.YtibgbahaldojiaaGreat.Fns
