/- What goes: the objects that are not among some. -/
import Derived.Test.YtibgbahaldojiaaGreatIn
namespace Go.Proofs.YtibgbahaldojiaaGreat.Fns
open Go Go.RowKit
theorem zero4 (w : World) : (zeroValue 4).run Tryz.prog w = .ok (.bool false) w := by kernel_rfl
/-- A map holds just these numbers. -/
def MB (es : Array MapEntry) (ys : List Int) : Prop := (∀ x ∈ es.toList, (∃ y ∈ ys, x.key = .int .i64 y) ∧ x.val = .bool true) ∧ ∀ y ∈ ys, ∃ x ∈ es.toList, x.key = .int .i64 y
theorem isKey (y : Int) : MapKept.IsKey (.int .i64) (.int .i64 y) := rfl
theorem MB.find {es : Array MapEntry} {ys : List Int} (h : MB es ys) (a : Int) : (a ∉ ys ∧ Instr.findNow (.int .i64) (.int .i64 a) es.toList 0 = some none) ∨ (a ∈ ys ∧ ∃ j, Instr.findNow (.int .i64) (.int .i64 a) es.toList 0 = some (some (j, .bool true))) := by
  rcases MapKept.findNow_spec (isKey a) es.toList 0 (fun x hx => by obtain ⟨⟨y, _, e⟩, _⟩ := h.1 x hx; rw [e]; exact isKey y) with ⟨h1, h2⟩ | ⟨j, e, h1, h2, h3⟩
  · exact .inl ⟨fun hm => by obtain ⟨x, hx, e⟩ := h.2 a hm; exact h2 x hx e, h1⟩
  · have he : e ∈ es.toList := List.mem_of_getElem? h2
    obtain ⟨⟨y, hy, e2⟩, e3⟩ := h.1 e he
    rw [e2] at h3
    injection h3 with _ h3
    subst h3
    exact .inr ⟨hy, 0 + j, by rw [h1, e3]⟩
theorem MB.add {es : Array MapEntry} {ys : List Int} (h : MB es ys) (a : Int) (c : Nat) : MB (es.push ⟨.int .i64 a, .bool true, c⟩) (ys ++ [a]) := by
  refine ⟨fun x hx => ?_, fun y hy => ?_⟩
  · simp only [Array.toList_push, List.mem_append, List.mem_cons, List.not_mem_nil, or_false] at hx
    rcases hx with hx | rfl
    · obtain ⟨⟨y, h1, h2⟩, h3⟩ := h.1 x hx
      exact ⟨⟨y, by simp [h1], h2⟩, h3⟩
    · exact ⟨⟨a, by simp, rfl⟩, rfl⟩
  · simp only [List.mem_append, List.mem_cons, List.not_mem_nil, or_false] at hy
    rcases hy with hy | rfl
    · obtain ⟨x, h1, h2⟩ := h.2 y hy
      exact ⟨x, by simp [h1], h2⟩
    · exact ⟨⟨.int .i64 y, .bool true, c⟩, by simp, rfl⟩
theorem filt_take2 (p : Int → Bool) (xs : List Int) (j : Nat) (h : j < xs.length) : (xs.take (j + 1)).filter p = (xs.take j).filter p ++ (if p (xs.getD j 0) = true then [xs.getD j 0] else []) := by
  rw [List.take_add_one, List.filter_append]
  simp [List.getD_eq_getElem?_getD, List.getElem?_eq_getElem h, List.filter_cons]
theorem take_getD (ys : List Int) (j : Nat) (h : j < ys.length) : ys.take (j + 1) = ys.take j ++ [ys.getD j 0] := by
  rw [List.take_add_one]
  simp [List.getD_eq_getElem?_getD, List.getElem?_eq_getElem h]
theorem not_mem_take (ys : List Int) (hn : ys.Nodup) (j : Nat) (h : j < ys.length) : ys.getD j 0 ∉ ys.take j := by
  have h1 : (ys.take (j + 1)).Nodup := hn.sublist (List.take_sublist _ _)
  rw [take_getD ys j h, List.nodup_append] at h1
  intro hm
  exact h1.2.2 _ hm _ (by simp) rfl
section
variable (w : World) {B : HpB} {n m : Nat} {f : Nat → Int}
set_option maxRecDepth 100000 in
set_option maxHeartbeats 2000000 in
theorem dead_c (h : Hp w B n m f) (hm : m ≤ 32) (A : Option Addr) (q c : Nat) (ys : List Int) (hy : Ints w w.heap.size A q ys) (hnd : ys.Nodup) (hq : q ≤ 100000) (D : List Int) (hD : (ats m).filter (fun a => !ys.contains a) = D) :
    Calls Tryz.prog 142 #[.pointer (some ⟨B.h, 0, none⟩), .slice A q c] w fun e w' => ∃ v, e = .returned v ∧ w'.ownsRow w.heap.size 3 1 v D.length (D.map (Value.int .i64)) ∧ Below w.heap.size w w' := by
  obtain ⟨i0, hi0, hz0, hz1, hz2⟩ := info_parts info3
  have INFO := Lib.hid (And.intro hi0 (And.intro hz0 (And.intro hz1 hz2)))
  clear hi0 hz0 hz1 hz2
  have hmm := @run_makeMap Tryz.prog
  have HB0 := Lib.hid (show Below w.heap.size w (w.alloc (.map #[] 0)) from (Below.refl _ _).alloc (Nat.le_refl _) _)
  have HY := Lib.hid (And.intro hy hnd)
  have H := Lib.hid h
  have HDD := Lib.hid hD
  have R0 := Lib.hid (heap_alloc_new w (.map #[] 0))
  clear h hy hnd hD
  go_enter Tryz.func142, Tryz.ntmps142
  go_wp2
  go_loopw [7, 16] (fun _ iv wr => ∃ (j : Nat) (es : Array MapEntry) (ck : Nat), j ≤ q ∧ iv = .int .i64 (j : Int) ∧ wr.heap[w.heap.size]? = some (.map es ck) ∧ MB es (ys.take j) ∧ Below w.heap.size w wr) (fun _ iv _ => q - (intOf iv).toNat)
  case atStart => exact ⟨0, #[], 0, Nat.zero_le _, rfl, R0.out, ⟨by simp, by simp⟩, HB0.out⟩
  case round =>
    obtain ⟨j, es, ck, hj, rfl, hr, hmb, hb⟩ := hrel
    have HR := Lib.hid hr
    have HMB := Lib.hid hmb
    have HB := Lib.hid hb
    by_cases hlt : j < q
    · obtain ⟨ad, rfl, _, hc⟩ := HY.out.1.2 (by omega)
      have hcj := (hb.cell (World.block_lt_of_cell? _ _ (hc j hlt))).trans (hc j hlt)
      have hyl := HY.out.1.1
      have HT := Lib.hid (take_getD ys j (by omega))
      have hnm := not_mem_take ys HY.out.2 j (by omega)
      obtain ⟨x, hx⟩ : ∃ x, ys.getD j 0 = x := ⟨_, rfl⟩
      rw [hx] at hcj hnm HT
      have hu : (Instr.mapUpdate 249 (.map (some w.heap.size)) (.int .i64 x) (.bool true)).run Tryz.prog wr = .ok () (setB wr w.heap.size (.map (es.push ⟨.int .i64 x, .bool true, ck⟩) (ck + 1))) := by
        rcases hmb.find x with ⟨_, h2⟩ | ⟨h1, _⟩
        · exact update_new Tryz.underlying249 wr hr x (.bool true) h2
        · exact absurd h1 hnm
      have dj : decide ((j : Int) < (q : Int)) = true := by simp; omega
      have dj2 : decide (j < q) = true := by simp; omega
      have g1 : (0 : Int) ≤ (j : Int) := by omega
      have g2 : (j : Int) < (q : Int) := by omega
      clear hr hmb hb hc hyl hnm hx
      go_wp2
      go_roundw
      case rel => exact ⟨j + 1, _, _, by omega, by go_num, block_at _ HR.out, by rw [HT.out]; exact HMB.out.add x ck, HB.out.trans ((frame_block (w := wr) w.heap.size (.map (es.push ⟨.int .i64 x, .bool true, ck⟩) (ck + 1))).below HB.out.size (fun k _ e => by rw [e]; exact Nat.le_refl _))⟩
      case measure => simp [intOf]; omega
    · obtain ⟨q0, hq0⟩ : ∃ q0, q0 = q := ⟨_, rfl⟩
      obtain rfl : j = q := by omega
      subst hq0
      have dj : decide ((q0 : Int) < (q0 : Int)) = false := by simp
      have HYS := Lib.hid (show ys.take q0 = ys by exact List.take_of_length_le (by rw [HY.out.1.1]; exact Nat.le_refl _))
      have H1 := Lib.hid (H.out.below hb)
      have k0 := (H.out.below hb).c0
      obtain ⟨wo, rfl⟩ : ∃ wo : World, wo = wr := ⟨_, rfl⟩
      clear hr hmb hb
      go_wp2_with (go_at_call 71; refine (each_c _ H1.out.sm hm).mono ?_; rintro e w2 ⟨v2, rfl, ho, hb⟩; obtain ⟨A2, c2, rfl⟩ := own_form ho; have HO2 := Lib.hid ho; have HB2 := Lib.hid hb; clear ho hb)
      go_loopw [8, 10, 29] (fun v _ iv wx => ∃ i : Nat, i ≤ m ∧ iv = .int .i64 (i : Int) ∧ wx.ownsRow w2.heap.size 3 1 v (((ats m).take i).filter (fun a => !ys.contains a)).length ((((ats m).take i).filter (fun a => !ys.contains a)).map (Value.int .i64)) ∧ Below w2.heap.size w2 wx) (fun _ _ iv _ => m - (intOf iv).toNat)
      case atStart => exact ⟨0, Nat.zero_le _, rfl, World.ownsRow_nil _ _ _ _, Below.refl _ _⟩
      case round =>
        obtain ⟨i, hi, rfl, ho, hb⟩ := hrel
        have HO := Lib.hid ho
        have HBX := Lib.hid hb
        by_cases hli : i < m
        · obtain ⟨s3, c3, hv, hcell⟩ := own_cell HO2.out hli
          injection hv with hv _ h3
          subst hv h3
          have hcell := (hb.cell (World.block_lt_of_cell? _ _ hcell)).trans hcell
          have HT := Lib.hid (filt_take2 (fun a => !ys.contains a) (ats m) i (by rw [ats_len]; exact hli))
          rw [ats_getD _ _ hli] at hcell HT
          obtain ⟨a, ha⟩ : ∃ a : Int, a = 64 + (i : Int) * 2 := ⟨_, rfl⟩
          rw [← ha] at hcell HT
          have hmap : wr.heap[w.heap.size]? = some (.map es ck) := ((HB2.out.trans (hb.mono HB2.out.size)).block _ (lt_of_block HR.out)).trans HR.out
          obtain ⟨z, hz⟩ : ∃ z, ys.contains a = z := ⟨_, rfl⟩
          have hl : (Instr.lookup 249 (.map (some w.heap.size)) (.int .i64 a) false).run Tryz.prog wr = .ok (.bool z) wr := by
            have hfd := HMB.out.find a
            rw [HYS.out] at hfd
            rcases hfd with ⟨h1, h2⟩ | ⟨h1, j, h2⟩
            · have e : z = false := by rw [← hz]; simpa using h1
              rw [e]
              exact lookup_miss Tryz.underlying249 wr hmap a (.bool false) (zero4 wr) false h2
            · have e : z = true := by rw [← hz]; simpa using h1
              rw [e]
              exact lookup_hit Tryz.underlying249 wr hmap a (.bool true) j false h2
          obtain ⟨L, hL⟩ : ∃ L, L = (((ats m).take i).filter (fun a => !ys.contains a)).length := ⟨_, rfl⟩
          have hLm : L ≤ i := by rw [hL]; exact Nat.le_trans (List.length_filter_le _ _) (by simp; omega)
          rw [← hL] at ho HO
          obtain ⟨A4, c4, rfl⟩ := own_form ho
          have HL := Lib.hid hL
          have HZ := Lib.hid hz
          have di : decide ((i : Int) < (m : Int)) = true := by simp; omega
          have di2 : decide (i < m) = true := by simp; omega
          have g1 : (0 : Int) ≤ (i : Int) := by omega
          have g2 : (i : Int) < (m : Int) := by omega
          clear ho hb hmap hL hz ha
          cases z
          · go_wp2_with (at_builtin; refine wpList_push _ rfl (.tmp 37) (.tmp 39) 51 rfl w2.heap.size 3 i0 Tryz.underlying51 INFO.out.1 INFO.out.2.1 INFO.out.2.2.1 INFO.out.2.2.2 (.slice A4 L c4) L _ (by simp [Act.eval]) (HO.out.alloc _) (wr.heap.size + 1) (some ⟨wr.heap.size, 0, none⟩) 1 1 _ rfl (ints_one wr _) (by omega) (Nat.le_trans HBX.out.size (by simp)) ?_; intro v3 w3 ho hg _; have HO3 := Lib.hid ho; have HB3 := Lib.hid ((HBX.out.alloc HBX.out.size _).grown hg (Nat.le_trans HBX.out.size (by simp)) (fun k hk => (HO.out.lt k hk).1)); clear ho hg)
            go_roundw
            case rel =>
              have ht : ((ats m).take (i + 1)).filter (fun a => !ys.contains a) = ((ats m).take i).filter (fun a => !ys.contains a) ++ [a] := by rw [HT.out, if_pos (by rw [HZ.out]; rfl)]
              exact ⟨i + 1, by omega, by go_num, by rw [ht, List.length_append, ← HL.out]; simpa using HO3.out, HB3.out⟩
            case measure => simp [intOf]; omega
          · go_wp2
            go_roundw
            case rel =>
              have ht : ((ats m).take (i + 1)).filter (fun a => !ys.contains a) = ((ats m).take i).filter (fun a => !ys.contains a) := by rw [HT.out, if_neg (by rw [HZ.out]; simp), List.append_nil]
              exact ⟨i + 1, by omega, by go_num, by rw [ht, ← HL.out]; exact HO.out, HBX.out⟩
            case measure => simp [intOf]; omega
        · obtain ⟨m0, hm0⟩ : ∃ m0, m0 = m := ⟨_, rfl⟩
          obtain rfl : i = m := by omega
          subst hm0
          rw [List.take_of_length_le (by rw [ats_len]; exact Nat.le_refl _), HDD.out] at ho
          have HOD := Lib.hid ho
          obtain ⟨A4, c4, rfl⟩ := own_form ho
          have di : decide ((m0 : Int) < (m0 : Int)) = false := by simp
          clear ho hb HO
          go_wp2
          go_ret
          have s1 := HB.out.size
          have s2 := HB2.out.size
          exact ⟨_, rfl, ownsRow_base_a HOD.out (Nat.le_trans s1 s2), HB.out.trans ((HB2.out.trans (HBX.out.mono s2)).mono s1)⟩
set_option maxHeartbeats 1000000 in
theorem sweep0_c (h : Hp w B n m f) (hm : m ≤ 32) (A : Option Addr) (q c : Nat) (ys : List Int) (hy : Ints w w.heap.size A q ys) (hnd : ys.Nodup) (hq : q ≤ 100000) (hD : (ats m).filter (fun a => !ys.contains a) = []) :
    Calls Tryz.prog 116 #[.pointer (some ⟨B.h, 0, none⟩), .slice A q c] w fun e w' => e = .returned (.int .i64 0) ∧ Below w.heap.size w w' := by
  have HD := Lib.hid (dead_c w h hm A q c ys hy hnd hq [] hD)
  clear h hy hnd hD
  go_enter Tryz.func116, Tryz.ntmps116
  go_wp2_with (go_at_call 142; refine HD.out.mono ?_; rintro e w1 ⟨v, rfl, ho, hb⟩; obtain ⟨A2, c2, rfl⟩ := own_form ho; have HB := Lib.hid hb; clear ho hb)
  go_loopw [5, 12] (fun nv iv wr => nv = .int .i64 0 ∧ iv = .int .i64 0 ∧ wr = w1) (fun _ _ _ => 0)
  case atStart => exact ⟨rfl, rfl, rfl⟩
  case round =>
    obtain ⟨rfl, rfl, rfl⟩ := hrel
    go_wp2
    go_ret
    exact ⟨rfl, HB.out⟩
set_option maxHeartbeats 1000000 in
theorem sweep1_c (h : Hp w B n 1 f) (hn : 2 ≤ n) (A : Option Addr) (c : Nat) :
    Calls Tryz.prog 116 #[.pointer (some ⟨B.h, 0, none⟩), .slice A 0 c] w fun e w' => e = .returned (.int .i64 1) ∧ ∃ w1, Hp w1 B n 1 f ∧ Below w.heap.size w w1 ∧ Sm w' B.sp B.g n 0 f ∧ Frame w1 w' (SFoot B.sp B.g 1) := by
  have HD := Lib.hid (dead_c w h (by omega) A 0 c [] (Ints.nil _ _ _) List.nodup_nil (by omega) [64] (by decide))
  have H := Lib.hid h
  clear h
  go_enter Tryz.func116, Tryz.ntmps116
  go_wp2_with (go_at_call 142; refine HD.out.mono ?_; rintro e w1 ⟨v, rfl, ho, hb⟩; have HO := Lib.hid ho; obtain ⟨A2, c2, rfl⟩ := own_form ho; have HB := Lib.hid hb; have H1 := Lib.hid (H.out.below hb); have k0 := H1.out.c0; clear ho hb)
  obtain ⟨s3, c3, hv, hcell⟩ := own_cell (w := w1) (n := 1) (xs := [64]) HO.out (i := 0) (by omega)
  injection hv with hv _ h3
  subst hv h3
  go_loopw [5, 7, 12] (fun nv _ iv wr => (nv = .int .i64 0 ∧ iv = .int .i64 0 ∧ wr = w1) ∨ (nv = .int .i64 1 ∧ iv = .int .i64 1 ∧ Sm wr B.sp B.g n 0 f ∧ Frame w1 wr (SFoot B.sp B.g 1))) (fun _ _ iv _ => 1 - (intOf iv).toNat)
  case atStart => exact .inl ⟨rfl, rfl, rfl⟩
  case round =>
    rcases hrel with ⟨rfl, rfl, rfl⟩ | ⟨rfl, rfl, hs, hf⟩
    · go_wp2_with (go_at_call 143; refine (free1_c _ H1.out.sm hn).mono ?_; rintro e w2 ⟨rfl, hs, hf⟩; have HS := Lib.hid hs; have HF := Lib.hid hf; clear hs hf)
      go_roundw
      case rel => exact .inr ⟨by go_num, by go_num, HS.out, HF.out⟩
      case measure => simp [intOf]
    · have HS := Lib.hid hs
      have HF := Lib.hid hf
      clear hs hf
      go_wp2
      go_ret
      exact ⟨rfl, w1, H1.out, HB.out, HS.out, HF.out⟩
end
end Go.Proofs.YtibgbahaldojiaaGreat.Fns
