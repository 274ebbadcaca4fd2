/- What each function of the package stack does to the world: one stack of ints behind a pointer, and nothing else, is read or written; its slice is its own. -/
import Derived.Test.YtibgbahaldojiaaGreatBlock
import Derived.WalkKit
import Derived.WalkSpells
import Derived.WalkLawsBesides
import Derived.Lib.Hide
import Derived.OpenShut
import Derived.Deep.RegionLaw
import Derived.Deep.QuietTactic
import Derived.BigQuiet
namespace Go.Proofs.YtibgbahaldojiaaGreat.Fns
open Go Go.RowKit

/-- Block g holds a stack of l, with room for so many; v: its slice. -/
structure Sk (w : World) (B g : Nat) (v : Value) (l : List Int) (room : Nat) (over : Bool) : Prop where
  base : B ≤ g
  cells : w.heap[g]? = some (.cells #[v, .int .i64 room, .bool over] 92 (0, 0))
  owns : w.ownsRow B 3 1 v l.length (l.map (Value.int .i64))
  fits : l.length ≤ room
  most : room ≤ 4096

section
variable {w w' : World} {B g : Nat} {v : Value} {l : List Int} {room : Nat} {over : Bool}
theorem Sk.c0 (h : Sk w B g v l room over) : w.cell? ⟨g, 0, none⟩ = some v := cell_of_row w g 0 _ _ _ h.cells
theorem Sk.c1 (h : Sk w B g v l room over) : w.cell? ⟨g, 1, none⟩ = some (.int .i64 room) := cell_of_row w g 1 _ _ _ h.cells
theorem Sk.c2 (h : Sk w B g v l room over) : w.cell? ⟨g, 2, none⟩ = some (.bool over) := cell_of_row w g 2 _ _ _ h.cells
theorem Sk.fr (h : Sk w B g v l room over) (i : Nat) : w.frozen? ⟨g, i, none⟩ = false := frozen_of_row w g i _ _ h.cells
theorem Sk.ne (h : Sk w B g v l room over) : v.ownBlock ≠ some g := own_ne h.owns h.cells (by decide)
theorem Sk.frame {F : Nat → Prop} (h : Sk w B g v l room over) (hf : Frame w w' F) (h1 : ¬ F g) (h2 : ∀ k, v.ownBlock = some k → ¬ F k) : Sk w' B g v l room over :=
  ⟨h.base, hf.heap h.cells h1, hf.owns h.owns h2, h.fits, h.most⟩
theorem Sk.drewN (h : Sk w B g v l room over) (n : Nat) : Sk (w.drewN n) B g v l room over := ⟨h.base, h.cells, h.owns, h.fits, h.most⟩
theorem Sk.drew (h : Sk w B g v l room over) : Sk w.drew B g v l room over := ⟨h.base, h.cells, h.owns, h.fits, h.most⟩
theorem Sk.form (h : Sk w B g v l room over) : ∃ A c, v = .slice A l.length c := by
  rcases h.owns.2 with ⟨rfl, h0⟩ | ⟨b, cap, _, rfl, _⟩
  · exact ⟨none, 0, by rw [h0]⟩
  · exact ⟨_, _, rfl⟩
theorem Sk.reset (h : Sk w B g v l room over) (o : Bool) : Sk (w.setCell ⟨g, 2, none⟩ (.bool o)) B g v l room o := by
  have hf : Frame w (w.setCell ⟨g, 2, none⟩ (.bool o)) (fun k => k = g) := Frame.setCell (F := fun k => k = g) (Frame.refl w _) (p := ⟨g, 2, none⟩) (fun _ => rfl) _
  refine ⟨h.base, ?_, hf.owns h.owns (fun k hk e => h.ne (e ▸ hk)), h.fits, h.most⟩
  rw [heap_setCell_same w g 2 _ _ _ h.cells]
  rfl
theorem Sk.kept {w1 : World} {q : Nat} (h : Sk w B g v l room over) (hg : (w.drewN q).grownBy w1 v.ownBlock) : w1.heap[g]? = some (.cells #[v, .int .i64 room, .bool over] 92 (0, 0)) :=
  (hg.block g (lt_of_block h.cells) (fun e => h.ne e.symm)).trans h.cells
theorem Sk.pop {b n cap : Nat} (h : Sk w B g (.slice (some ⟨b, 0, none⟩) n cap) l room over) : Sk (w.setCell ⟨g, 0, none⟩ (.slice (some ⟨b, 0, none⟩) (n - 1) cap)) B g (.slice (some ⟨b, 0, none⟩) (n - 1) cap) (l.take (n - 1)) room over := by
  have hf : Frame w (w.setCell ⟨g, 0, none⟩ (.slice (some ⟨b, 0, none⟩) (n - 1) cap)) (fun k => k = g) := Frame.setCell (F := fun k => k = g) (Frame.refl w _) (p := ⟨g, 0, none⟩) (fun _ => rfl) _
  obtain rfl : l.length = n := by
    rcases h.owns.2 with ⟨h1, h2⟩ | ⟨_, _, _, h1, _⟩
    · cases h1
    · simp at h1; omega
  have ho := owns_cut (hf.owns h.owns (fun k hk e => h.ne (e ▸ hk))) (Nat.sub_le l.length 1)
  refine ⟨h.base, ?_, ?_, ?_, h.most⟩
  · rw [heap_setCell_same w g 0 _ _ _ h.cells]; rfl
  · rw [List.map_take, List.length_take, Nat.min_eq_left (by omega)]; exact ho
  · have := h.fits; simp; omega
theorem Sk.push_end {w1 : World} {VA A1 : Option Addr} {n vc k q c1 : Nat} {ys : List Int} (h : Sk w B g v l room over) (hv : v = .slice VA n vc) (hn : n = l.length) (hy : ys.length = k) (hk : n + k ≤ room)
    (ho : w1.ownsRow B 3 1 (.slice A1 (n + k) c1) (n + k) (l.map (Value.int .i64) ++ ys.map (Value.int .i64))) (hg : (w.drewN q).grownBy w1 (Value.slice VA n vc).ownBlock)
    (hat : (Value.slice A1 (n + k) c1).ownBlock = (Value.slice VA n vc).ownBlock ∨ (Value.slice A1 (n + k) c1).ownBlock = some (w.drewN q).heap.size) (o : Bool) :
    ∃ v', Sk ((w1.setCell ⟨g, 0, none⟩ (.slice A1 (n + k) c1)).setCell ⟨g, 2, none⟩ (.bool o)) B g v' (l ++ ys) room o ∧ (v'.ownBlock = v.ownBlock ∨ ∃ b, v'.ownBlock = some b ∧ w.heap.size ≤ b) ∧
      Frame w ((w1.setCell ⟨g, 0, none⟩ (.slice A1 (n + k) c1)).setCell ⟨g, 2, none⟩ (.bool o)) (fun k => k = g ∨ v.ownBlock = some k) := by
  subst hv
  have hcl := h.kept hg
  have hne := own_ne ho hcl (by decide)
  have hf0 : Frame (w.drewN q) w1 (fun k => k = g ∨ (Value.slice VA n vc).ownBlock = some k) := Frame.of_grown hg (fun k _ hk => Or.inr hk)
  have hf : Frame w w1 (fun k => k = g ∨ (Value.slice VA n vc).ownBlock = some k) := ⟨hf0.os, hf0.tape, hf0.output, hf0.size, hf0.block⟩
  have h1 : (w1.setCell ⟨g, 0, none⟩ (.slice A1 (n + k) c1)).heap[g]? = some (.cells #[.slice A1 (n + k) c1, .int .i64 room, .bool over] 92 (0, 0)) := by
    rw [heap_setCell_same w1 g 0 _ _ _ hcl]; rfl
  have h2 : ((w1.setCell ⟨g, 0, none⟩ (.slice A1 (n + k) c1)).setCell ⟨g, 2, none⟩ (.bool o)).heap[g]? = some (.cells #[.slice A1 (n + k) c1, .int .i64 room, .bool o] 92 (0, 0)) := by
    rw [heap_setCell_same _ g 2 _ _ _ h1]; rfl
  have hw : Frame w1 ((w1.setCell ⟨g, 0, none⟩ (.slice A1 (n + k) c1)).setCell ⟨g, 2, none⟩ (.bool o)) (fun k => k = g) :=
    Frame.setCell (F := fun k => k = g) (Frame.setCell (F := fun k => k = g) (Frame.refl w1 _) (p := ⟨g, 0, none⟩) (fun _ => rfl) _) (p := ⟨g, 2, none⟩) (fun _ => rfl) _
  refine ⟨.slice A1 (n + k) c1, ⟨h.base, h2, ?_, ?_, h.most⟩, ?_, hf.trans hw (fun k _ hk => .inl hk)⟩
  · rw [List.map_append, List.length_append, ← hn, hy]
    exact hw.owns ho (fun k hk e => hne (e ▸ hk))
  · rw [List.length_append]; omega
  · rcases hat with e | e
    · exact .inl e
    · exact .inr ⟨_, e, Nat.le_refl _⟩
end

theorem sk_depth_c (w : World) {B g : Nat} {v : Value} {l : List Int} {room : Nat} {over : Bool} (h : Sk w B g v l room over) :
    Calls Tryz.prog 200 #[.pointer (some ⟨g, 0, none⟩)] w fun e w' => e = .returned (.int .i64 l.length) ∧ w = w' := by
  have c0 := h.c0
  obtain ⟨A, c, rfl⟩ := h.form
  clear h
  go_enter Tryz.func200, Tryz.ntmps200
  go_wp2
  go_ret
  exact ⟨rfl, rfl⟩

theorem sk_over_c (w : World) {B g : Nat} {v : Value} {l : List Int} {room : Nat} {over : Bool} (h : Sk w B g v l room over) :
    Calls Tryz.prog 169 #[.pointer (some ⟨g, 0, none⟩)] w fun e w' => e = .returned (.bool over) ∧ w = w' := by
  have c2 := h.c2
  clear h
  go_enter Tryz.func169, Tryz.ntmps169
  go_wp2
  go_ret
  exact ⟨rfl, rfl⟩

theorem sk_reset_c (w : World) {B g : Nat} {v : Value} {l : List Int} {room : Nat} {over : Bool} (h : Sk w B g v l room over) :
    Calls Tryz.prog 170 #[.pointer (some ⟨g, 0, none⟩)] w fun e w' => e = .returned (.tuple #[]) ∧ Sk w' B g v l room false ∧ Frame w w' (fun k => k = g) := by
  have c2 := h.c2
  have f2 := h.fr 2
  have H := Lib.hid h
  clear h
  go_enter Tryz.func170, Tryz.ntmps170
  go_wp2
  go_end0
  exact ⟨rfl, H.out.reset false, Frame.setCell (F := fun k => k = g) (Frame.refl w _) (p := ⟨g, 2, none⟩) (fun _ => rfl) _⟩

theorem sk_new_bad (n : Int) (w : World) (h : n < 1 ∨ 4096 < n) :
    Calls Tryz.prog 14 #[.int .i64 n] w fun e w' => e = .returned (.tuple #[.pointer none, .int .i64 1]) ∧ w = w' := by
  rcases h with h | h
  · go_enter Tryz.func14, Tryz.ntmps14
    go_wp2
    go_ret2
    exact ⟨rfl, rfl⟩
  · have h' : ¬ n < 1 := by omega
    go_enter Tryz.func14, Tryz.ntmps14
    go_wp2
    go_ret2
    exact ⟨rfl, rfl⟩

theorem sk_new_ok (n : Nat) (w : World) (B : Nat) (hB : B ≤ w.heap.size) (h1 : 1 ≤ n) (h2 : n ≤ 4096) :
    Calls Tryz.prog 14 #[.int .i64 n] w fun e w' => e = .returned (.tuple #[.pointer (some ⟨w.heap.size, 0, none⟩), .int .i64 0]) ∧ Sk w' B w.heap.size (.slice none 0 0) [] n false ∧ Frame w w' (fun _ => False) := by
  go_enter Tryz.func14, Tryz.ntmps14
  go_wp2
  go_ret2
  refine ⟨rfl, ⟨hB, heap_alloc_new _ _, World.ownsRow_nil _ _ _ _, by simp, h2⟩, (Frame.refl w _).alloc _⟩

theorem sk_pop_none (w : World) {B g : Nat} {v : Value} {room : Nat} {over : Bool} (h : Sk w B g v [] room over) :
    Calls Tryz.prog 201 #[.pointer (some ⟨g, 0, none⟩)] w fun e w' => e = .returned (.tuple #[.int .i64 0, .bool false]) ∧ w = w' := by
  have H := Lib.hid h
  clear h
  go_enter Tryz.func201, Tryz.ntmps201
  go_wp2_with (go_at_call 200; refine (sk_depth_c _ H.out).mono ?_; rintro e w' ⟨rfl, rfl⟩)
  go_ret2
  exact ⟨rfl, rfl⟩

theorem sk_pop_some (w : World) {B g : Nat} {v : Value} {l : List Int} {room : Nat} {over : Bool} (h : Sk w B g v l room over) (hl : 0 < l.length) :
    Calls Tryz.prog 201 #[.pointer (some ⟨g, 0, none⟩)] w fun e w' => e = .returned (.tuple #[.int .i64 (l.getD (l.length - 1) 0), .bool true]) ∧ ∃ v', Sk w' B g v' (l.take (l.length - 1)) room over ∧ v'.ownBlock = v.ownBlock ∧ Frame w w' (fun k => k = g) := by
  have H := Lib.hid h
  have c0 := h.c0
  have f0 := h.fr 0
  have hn : l.length ≤ 4096 := Nat.le_trans h.fits h.most
  obtain ⟨n, hnl⟩ : ∃ n, n = l.length := ⟨_, rfl⟩
  obtain ⟨b, cap, hv, hcap⟩ : ∃ b cap, v = .slice (some ⟨b, 0, none⟩) n cap ∧ n ≤ cap := by
    rcases h.owns.2 with ⟨_, h0⟩ | ⟨b, cap, cur, h1, _, _, h2, _⟩
    · omega
    · exact ⟨b, cap, by rw [h1, hnl], by omega⟩
  have hc : w.cell? ⟨b, n - 1, none⟩ = some (.int .i64 (l.getD (n - 1) 0)) := by
    have ho := h.owns
    rw [hv, ← hnl] at ho
    rw [ho.cellAt (n - 1) (by omega), List.getElem?_map, List.getElem?_eq_getElem (by omega)]
    simp [List.getD_eq_getElem?_getD, List.getElem?_eq_getElem (show n - 1 < l.length by omega)]
  have NL := Lib.hid hnl
  have HV := Lib.hid hv
  rw [hv] at c0
  rw [← hnl] at hn hl
  obtain ⟨x, hx⟩ : ∃ x, x = l.getD (n - 1) 0 := ⟨_, rfl⟩
  rw [← hx] at hc
  have HX := Lib.hid hx
  have HD : Hid (∀ w, Sk w B g v l room over → Calls Tryz.prog 200 #[.pointer (some ⟨g, 0, none⟩)] w fun e w' => e = .returned (.int .i64 n) ∧ w = w') := by
    intro w h
    rw [hnl]; exact sk_depth_c w h
  clear h hnl hv hx
  have q0 : 0 ≤ (n : Int) - 1 := by omega
  have q1 : ((n : Int) - 1).toNat = n - 1 := by omega
  have q2 : IntKind.i64.wrap ((n : Int) - 1) = (n : Int) - 1 := IntWalk.i64_in _ (by omega)
  have q3 : ((n : Int) == 0) = false := by simp; omega
  have q4 : (n : Int) - 1 < n := by omega
  have q5 : n - 1 < n := by omega
  have q6 : (n : Int) - 1 ≤ cap := by omega
  have q7 : n - 1 ≤ cap := by omega
  go_enter Tryz.func201, Tryz.ntmps201
  go_wp2_with (go_at_call 200; refine (HD.out _ H.out).mono ?_; rintro e w' ⟨rfl, rfl⟩)
  go_quiet (fail)
  go_wp2
  go_region
  go_wp2
  go_ret2
  have hh := H.out
  rw [HV.out, NL.out] at hh
  refine ⟨by rw [HX.out, NL.out]; rfl, .slice (some ⟨b, 0, none⟩) (n - 1) cap, ?_, by rw [HV.out]; rfl, ?_⟩
  · rw [← NL.out] at hh ⊢
    exact (hh.drewN _).pop
  · exact Frame.setCell (F := fun k => k = g) ((Frame.refl w _).drewN _) (p := ⟨g, 0, none⟩) (fun _ => rfl) _

theorem sk_push_c (w : World) {B g : Nat} {v : Value} {l : List Int} {room : Nat} {over : Bool} (h : Sk w B g v l room over) (hB : B ≤ w.heap.size) (C : Nat) (A : Option Addr) (m c : Nat) (xs : List Int) (hx : Ints w C A m xs) (hm : m ≤ c) (hc : c ≤ maxLen) :
    Calls Tryz.prog 199 #[.pointer (some ⟨g, 0, none⟩), .slice A m c] w fun e w' => e = .returned (.int .i64 ((min m (room - l.length) : Nat) : Int)) ∧
      ∃ v', Sk w' B g v' (l ++ xs.take (room - l.length)) room (over || decide (room - l.length < m)) ∧ (v'.ownBlock = v.ownBlock ∨ ∃ b, v'.ownBlock = some b ∧ w.heap.size ≤ b) ∧ Frame w w' (fun k => k = g ∨ v.ownBlock = some k) := by
  unfold maxLen at hc
  have H := Lib.hid h
  have c0 := h.c0
  have c1 := h.c1
  have c2 := h.c2
  have f0 := h.fr 0
  have f2 := h.fr 2
  have hr := h.most
  have hf := h.fits
  obtain ⟨i0, hi0, hz0, hz1, hz2⟩ := info_parts info3
  obtain ⟨VA, vc, hv⟩ := h.form
  obtain ⟨n, hn⟩ : ∃ n, n = l.length := ⟨_, rfl⟩
  have NL := Lib.hid hn
  rw [← hn] at hv
  have HV := Lib.hid hv
  have XS := Lib.hid hx
  have INFO := Lib.hid (And.intro hi0 (And.intro hz0 (And.intro hz1 hz2)))
  rw [hv] at c0
  rw [← hn] at hf
  clear h hx hn hv hi0 hz0 hz1 hz2
  have OWN : Hid (∀ q, (w.drewN q).ownsRow B 3 1 (.slice VA n vc) n (l.map (Value.int .i64))) := fun q => by
    have := H.out.owns
    rw [← NL.out, HV.out] at this
    exact this
  have GC : Hid (∀ q w1, (w.drewN q).grownBy w1 (Value.ownBlock (.slice VA n vc)) → w1.heap[g]? = some (.cells #[.slice VA n vc, .int .i64 room, .bool over] 92 (0, 0))) := fun q w1 hg => by
    have hh := H.out
    rw [HV.out] at hh
    exact hh.kept hg
  by_cases hk : (room : Int) - n < m
  · obtain ⟨k, hkr⟩ : ∃ k, k + n = room := ⟨room - n, by omega⟩
    obtain ⟨zs, hzs⟩ : ∃ zs, zs = xs.take k := ⟨_, rfl⟩
    have hz := XS.out.take (k := k) (by omega)
    rw [← hzs] at hz
    have hzl := hz.1
    have ZS := Lib.hid hz
    have q2 : IntKind.i64.wrap ((room : Int) - n) = (room : Int) - n := IntWalk.i64_in _ (by omega)
    have q3 : (room : Int) - n = k := by omega
    have q4 : (k : Int) < m := by omega
    have q5 : k ≤ c := by omega
    have q6 : n + k ≤ 4096 := by omega
    have KR := Lib.hid hkr
    rw [q3] at q2
    have HZ := Lib.hid hzs
    have HZL := Lib.hid hzl
    clear hkr hzs hz hzl hk
    go_enter Tryz.func199, Tryz.ntmps199
    go_wp2_with fail
    go_quiet (fail)
    go_wp2_with fail
    clear q2 q3
    go_region_law (refine step_push _ rfl (.tmp 25) (.tmp 28) 51 rfl B 3 i0 Tryz.underlying51 INFO.out.1 INFO.out.2.1 INFO.out.2.2.1 INFO.out.2.2.2 (.slice VA n vc) n (l.map (Value.int .i64)) (by simp [Act.eval]) (OWN.out _) C A k c zs (by simp [Act.eval]) ZS.out (by omega) hB ?_; intro v1 w1 ho hg hat; obtain ⟨A1, c1', rfl⟩ := own_form ho; have hcl := GC.out _ _ hg; have d0 := cell_of_row w1 g 0 _ _ _ hcl; have d2 := cell_of_row w1 g 2 _ _ _ hcl; have e0 := frozen_of_row w1 g 0 _ _ hcl; have e2 := frozen_of_row w1 g 2 _ _ hcl; have HO := Lib.hid ho; have HG := Lib.hid hg; have HA := Lib.hid hat; clear ho hg hcl hat)
    all_goals
      go_wp2
    all_goals
      go_ret
      have hkr := KR.out
      have hn := NL.out
      refine ⟨?_, ?_⟩
      · rw [← hn, show min m (room - n) = k by omega]; rfl
      · rw [← hn, show room - n = k by omega, ← HZ.out, show (over || decide (k < m)) = true by simp; omega]
        exact H.out.push_end HV.out hn HZL.out (by omega) HO.out HG.out HA.out true
  · have q2 : IntKind.i64.wrap ((room : Int) - n) = (room : Int) - n := IntWalk.i64_in _ (by omega)
    cases over
    all_goals
      go_enter Tryz.func199, Tryz.ntmps199
      go_wp2_with fail
      go_quiet (fail)
      go_wp2_with fail
      clear q2
      go_region_law (refine step_push _ rfl (.tmp 25) (.tmp 28) 51 rfl B 3 i0 Tryz.underlying51 INFO.out.1 INFO.out.2.1 INFO.out.2.2.1 INFO.out.2.2.2 (.slice VA n vc) n (l.map (Value.int .i64)) (by simp [Act.eval]) (OWN.out _) C A m c xs (by simp [Act.eval]) XS.out (by omega) hB ?_; intro v1 w1 ho hg hat; obtain ⟨A1, c1', rfl⟩ := own_form ho; have hcl := GC.out _ _ hg; have d0 := cell_of_row w1 g 0 _ _ _ hcl; have d2 := cell_of_row w1 g 2 _ _ _ hcl; have e0 := frozen_of_row w1 g 0 _ _ hcl; have e2 := frozen_of_row w1 g 2 _ _ hcl; have HO := Lib.hid ho; have HG := Lib.hid hg; have HA := Lib.hid hat; clear ho hg hcl hat)
      all_goals
        go_wp2
      all_goals
        go_ret
        have hn := NL.out
        have hxl := XS.out.1
        refine ⟨?_, ?_⟩
        · rw [← hn, show min m (room - n) = m by omega]; rfl
        · rw [← hn, List.take_of_length_le (by omega), show decide (room - n < m) = false by simp; omega, Bool.or_false]
          exact H.out.push_end HV.out hn hxl (by omega) HO.out HG.out HA.out _

end Go.Proofs.YtibgbahaldojiaaGreat.Fns
