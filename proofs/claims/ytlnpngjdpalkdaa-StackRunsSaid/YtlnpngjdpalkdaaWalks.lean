/- What each function of the package stack does to the world: one stack of ints behind a pointer, and nothing else, is read or written; its slice is its own. -/
import Derived.Test.YtlnpngjdpalkdaaRows
import Derived.Test.YtlnpngjdpalkdaaMem
import Derived.WalkKit
import Derived.WalkSpells
import Derived.WalkLawsBesides
import Derived.Lib.Hide
import Derived.OpenShut
import Derived.Deep.RegionLaw
import Derived.Deep.QuietTactic
import Derived.BigQuiet
namespace Go.Proofs.Ytlnpngjdpalkdaa.Fns
open Go Go.RowKit

theorem info3 : (Try.prog.info? 3).map (fun i => (i.zero, i.size, i.bytes)) = some (some (.int .i64 0), 1, 8) := by kernel_rfl

/-- Block g holds a stack of l, with room for so many; v: its slice. -/
structure St (w : World) (B g : Nat) (v : Value) (l : List Int) (room : Nat) (over : Bool) : Prop where
  base : B ≤ g
  cells : w.heap[g]? = some (.cells #[v, .int .i64 room, .bool over] 38 (0, 0))
  owns : w.ownsRow B 3 1 v l.length (l.map (Value.int .i64))
  fits : l.length ≤ room
  most : room ≤ 4096

section
variable {w w' : World} {B g : Nat} {v : Value} {l : List Int} {room : Nat} {over : Bool}
theorem St.c0 (h : St w B g v l room over) : w.cell? ⟨g, 0, none⟩ = some v := cell_of_row w g 0 _ _ _ h.cells
theorem St.c1 (h : St w B g v l room over) : w.cell? ⟨g, 1, none⟩ = some (.int .i64 room) := cell_of_row w g 1 _ _ _ h.cells
theorem St.c2 (h : St w B g v l room over) : w.cell? ⟨g, 2, none⟩ = some (.bool over) := cell_of_row w g 2 _ _ _ h.cells
theorem St.fr (h : St w B g v l room over) (i : Nat) : w.frozen? ⟨g, i, none⟩ = false := frozen_of_row w g i _ _ h.cells
theorem St.ne (h : St w B g v l room over) : v.ownBlock ≠ some g := own_ne h.owns h.cells (by decide)
theorem St.frame {F : Nat → Prop} (h : St w B g v l room over) (hf : Frame w w' F) (h1 : ¬ F g) (h2 : ∀ k, v.ownBlock = some k → ¬ F k) : St w' B g v l room over :=
  ⟨h.base, hf.heap h.cells h1, hf.owns h.owns h2, h.fits, h.most⟩
theorem St.drewN (h : St w B g v l room over) (n : Nat) : St (w.drewN n) B g v l room over := ⟨h.base, h.cells, h.owns, h.fits, h.most⟩
theorem St.drew (h : St w B g v l room over) : St w.drew B g v l room over := ⟨h.base, h.cells, h.owns, h.fits, h.most⟩
theorem St.form (h : St w B g v l room over) : ∃ A c, v = .slice A l.length c := by
  rcases h.owns.2 with ⟨rfl, h0⟩ | ⟨b, cap, _, rfl, _⟩
  · exact ⟨none, 0, by rw [h0]⟩
  · exact ⟨_, _, rfl⟩
theorem St.reset (h : St w B g v l room over) (o : Bool) : St (w.setCell ⟨g, 2, none⟩ (.bool o)) B g v l room o := by
  have hf : Frame w (w.setCell ⟨g, 2, none⟩ (.bool o)) (fun k => k = g) := Frame.setCell (F := fun k => k = g) (Frame.refl w _) (p := ⟨g, 2, none⟩) (fun _ => rfl) _
  refine ⟨h.base, ?_, hf.owns h.owns (fun k hk e => h.ne (e ▸ hk)), h.fits, h.most⟩
  rw [heap_setCell_same w g 2 _ _ _ h.cells]
  rfl
theorem St.kept {w1 : World} {q : Nat} (h : St w B g v l room over) (hg : (w.drewN q).grownBy w1 v.ownBlock) : w1.heap[g]? = some (.cells #[v, .int .i64 room, .bool over] 38 (0, 0)) :=
  (hg.block g (lt_of_block h.cells) (fun e => h.ne e.symm)).trans h.cells
theorem own_form {base n : Nat} {xs : List Value} (h : w.ownsRow base 3 1 v n xs) : ∃ A c, v = .slice A n c := by
  rcases h.2 with ⟨rfl, h0⟩ | ⟨b, cap, _, rfl, _⟩
  · exact ⟨none, 0, by rw [h0]⟩
  · exact ⟨_, _, rfl⟩
theorem St.pop {b n cap : Nat} (h : St w B g (.slice (some ⟨b, 0, none⟩) n cap) l room over) : St (w.setCell ⟨g, 0, none⟩ (.slice (some ⟨b, 0, none⟩) (n - 1) cap)) B g (.slice (some ⟨b, 0, none⟩) (n - 1) cap) (l.take (n - 1)) room over := by
  have hf : Frame w (w.setCell ⟨g, 0, none⟩ (.slice (some ⟨b, 0, none⟩) (n - 1) cap)) (fun k => k = g) := Frame.setCell (F := fun k => k = g) (Frame.refl w _) (p := ⟨g, 0, none⟩) (fun _ => rfl) _
  obtain rfl : l.length = n := by
    rcases h.owns.2 with ⟨h1, h2⟩ | ⟨_, _, _, h1, _⟩
    · cases h1
    · simp at h1; omega
  have ho := owns_cut (hf.owns h.owns (fun k hk e => h.ne (e ▸ hk))) (Nat.sub_le l.length 1)
  refine ⟨h.base, ?_, ?_, ?_, h.most⟩
  · rw [heap_setCell_same w g 0 _ _ _ h.cells]; rfl
  · rw [List.map_take, List.length_take, Nat.min_eq_left (by omega)]; exact ho
  · have := h.fits; simp; omega
theorem St.push_end {w1 : World} {VA A1 : Option Addr} {n vc k q c1 : Nat} {ys : List Int} (h : St w B g v l room over) (hv : v = .slice VA n vc) (hn : n = l.length) (hy : ys.length = k) (hk : n + k ≤ room)
    (ho : w1.ownsRow B 3 1 (.slice A1 (n + k) c1) (n + k) (l.map (Value.int .i64) ++ ys.map (Value.int .i64))) (hg : (w.drewN q).grownBy w1 (Value.slice VA n vc).ownBlock)
    (hat : (Value.slice A1 (n + k) c1).ownBlock = (Value.slice VA n vc).ownBlock ∨ (Value.slice A1 (n + k) c1).ownBlock = some (w.drewN q).heap.size) (o : Bool) :
    ∃ v', St ((w1.setCell ⟨g, 0, none⟩ (.slice A1 (n + k) c1)).setCell ⟨g, 2, none⟩ (.bool o)) B g v' (l ++ ys) room o ∧ (v'.ownBlock = v.ownBlock ∨ ∃ b, v'.ownBlock = some b ∧ w.heap.size ≤ b) ∧
      Frame w ((w1.setCell ⟨g, 0, none⟩ (.slice A1 (n + k) c1)).setCell ⟨g, 2, none⟩ (.bool o)) (fun k => k = g ∨ v.ownBlock = some k) := by
  subst hv
  have hcl := h.kept hg
  have hne := own_ne ho hcl (by decide)
  have hf0 : Frame (w.drewN q) w1 (fun k => k = g ∨ (Value.slice VA n vc).ownBlock = some k) := Frame.of_grown hg (fun k _ hk => Or.inr hk)
  have hf : Frame w w1 (fun k => k = g ∨ (Value.slice VA n vc).ownBlock = some k) := ⟨hf0.os, hf0.tape, hf0.output, hf0.size, hf0.block⟩
  have h1 : (w1.setCell ⟨g, 0, none⟩ (.slice A1 (n + k) c1)).heap[g]? = some (.cells #[.slice A1 (n + k) c1, .int .i64 room, .bool over] 38 (0, 0)) := by
    rw [heap_setCell_same w1 g 0 _ _ _ hcl]; rfl
  have h2 : ((w1.setCell ⟨g, 0, none⟩ (.slice A1 (n + k) c1)).setCell ⟨g, 2, none⟩ (.bool o)).heap[g]? = some (.cells #[.slice A1 (n + k) c1, .int .i64 room, .bool o] 38 (0, 0)) := by
    rw [heap_setCell_same _ g 2 _ _ _ h1]; rfl
  have hw : Frame w1 ((w1.setCell ⟨g, 0, none⟩ (.slice A1 (n + k) c1)).setCell ⟨g, 2, none⟩ (.bool o)) (fun k => k = g) :=
    Frame.setCell (F := fun k => k = g) (Frame.setCell (F := fun k => k = g) (Frame.refl w1 _) (p := ⟨g, 0, none⟩) (fun _ => rfl) _) (p := ⟨g, 2, none⟩) (fun _ => rfl) _
  refine ⟨.slice A1 (n + k) c1, ⟨h.base, h2, ?_, ?_, h.most⟩, ?_, hf.trans hw (fun k _ hk => .inl hk)⟩
  · rw [List.map_append, List.length_append, ← hn, hy]
    exact hw.owns ho (fun k hk e => hne (e ▸ hk))
  · rw [List.length_append]; omega
  · rcases hat with e | e
    · exact .inl e
    · exact .inr ⟨_, e, Nat.le_refl _⟩
end

theorem err_c (n : Int) (w : World) : Calls Try.prog 7 #[.int .i64 n] w fun e w' => e = .returned (.int .i64 n) ∧ w = w' := by
  go_enter Try.func7, Try.ntmps7
  go_wp2
  go_ret
  exact ⟨rfl, rfl⟩

theorem depth_c (w : World) {B g : Nat} {v : Value} {l : List Int} {room : Nat} {over : Bool} (h : St w B g v l room over) :
    Calls Try.prog 11 #[.pointer (some ⟨g, 0, none⟩)] w fun e w' => e = .returned (.int .i64 l.length) ∧ w = w' := by
  have c0 := h.c0
  obtain ⟨A, c, rfl⟩ := h.form
  clear h
  go_enter Try.func11, Try.ntmps11
  go_wp2
  go_ret
  exact ⟨rfl, rfl⟩

theorem over_c (w : World) {B g : Nat} {v : Value} {l : List Int} {room : Nat} {over : Bool} (h : St w B g v l room over) :
    Calls Try.prog 10 #[.pointer (some ⟨g, 0, none⟩)] w fun e w' => e = .returned (.bool over) ∧ w = w' := by
  have c2 := h.c2
  clear h
  go_enter Try.func10, Try.ntmps10
  go_wp2
  go_ret
  exact ⟨rfl, rfl⟩

theorem reset_c (w : World) {B g : Nat} {v : Value} {l : List Int} {room : Nat} {over : Bool} (h : St w B g v l room over) :
    Calls Try.prog 13 #[.pointer (some ⟨g, 0, none⟩)] w fun e w' => e = .returned (.tuple #[]) ∧ St w' B g v l room false ∧ Frame w w' (fun k => k = g) := by
  have c2 := h.c2
  have f2 := h.fr 2
  have H := Lib.hid h
  clear h
  go_enter Try.func13, Try.ntmps13
  go_wp2
  go_end0
  exact ⟨rfl, H.out.reset false, Frame.setCell (F := fun k => k = g) (Frame.refl w _) (p := ⟨g, 2, none⟩) (fun _ => rfl) _⟩

theorem new_bad (n : Int) (w : World) (h : n < 1 ∨ 4096 < n) :
    Calls Try.prog 6 #[.int .i64 n] w fun e w' => e = .returned (.tuple #[.pointer none, .int .i64 1]) ∧ w = w' := by
  rcases h with h | h
  · go_enter Try.func6, Try.ntmps6
    go_wp2
    go_ret2
    exact ⟨rfl, rfl⟩
  · have h' : ¬ n < 1 := by omega
    go_enter Try.func6, Try.ntmps6
    go_wp2
    go_ret2
    exact ⟨rfl, rfl⟩

theorem new_ok (n : Nat) (w : World) (B : Nat) (hB : B ≤ w.heap.size) (h1 : 1 ≤ n) (h2 : n ≤ 4096) :
    Calls Try.prog 6 #[.int .i64 n] w fun e w' => e = .returned (.tuple #[.pointer (some ⟨w.heap.size, 0, none⟩), .int .i64 0]) ∧ St w' B w.heap.size (.slice none 0 0) [] n false ∧ Frame w w' (fun _ => False) := by
  go_enter Try.func6, Try.ntmps6
  go_wp2
  go_ret2
  refine ⟨rfl, ⟨hB, heap_alloc_new _ _, World.ownsRow_nil _ _ _ _, by simp, h2⟩, (Frame.refl w _).alloc _⟩

theorem pop_none (w : World) {B g : Nat} {v : Value} {room : Nat} {over : Bool} (h : St w B g v [] room over) :
    Calls Try.prog 12 #[.pointer (some ⟨g, 0, none⟩)] w fun e w' => e = .returned (.tuple #[.int .i64 0, .bool false]) ∧ w = w' := by
  have H := Lib.hid h
  clear h
  go_enter Try.func12, Try.ntmps12
  go_wp2_with (go_at_call 11; refine (depth_c _ H.out).mono ?_; rintro e w' ⟨rfl, rfl⟩)
  go_ret2
  exact ⟨rfl, rfl⟩

theorem pop_some (w : World) {B g : Nat} {v : Value} {l : List Int} {room : Nat} {over : Bool} (h : St w B g v l room over) (hl : 0 < l.length) :
    Calls Try.prog 12 #[.pointer (some ⟨g, 0, none⟩)] w fun e w' => e = .returned (.tuple #[.int .i64 (l.getD (l.length - 1) 0), .bool true]) ∧ ∃ v', St w' B g v' (l.take (l.length - 1)) room over ∧ v'.ownBlock = v.ownBlock ∧ Frame w w' (fun k => k = g) := by
  have H := Lib.hid h
  have c0 := h.c0
  have f0 := h.fr 0
  have hn : l.length ≤ 4096 := Nat.le_trans h.fits h.most
  obtain ⟨n, hnl⟩ : ∃ n, n = l.length := ⟨_, rfl⟩
  obtain ⟨b, cap, hv, hcap⟩ : ∃ b cap, v = .slice (some ⟨b, 0, none⟩) n cap ∧ n ≤ cap := by
    rcases h.owns.2 with ⟨_, h0⟩ | ⟨b, cap, cur, h1, _, _, h2, _⟩
    · omega
    · exact ⟨b, cap, by rw [h1, hnl], by omega⟩
  have hc : w.cell? ⟨b, n - 1, none⟩ = some (.int .i64 (l.getD (n - 1) 0)) := by
    have ho := h.owns
    rw [hv, ← hnl] at ho
    rw [ho.cellAt (n - 1) (by omega), List.getElem?_map, List.getElem?_eq_getElem (by omega)]
    simp [List.getD_eq_getElem?_getD, List.getElem?_eq_getElem (show n - 1 < l.length by omega)]
  have NL := Lib.hid hnl
  have HV := Lib.hid hv
  rw [hv] at c0
  rw [← hnl] at hn hl
  obtain ⟨x, hx⟩ : ∃ x, x = l.getD (n - 1) 0 := ⟨_, rfl⟩
  rw [← hx] at hc
  have HX := Lib.hid hx
  have HD : Hid (∀ w, St w B g v l room over → Calls Try.prog 11 #[.pointer (some ⟨g, 0, none⟩)] w fun e w' => e = .returned (.int .i64 n) ∧ w = w') := by
    intro w h
    rw [hnl]; exact depth_c w h
  clear h hnl hv hx
  have q0 : 0 ≤ (n : Int) - 1 := by omega
  have q1 : ((n : Int) - 1).toNat = n - 1 := by omega
  have q2 : IntKind.i64.wrap ((n : Int) - 1) = (n : Int) - 1 := IntWalk.i64_in _ (by omega)
  have q3 : ((n : Int) == 0) = false := by simp; omega
  have q4 : (n : Int) - 1 < n := by omega
  have q5 : n - 1 < n := by omega
  have q6 : (n : Int) - 1 ≤ cap := by omega
  have q7 : n - 1 ≤ cap := by omega
  go_enter Try.func12, Try.ntmps12
  go_wp2_with (go_at_call 11; refine (HD.out _ H.out).mono ?_; rintro e w' ⟨rfl, rfl⟩)
  go_quiet (fail)
  go_wp2
  go_region
  go_wp2
  go_ret2
  have hh := H.out
  rw [HV.out, NL.out] at hh
  refine ⟨by rw [HX.out, NL.out]; rfl, .slice (some ⟨b, 0, none⟩) (n - 1) cap, ?_, by rw [HV.out]; rfl, ?_⟩
  · rw [← NL.out] at hh ⊢
    exact (hh.drewN _).pop
  · exact Frame.setCell (F := fun k => k = g) ((Frame.refl w _).drewN _) (p := ⟨g, 0, none⟩) (fun _ => rfl) _

theorem push_c (w : World) {B g : Nat} {v : Value} {l : List Int} {room : Nat} {over : Bool} (h : St w B g v l room over) (hB : B ≤ w.heap.size) (C : Nat) (A : Option Addr) (m c : Nat) (xs : List Int) (hx : Ints w C A m xs) (hm : m ≤ c) (hc : c ≤ maxLen) :
    Calls Try.prog 9 #[.pointer (some ⟨g, 0, none⟩), .slice A m c] w fun e w' => e = .returned (.int .i64 ((min m (room - l.length) : Nat) : Int)) ∧
      ∃ v', St w' B g v' (l ++ xs.take (room - l.length)) room (over || decide (room - l.length < m)) ∧ (v'.ownBlock = v.ownBlock ∨ ∃ b, v'.ownBlock = some b ∧ w.heap.size ≤ b) ∧ Frame w w' (fun k => k = g ∨ v.ownBlock = some k) := by
  unfold maxLen at hc
  have H := Lib.hid h
  have c0 := h.c0
  have c1 := h.c1
  have c2 := h.c2
  have f0 := h.fr 0
  have f2 := h.fr 2
  have hr := h.most
  have hf := h.fits
  obtain ⟨i0, hi0, hz0, hz1, hz2⟩ := info_parts info3
  obtain ⟨VA, vc, hv⟩ := h.form
  obtain ⟨n, hn⟩ : ∃ n, n = l.length := ⟨_, rfl⟩
  have NL := Lib.hid hn
  rw [← hn] at hv
  have HV := Lib.hid hv
  have XS := Lib.hid hx
  have INFO := Lib.hid (And.intro hi0 (And.intro hz0 (And.intro hz1 hz2)))
  rw [hv] at c0
  rw [← hn] at hf
  clear h hx hn hv hi0 hz0 hz1 hz2
  have OWN : Hid (∀ q, (w.drewN q).ownsRow B 3 1 (.slice VA n vc) n (l.map (Value.int .i64))) := fun q => by
    have := H.out.owns
    rw [← NL.out, HV.out] at this
    exact this
  have GC : Hid (∀ q w1, (w.drewN q).grownBy w1 (Value.ownBlock (.slice VA n vc)) → w1.heap[g]? = some (.cells #[.slice VA n vc, .int .i64 room, .bool over] 38 (0, 0))) := fun q w1 hg => by
    have hh := H.out
    rw [HV.out] at hh
    exact hh.kept hg
  by_cases hk : (room : Int) - n < m
  · obtain ⟨k, hkr⟩ : ∃ k, k + n = room := ⟨room - n, by omega⟩
    obtain ⟨zs, hzs⟩ : ∃ zs, zs = xs.take k := ⟨_, rfl⟩
    have hz := XS.out.take (k := k) (by omega)
    rw [← hzs] at hz
    have hzl := hz.1
    have ZS := Lib.hid hz
    have q2 : IntKind.i64.wrap ((room : Int) - n) = (room : Int) - n := IntWalk.i64_in _ (by omega)
    have q3 : (room : Int) - n = k := by omega
    have q4 : (k : Int) < m := by omega
    have q5 : k ≤ c := by omega
    have q6 : n + k ≤ 4096 := by omega
    have KR := Lib.hid hkr
    rw [q3] at q2
    have HZ := Lib.hid hzs
    have HZL := Lib.hid hzl
    clear hkr hzs hz hzl hk
    go_enter Try.func9, Try.ntmps9
    go_wp2_with fail
    go_quiet (fail)
    go_wp2_with fail
    clear q2 q3
    go_region_law (refine step_push _ rfl (.tmp 25) (.tmp 28) 22 rfl B 3 i0 Try.underlying22 INFO.out.1 INFO.out.2.1 INFO.out.2.2.1 INFO.out.2.2.2 (.slice VA n vc) n (l.map (Value.int .i64)) (by simp [Act.eval]) (OWN.out _) C A k c zs (by simp [Act.eval]) ZS.out (by omega) hB ?_; intro v1 w1 ho hg hat; obtain ⟨A1, c1', rfl⟩ := own_form ho; have hcl := GC.out _ _ hg; have d0 := cell_of_row w1 g 0 _ _ _ hcl; have d2 := cell_of_row w1 g 2 _ _ _ hcl; have e0 := frozen_of_row w1 g 0 _ _ hcl; have e2 := frozen_of_row w1 g 2 _ _ hcl; have HO := Lib.hid ho; have HG := Lib.hid hg; have HA := Lib.hid hat; clear ho hg hcl hat)
    all_goals
      go_wp2
    all_goals
      go_ret
      have hkr := KR.out
      have hn := NL.out
      refine ⟨?_, ?_⟩
      · rw [← hn, show min m (room - n) = k by omega]; rfl
      · rw [← hn, show room - n = k by omega, ← HZ.out, show (over || decide (k < m)) = true by simp; omega]
        exact H.out.push_end HV.out hn HZL.out (by omega) HO.out HG.out HA.out true
  · have q2 : IntKind.i64.wrap ((room : Int) - n) = (room : Int) - n := IntWalk.i64_in _ (by omega)
    cases over
    all_goals
      go_enter Try.func9, Try.ntmps9
      go_wp2_with fail
      go_quiet (fail)
      go_wp2_with fail
      clear q2
      go_region_law (refine step_push _ rfl (.tmp 25) (.tmp 28) 22 rfl B 3 i0 Try.underlying22 INFO.out.1 INFO.out.2.1 INFO.out.2.2.1 INFO.out.2.2.2 (.slice VA n vc) n (l.map (Value.int .i64)) (by simp [Act.eval]) (OWN.out _) C A m c xs (by simp [Act.eval]) XS.out (by omega) hB ?_; intro v1 w1 ho hg hat; obtain ⟨A1, c1', rfl⟩ := own_form ho; have hcl := GC.out _ _ hg; have d0 := cell_of_row w1 g 0 _ _ _ hcl; have d2 := cell_of_row w1 g 2 _ _ _ hcl; have e0 := frozen_of_row w1 g 0 _ _ hcl; have e2 := frozen_of_row w1 g 2 _ _ hcl; have HO := Lib.hid ho; have HG := Lib.hid hg; have HA := Lib.hid hat; clear ho hg hcl hat)
      all_goals
        go_wp2
      all_goals
        go_ret
        have hn := NL.out
        have hxl := XS.out.1
        refine ⟨?_, ?_⟩
        · rw [← hn, show min m (room - n) = m by omega]; rfl
        · rw [← hn, List.take_of_length_le (by omega), show decide (room - n < m) = false by simp; omega, Bool.or_false]
          exact H.out.push_end HV.out hn hxl (by omega) HO.out HG.out HA.out _

theorem over_nil (w : World) : Calls Try.prog 10 #[.pointer none] w fun e w' => e = .returned (.bool false) ∧ w = w' := by
  go_enter Try.func10, Try.ntmps10
  go_wp2
  go_ret
  exact ⟨rfl, rfl⟩

theorem depth_nil (w : World) : Calls Try.prog 11 #[.pointer none] w fun e w' => e = .returned (.int .i64 0) ∧ w = w' := by
  go_enter Try.func11, Try.ntmps11
  go_wp2
  go_ret
  exact ⟨rfl, rfl⟩

theorem pop_nil (w : World) : Calls Try.prog 12 #[.pointer none] w fun e w' => e = .returned (.tuple #[.int .i64 0, .bool false]) ∧ w = w' := by
  go_enter Try.func12, Try.ntmps12
  go_wp2
  go_ret2
  exact ⟨rfl, rfl⟩

theorem reset_nil (w : World) : Calls Try.prog 13 #[.pointer none] w fun e w' => e = .returned (.tuple #[]) ∧ w = w' := by
  go_enter Try.func13, Try.ntmps13
  go_wp2
  go_end0
  exact ⟨rfl, rfl⟩

theorem push_nil (w : World) (A : Option Addr) (m c : Nat) : Calls Try.prog 9 #[.pointer none, .slice A m c] w fun e w' => e = .returned (.int .i64 0) ∧ w = w' := by
  go_enter Try.func9, Try.ntmps9
  go_wp2
  go_ret
  exact ⟨rfl, rfl⟩

/-- A stack whose blocks are all new since w. -/
structure Sy (w wr : World) (g : Nat) (v : Value) (l : List Int) (room : Nat) (over : Bool) : Prop where
  st : St wr w.heap.size g v l room over
  old : Below w.heap.size w wr
section
variable {w wr w' : World} {g : Nat} {v : Value} {l : List Int} {room : Nat} {over : Bool}
theorem Sy.size (h : Sy w wr g v l room over) : w.heap.size ≤ wr.heap.size := h.old.size
theorem Sy.foot (h : Sy w wr g v l room over) : ∀ k, k < wr.heap.size → (k = g ∨ v.ownBlock = some k) → w.heap.size ≤ k := by
  intro k _ hk
  rcases hk with rfl | hk
  · exact h.st.base
  · exact (h.st.owns.lt k hk).1
theorem Sy.below {F : Nat → Prop} (h : Sy w wr g v l room over) (hf : Frame wr w' F) (hF : ∀ k, F k → k = g ∨ v.ownBlock = some k) : Below w.heap.size w w' :=
  h.old.trans (hf.below h.size (fun k hk hk2 => h.foot k hk (hF k hk2)))
theorem Sy.alloc (h : Sy w wr g v l room over) (o : Obj) : Sy w (wr.alloc o) g v l room over :=
  ⟨h.st.frame (F := fun _ => False) ((Frame.refl wr _).alloc _) (fun h => h) (fun _ _ h => h), h.old.alloc h.size _⟩
theorem Sy.far (h : Sy w wr g v l room over) (hb : Below wr.heap.size wr w') : Sy w w' g v l room over :=
  ⟨h.st.frame (F := fun _ => False) (Frame.of_below hb) (fun h => h) (fun _ _ h => h), h.old.trans (hb.mono h.size)⟩
end

theorem new_s (a : Int) (w wr : World) (hb : Below w.heap.size w wr) (h1 : 1 ≤ a) (h2 : a ≤ 4096) :
    Calls Try.prog 6 #[.int .i64 a] wr fun e w' => e = .returned (.tuple #[.pointer (some ⟨wr.heap.size, 0, none⟩), .int .i64 0]) ∧ Sy w w' wr.heap.size (.slice none 0 0) [] a.toNat false := by
  obtain ⟨n, rfl⟩ := Int.eq_ofNat_of_zero_le (show 0 ≤ a by omega)
  refine (new_ok n wr w.heap.size hb.size (by omega) (by omega)).mono ?_
  rintro e w' ⟨he, hs, hf⟩
  exact ⟨he, hs, hb.trans (hf.below hb.size (fun _ _ h => h.elim))⟩
theorem new_n (n : Nat) (w wr : World) (hb : Below w.heap.size w wr) (h1 : 1 ≤ n) (h2 : n ≤ 4096) :
    Calls Try.prog 6 #[.int .i64 n] wr fun e w' => e = .returned (.tuple #[.pointer (some ⟨wr.heap.size, 0, none⟩), .int .i64 0]) ∧ Sy w w' wr.heap.size (.slice none 0 0) [] n false :=
  new_s n w wr hb (by omega) (by omega)
theorem pop_s (w wr : World) {g : Nat} {v : Value} {l : List Int} {room : Nat} {over : Bool} (h : Sy w wr g v l room over) (hl : 0 < l.length) :
    Calls Try.prog 12 #[.pointer (some ⟨g, 0, none⟩)] wr fun e w' => e = .returned (.tuple #[.int .i64 (l.getD (l.length - 1) 0), .bool true]) ∧ ∃ v', Sy w w' g v' (l.take (l.length - 1)) room over ∧ v'.ownBlock = v.ownBlock ∧ Frame wr w' (fun k => k = g) := by
  refine (pop_some wr h.st hl).mono ?_
  rintro e w' ⟨he, v', hs, ho, hf⟩
  exact ⟨he, v', ⟨hs, h.below hf (fun k hk => .inl hk)⟩, ho, hf⟩
theorem push_s (w wr : World) {g : Nat} {v : Value} {l : List Int} {room : Nat} {over : Bool} (h : Sy w wr g v l room over) (C : Nat) (A : Option Addr) (m c : Nat) (xs : List Int) (hx : Ints wr C A m xs) (hm : m ≤ c) (hc : c ≤ maxLen) :
    Calls Try.prog 9 #[.pointer (some ⟨g, 0, none⟩), .slice A m c] wr fun e w' => e = .returned (.int .i64 ((min m (room - l.length) : Nat) : Int)) ∧
      ∃ v', Sy w w' g v' (l ++ xs.take (room - l.length)) room (over || decide (room - l.length < m)) ∧ (v'.ownBlock = v.ownBlock ∨ ∃ b, v'.ownBlock = some b ∧ wr.heap.size ≤ b) ∧ Frame wr w' (fun k => k = g ∨ v.ownBlock = some k) := by
  refine (push_c wr h.st h.size C A m c xs hx hm hc).mono ?_
  rintro e w' ⟨he, v', hs, ho, hf⟩
  exact ⟨he, v', ⟨hs, h.below hf (fun k hk => hk)⟩, ho, hf⟩
theorem reset_s (w wr : World) {g : Nat} {v : Value} {l : List Int} {room : Nat} {over : Bool} (h : Sy w wr g v l room over) :
    Calls Try.prog 13 #[.pointer (some ⟨g, 0, none⟩)] wr fun e w' => e = .returned (.tuple #[]) ∧ Sy w w' g v l room false ∧ Frame wr w' (fun k => k = g) := by
  refine (reset_c wr h.st).mono ?_
  rintro e w' ⟨he, hs, hf⟩
  exact ⟨he, ⟨hs, h.below hf (fun k hk => .inl hk)⟩, hf⟩

theorem two_cells (w : World) (x y : Int) (b : Nat) (hb : b = w.heap.size) : Ints (w.alloc (.cells #[.int .i64 x, .int .i64 y] 3)) (b + 1) (some ⟨b, 0, none⟩) 2 [x, y] := by
  subst hb
  refine ⟨rfl, fun _ => ⟨_, rfl, by simp, fun j hj => ?_⟩⟩
  rcases (show j = 0 ∨ j = 1 by omega) with rfl | rfl
  · exact cell_two_new _ _ _ _ 0 _ rfl
  · exact cell_two_new _ _ _ _ 1 _ rfl
theorem one_cell (w : World) (x : Int) (b : Nat) (hb : b = w.heap.size) : Ints (w.alloc (.cells #[.int .i64 x] 3)) (b + 1) (some ⟨b, 0, none⟩) 1 [x] := by
  subst hb
  refine ⟨rfl, fun _ => ⟨_, rfl, by simp, fun j hj => ?_⟩⟩
  obtain rfl : j = 0 := by omega
  exact cell_one_new _ _ _ 0 _ rfl

theorem awake_c (w : World) : Calls Try.prog 8 #[] w fun e w' => e = .returned (.bool true) ∧ Below w.heap.size w w' := by
  have N := Lib.hid (new_ok 1 w w.heap.size (Nat.le_refl _) (by omega) (by omega))
  go_enter Try.func8, Try.ntmps8
  go_wp2_with fail
  refine N.out.mono ?_
  rintro e w1 ⟨rfl, h1, hf1⟩
  have b1 := hf1.below (Nat.le_refl _) (fun _ _ h => h.elim)
  have hs1 := hf1.size
  have H1 := Lib.hid h1
  have F1 := Lib.hid hf1
  have B1 := Lib.hid b1
  clear h1 hf1 b1
  go_wp2_with (go_at_call 7; refine (err_c _ _).mono ?_; rintro e w' ⟨rfl, rfl⟩)
  have h2 : St (w1.alloc (.cells #[.int .i64 7, .int .i64 8] 3)) w.heap.size w.heap.size (.slice none 0 0) [] 1 false := H1.out.frame (F := fun _ => False) ((Frame.refl w1 _).alloc _) (fun h => h) (fun _ _ h => h)
  refine (push_c _ h2 (by simp; omega) _ _ _ _ _ (two_cells _ _ _ _ (by simp)) (by omega) (by unfold maxLen; omega)).mono ?_
  rintro e w2 ⟨rfl, v2, h3, _, hf3⟩
  have H3 := Lib.hid h3
  have b2 : Below w.heap.size w w2 := (B1.out.alloc hs1 _).trans (hf3.below (by simp; omega) (fun k _ hk => hk.elim (fun e => Nat.le_of_eq e.symm) (fun e => by simp [Value.ownBlock] at e)))
  have B2 := Lib.hid b2
  clear h3 hf3 h2 b2
  go_wp2_with (first | (go_at_call 10; refine (over_c _ H3.out).mono ?_; rintro e w' ⟨rfl, rfl⟩) | (go_at_call 11; refine (depth_c _ H3.out).mono ?_; rintro e w' ⟨rfl, rfl⟩))
  go_ret
  exact ⟨rfl, B2.out⟩
end Go.Proofs.Ytlnpngjdpalkdaa.Fns
