/- The reference's New, All, Room and SameHeld. -/
import Derived.Test.YtembjpfgoogbgaaRef2
namespace Go.Proofs.Ytembjpfgoogbgaa.Fns
open Go Go.RowKit

/-- What a new slice of the reference holds. -/
def Y : Array Value := madeCells #[.int .i64 0] 512
theorem run_make46 (w : World) : (Instr.makeSlice 46 (.int .i64 512) (.int .i64 512)).run Try.prog w = .ok (.slice (some ⟨w.heap.size, 0, none⟩) 512 512) (w.alloc (.cells Y 3)) := by
  obtain ⟨i0, hi0, hz0, hz1, hz2⟩ := info_parts info3
  have h := run_make (P := Try.prog) w 46 3 i0 (.int .i64 0) Try.underlying46 hi0 hz0 .i64 .i64 512 512 (by decide) (by decide) (by rw [hz2]; decide) (by decide)
  rw [hz1] at h
  exact h
theorem Y_list : Y.toList = ints512 (fun _ => 0) := by
  apply List.ext_getElem?
  intro i
  by_cases hi : i < 512
  · rw [ints512_at _ hi]; simp [Y, madeCells, hi, Nat.mod_one]
  · simp [Y, madeCells, ints512, hi]
theorem Y_size : Y.size = 512 := by simp [Y, madeCells]
attribute [irreducible] Y
attribute [local go_sem] run_make46
theorem own_Y {w : World} {B b : Nat} (hB : B ≤ b) (hb : w.heap[b]? = some (.cells Y 3 (0, 0))) : w.ownsRow B 3 1 (.slice (some ⟨b, 0, none⟩) 512 512) 512 (ints512 fun _ => 0) :=
  ⟨by simp [ints512], .inr ⟨b, 512, Y, rfl, hB, hb, Nat.le_refl _, by simp [maxLen], by rw [Y_size], by rw [Y_list]; exact List.take_of_length_le (by simp [ints512])⟩⟩
theorem newR_end (w : World) (ba bt : Nat) (h : (ba = w.heap.size ∧ bt = w.heap.size + 1) ∨ (ba = w.heap.size + 1 ∧ bt = w.heap.size)) :
    Rf (((w.alloc (.cells Y 3)).alloc (.cells Y 3)).alloc (.cells #[.slice (some ⟨ba, 0, none⟩) 512 512, .slice (some ⟨bt, 0, none⟩) 512 512] 62)).drew w.heap.size (w.heap.size + 1 + 1) ba bt (fun _ => 0) (fun _ => 0) ∧
      Below w.heap.size w (((w.alloc (.cells Y 3)).alloc (.cells Y 3)).alloc (.cells #[.slice (some ⟨ba, 0, none⟩) 512 512, .slice (some ⟨bt, 0, none⟩) 512 512] 62)).drew := by
  have z1 : (w.alloc (.cells Y 3)).heap.size = w.heap.size + 1 := by simp
  have z2 : ((w.alloc (.cells Y 3)).alloc (.cells Y 3)).heap.size = w.heap.size + 1 + 1 := by simp
  have h0 : (((w.alloc (.cells Y 3)).alloc (.cells Y 3)).alloc (.cells #[.slice (some ⟨ba, 0, none⟩) 512 512, .slice (some ⟨bt, 0, none⟩) 512 512] 62)).drew.heap[w.heap.size]? = some (.cells Y 3 (0, 0)) := by
    show (((w.alloc (.cells Y 3)).alloc (.cells Y 3)).alloc _).heap[w.heap.size]? = _
    rw [Below.heap_alloc _ _ _ (by omega), Below.heap_alloc _ _ _ (by omega), heap_alloc_new]
  have h1 : (((w.alloc (.cells Y 3)).alloc (.cells Y 3)).alloc (.cells #[.slice (some ⟨ba, 0, none⟩) 512 512, .slice (some ⟨bt, 0, none⟩) 512 512] 62)).drew.heap[w.heap.size + 1]? = some (.cells Y 3 (0, 0)) := by
    show (((w.alloc (.cells Y 3)).alloc (.cells Y 3)).alloc _).heap[w.heap.size + 1]? = _
    rw [Below.heap_alloc _ _ _ (by omega), ← z1, heap_alloc_new]
  have h2 : (((w.alloc (.cells Y 3)).alloc (.cells Y 3)).alloc (.cells #[.slice (some ⟨ba, 0, none⟩) 512 512, .slice (some ⟨bt, 0, none⟩) 512 512] 62)).drew.heap[w.heap.size + 1 + 1]? = some (.cells #[.slice (some ⟨ba, 0, none⟩) 512 512, .slice (some ⟨bt, 0, none⟩) 512 512] 62 (0, 0)) := by
    show (((w.alloc (.cells Y 3)).alloc (.cells Y 3)).alloc _).heap[w.heap.size + 1 + 1]? = _
    rw [← z2, heap_alloc_new]
  refine ⟨⟨by omega, h2, own_Y (by omega) ?_, own_Y (by omega) ?_, by omega, fun _ _ => ⟨by omega, by omega⟩⟩, ((((Below.refl _ _).alloc (Nat.le_refl _) _).alloc (by omega) _).alloc (by omega) _).drew⟩
  · rcases h with ⟨rfl, _⟩ | ⟨rfl, _⟩ <;> assumption
  · rcases h with ⟨_, rfl⟩ | ⟨_, rfl⟩ <;> assumption
set_option maxHeartbeats 4000000 in
theorem newR_c (w : World) : Calls Try.prog 10 #[] w fun y w' => ∃ r ba bt, y = .returned (.pointer (some ⟨r, 0, none⟩)) ∧ Rf w' w.heap.size r ba bt (fun _ => 0) (fun _ => 0) ∧ Below w.heap.size w w' := by
  go_enter Try.func10, Try.ntmps10
  go_wp2
  go_region
  all_goals
    go_wp2
    go_ret
    exact ⟨_, _, _, rfl, newR_end w _ _ (by omega)⟩

set_option maxHeartbeats 4000000 in
theorem allR_c (w : World) {B r ba bt : Nat} {T A : Nat → Int} (h : Rf w B r ba bt T A) :
    Calls Try.prog 11 #[.pointer (some ⟨r, 0, none⟩)] w fun e w' => ∃ v, e = .returned v ∧ w'.ownsRow w.heap.size 33 2 v (allL T A 512).length (heldCells (allL T A 512)) ∧ Below w.heap.size w w' := by
  have H := Lib.hid h
  obtain ⟨i0, hi0, hz0, hz1, hz2⟩ := info_parts info33
  have INFO := Lib.hid (And.intro hi0 (And.intro hz0 (And.intro hz1 hz2)))
  clear h hi0 hz0 hz1 hz2
  go_enter Try.func11, Try.ntmps11
  go_wp2
  go_loopw [3, 4] (fun v i wr => ∃ (j : Nat), j ≤ 512 ∧ i = .int .i64 (j : Int) ∧ wr.ownsRow w.heap.size 33 2 v (allL T A j).length (heldCells (allL T A j)) ∧ Below w.heap.size w wr) (fun _ i _ => 512 - (intOf i).toNat)
  case atStart => exact ⟨0, by omega, rfl, World.ownsRow_nil _ _ _ _, Below.refl _ _⟩
  case round =>
    obtain ⟨j, hj, rfl, ho, hb⟩ := hrel
    have HO := Lib.hid ho
    have HB := Lib.hid hb
    obtain ⟨VA, vc, rfl⟩ := form33 ho
    clear ho hb
    have H1 := Lib.hid (H.out.below HB.out)
    have k0 := H1.out.c0
    have k1 := H1.out.c1
    by_cases hlt : j < 512
    · have dj : decide ((j : Int) < 512) = true := by simp; omega
      have dj2 : decide (j < 512) = true := by simp; omega
      have ka := H1.out.a j hlt
      have g1 : (0 : Int) ≤ (j : Int) := by omega
      have g2 : (j : Int) < 512 := by omega
      by_cases h0 : A j = 0
      · have e0 : (A j != 0) = false := by simpa using h0
        have HA := Lib.hid h0
        clear h0
        go_wp2
        go_roundw
        case rel => exact ⟨j + 1, by omega, by go_num, by rw [allL_succ, if_pos HA.out, List.append_nil]; exact HO.out, HB.out⟩
        case measure => simp [intOf]; omega
      · have e0 : (A j != 0) = true := by simpa using h0
        have HA := Lib.hid h0
        have HLE := Lib.hid (allL_len T A j)
        clear h0
        have kt := H1.out.t j hlt
        have hT := H1.out.turns j hlt
        obtain ⟨L, hL⟩ : ∃ L, L = (allL T A j).length := ⟨_, rfl⟩
        have HL := Lib.hid hL
        have HO2 := Lib.hid (show wr.ownsRow w.heap.size 33 2 (.slice VA L vc) L (heldCells (allL T A j)) by rw [hL]; exact HO.out)
        rw [← hL] at HLE ⊢
        obtain ⟨t, ht⟩ : ∃ t, t = T j := ⟨_, rfl⟩
        have HQ := Lib.hid (show (j : Int) + 512 * (t + 1) = tell T j by rw [ht]; rfl)
        rw [← ht] at kt hT
        obtain ⟨aj, haj⟩ : ∃ aj, aj = A j := ⟨_, rfl⟩
        have HAJ := Lib.hid haj
        rw [← haj] at ka e0
        have s1 : IntKind.i64.wrap (t + 1) = t + 1 := IntWalk.i64_in _ (by omega)
        have s2 : IntKind.i64.wrap (512 * (t + 1)) = 512 * (t + 1) := IntWalk.i64_in _ (by omega)
        have s3 : IntKind.i64.wrap ((j : Int) + 512 * (t + 1)) = (j : Int) + 512 * (t + 1) := IntWalk.i64_in _ (by omega)
        clear HO hL ht haj
        go_wp2
        go_region_law (refine step_app rfl (.tmp 22) (.tmp 42) 30 rfl w.heap.size 33 i0 _ 2 16 Try.underlying30 INFO.out.1 INFO.out.2.1 INFO.out.2.2.1 INFO.out.2.2.2 rfl (by decide) (.slice VA L vc) L (heldCells (allL T A j)) (by simp [Act.eval]) (by exact HO2.out.alloc _) ⟨wr.heap.size, 0, none⟩ 1 1 [.int .i64 ((j : Int) + 512 * (t + 1)), .int .i64 aj] (by simp [Act.eval]) rfl (by exact two_cells _ _ _ _) (by simp [Value.oneCell']) (by have := HLE.out; clear s1 s2 s3; unfold maxLen; omega) (by have := HLE.out; clear s1 s2 s3; omega) (by exact Nat.le_trans HB.out.size (by simp)) ?_
                       intro v3 w3 ho3 hg3 _
                       obtain ⟨A3, c3, rfl⟩ := form33 ho3
                       have HO3 := Lib.hid ho3
                       have HG3 := Lib.hid hg3
                       clear ho3 hg3)
        all_goals
          clear s1 s2 s3
          go_wp2
          refine ⟨⟨j + 1, by omega, by go_num, all_step HA.out HAJ.out HQ.out HL.out HO3.out, HB.out.trans ((((Below.refl _ _).alloc HB.out.size _).drew.grown HG3.out (Nat.le_trans HB.out.size (by simp)) (fun k hk => own_base HO2.out hk)))⟩, by simp [intOf]; omega⟩
    · obtain rfl : j = 512 := by omega
      have dj : decide ((512 : Int) < 512) = false := rfl
      go_wp2
      go_ret
      exact ⟨_, rfl, HO.out, HB.out⟩
end Go.Proofs.Ytembjpfgoogbgaa.Fns
