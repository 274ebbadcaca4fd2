/- HandleFull: the walk. -/
import Derived.Test.YtembjpfgoogbgaaSole
namespace Go.Proofs.Ytembjpfgoogbgaa.Fns
open Go Go.RowKit

/-- What the first j slots hold. -/
def Af (j : Nat) : Nat → Int := fun i => if i < j then 64 + (i : Int) else 0
theorem Af_lt {i j : Nat} (h : i < j) : Af j i = 64 + (i : Int) := by simp [Af, h]
theorem Af_ne {i j : Nat} (h : i < j) : Af j i ≠ 0 := by rw [Af_lt h]; omega
theorem Af_put (j : Nat) : put (Af j) j (64 + (j : Int)) = Af (j + 1) := by
  funext i
  by_cases h : i = j
  · subst h; rw [put_same, Af_lt (by omega)]
  · rw [put_other _ _ _ _ h]
    unfold Af
    by_cases h2 : i < j
    · rw [if_pos h2, if_pos (by omega)]
    · rw [if_neg h2, if_neg (by omega)]
theorem full_fnd (k : Nat) (hk : k < 512) (x : Int) (hx : x = 512 + (k : Int)) : fnd (fun _ => 0) (Af 512) x = true := by
  have : x = tell (fun _ => 0) k := by rw [hx]; simp [tell]; omega
  rw [this]
  exact fnd_at _ _ k hk (Af_ne hk) (by simp)

set_option maxRecDepth 100000 in
set_option maxHeartbeats 8000000 in
theorem full_law (n : Int) (w : World) (hn : (Lit.int .u16 n).wf = true) :
    Calls Try.prog 5 #[.int .u16 n] w fun e w' => e = .returned (.bool true) ∧ Below w.heap.size w w' := by
  obtain ⟨n0, n1⟩ := bounds_u16 hn
  clear hn
  obtain ⟨k, hk⟩ : ∃ k : Nat, n % 512 = (k : Int) := ⟨(n % 512).toNat, by omega⟩
  have hk5 : k < 512 := by omega
  have HK := Lib.hid hk
  go_enter Try.func5, Try.ntmps5
  go_wp2_with (first
    | (go_at_call 8; refine (new_h _).mono ?_; rintro e w1 ⟨rfl, hh, hb⟩; have HS := Lib.hid (Sole.start hh hb); clear hh hb))
  go_loopw [4, 5, 6] (fun i xv ev wr => ∃ (j : Nat), j ≤ 512 ∧ i = .int .i64 (j : Int) ∧ Sole w wr w.heap.size (fun _ => 0) (Af j)) (fun i _ _ _ => 512 - (intOf i).toNat)
  case atStart => exact ⟨0, by omega, rfl, by have : Af 0 = fun _ => 0 := by funext i; simp [Af]
                                              rw [this]; exact HS.out⟩
  case round =>
    obtain ⟨j, hj, rfl, hs⟩ := hrel
    have HS2 := Lib.hid hs
    clear hs
    by_cases hlt : j < 512
    · have dj : decide ((j : Int) < 512) = true := by simp; omega
      have dj2 : decide (j < 512) = true := by simp; omega
      go_wp2_with (first
        | (go_at_call 12; refine (hold_ok _ HS2.out.h (64 + (j : Int)) (by omega) j hlt (fun i hi => Af_ne hi) (by simp [Af]) (512 + (j : Int)) (by simp [tell]; omega)).mono ?_; rintro e w3 ⟨rfl, hh, hf⟩; rw [Af_put] at hh; have HS3 := Lib.hid (HS2.out.step hh hf); clear hh hf)
        | (go_at_call 14; refine (err_c _ _).mono ?_; rintro e w' ⟨rfl, rfl⟩))
      go_roundw
      case rel => exact ⟨j + 1, by omega, by go_num, HS3.out⟩
      case measure => simp [intOf]; omega
    · obtain rfl : j = 512 := by omega
      have dj : decide ((512 : Int) < 512) = false := rfl
      go_wp2_with (first
        | (go_at_call 12; have _ := HN; refine (hold_nil _ _).mono ?_; rintro e w' ⟨rfl, rfl⟩)
        | (go_at_call 17; refine (held_nil _ _).mono ?_; rintro e w' ⟨rfl, rfl⟩)
        | (go_at_call 15; have _ := HN; refine (drop_nil _ _).mono ?_; rintro e w' ⟨rfl, rfl⟩)
        | (go_at_call 19; refine (room_nil _).mono ?_; rintro e w' ⟨rfl, rfl⟩)
        | (go_at_call 22; refine (all_nil _).mono ?_; rintro e w' ⟨rfl, rfl⟩)
        | (go_at_call 9; refine (awake_c _).mono ?_; rintro e w6 ⟨rfl, hb⟩; have HS6 := Lib.hid (HS5.out.below hb); clear hb)
        | (go_at_call 12; have _ := HS5; refine (hold_bad _ _ 0 (by omega)).mono ?_; rintro e w' ⟨rfl, rfl⟩; have HN := Lib.hid True.intro)
        | (go_at_call 12; have _ := HS4; refine (hold_ok _ HS4.out.h 9 (by omega) k hk5 (fun i hi => by rw [put_other _ _ _ _ (by omega)]; exact Af_ne (by omega)) (put_same _ _ _) (1024 + (k : Int)) (by simp [tell, put]; omega)).mono ?_; rintro e w5 ⟨rfl, hh, hf⟩; have HS5 := Lib.hid (HS4.out.step hh hf); clear hh hf)
        | (go_at_call 12; refine (hold_full _ HS2.out.h 7 (by omega) (fun i hi => Af_ne hi)).mono ?_; rintro e w' ⟨rfl, rfl⟩)
        | (go_at_call 15; refine (drop_yes _ HS2.out.h (512 + (k : Int)) (by omega) (full_fnd k hk5 _ rfl) k (by omega) (by simp)).mono ?_; rintro e w4 ⟨rfl, hh, hf⟩; have HS4 := Lib.hid (HS2.out.step hh hf); clear hh hf)
        | (go_at_call 14; refine (err_c _ _).mono ?_; rintro e w' ⟨rfl, rfl⟩))
      go_ret
      exact ⟨rfl, HS6.out.old⟩
end Go.Proofs.Ytembjpfgoogbgaa.Fns
