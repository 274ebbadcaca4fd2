/- OpAll: the walk, over the contracts in plain words. -/
import Derived.Test.YtkandpfaonlncaaWords
import Derived.Test.YtkandpfaonlncaaAwake
import Derived.Deep.RegionHeld3
import Derived.Deep.RegionWith
namespace Go.Proofs.Ytkandpfaonlncaa.Fns
open Go Go.RowKit Go.Proofs.Ytkandpfaonlncaa.Spec Go.Proofs.Ytkandpfaonlncaa.POpAll

theorem awake_w (w : World) : Calls Try.prog 7 #[] w fun e w' => e = .returned (.bool true) ∧ Below w.heap.size w w' := gloaminglaw22_awake.calls 40 true w (awake_eq 40 (Nat.le_refl _))
theorem ops_nil (w : World) (A : Option Addr) : OpsAt w A 0 [] := ⟨rfl, by omega, fun h => absurd h (by omega)⟩
attribute [local irreducible] OpsAt put getL

theorem own_cap4 {w : World} {base e n n' c : Nat} {A : Option Addr} {xs : List Value} (h : w.ownsRow base e 4 (.slice A n' c) n xs) : n' ≤ c := by
  rcases h.2 with ⟨h1, _⟩ | ⟨b, cap, _, h1, _, _, h2, _⟩
  · injection h1 with _ h1 h2; omega
  · injection h1 with _ h1 h3; omega
/-- What the last region reads, behind any of its steps. -/
theorem held_on {w0 w1 w2 : World} {v u : Value} (h : w1.cell? ⟨w0.heap.size, 0, none⟩ = some v ∧ w1.cell? ⟨w0.heap.size, 1, none⟩ = some u ∧ w0.heap.size < w1.heap.size ∧ Below w0.heap.size w0 w1) (hb : Below w1.heap.size w1 w2) :
    w2.cell? ⟨w0.heap.size, 0, none⟩ = some v ∧ w2.cell? ⟨w0.heap.size, 1, none⟩ = some u ∧ w0.heap.size < w2.heap.size ∧ Below w0.heap.size w0 w2 := by
  obtain ⟨h0, h1, h2, h3⟩ := h
  have hs := hb.size
  exact ⟨(hb.cell (p := ⟨_, 0, none⟩) h2).trans h0, (hb.cell (p := ⟨_, 1, none⟩) h2).trans h1, by omega, h3.trans (hb.mono (by omega))⟩

theorem held_start (w0 : World) (v u : Value) (t : TypeId) : (w0.alloc (.cells #[v, u] t)).drew.cell? ⟨w0.heap.size, 0, none⟩ = some v ∧ (w0.alloc (.cells #[v, u] t)).drew.cell? ⟨w0.heap.size, 1, none⟩ = some u ∧
    w0.heap.size < (w0.alloc (.cells #[v, u] t)).drew.heap.size ∧ Below w0.heap.size w0 (w0.alloc (.cells #[v, u] t)).drew :=
  ⟨cell_of_row (w0.alloc (.cells #[v, u] t)) _ 0 _ _ _ (heap_alloc_new w0 _), cell_of_row (w0.alloc (.cells #[v, u] t)) _ 1 _ _ _ (heap_alloc_new w0 _), lt_of_block (w := (w0.alloc (.cells #[v, u] t)).drew) (heap_alloc_new w0 _), ((Below.refl _ _).alloc (Nat.le_refl _) _).drew⟩

theorem ops_now {w0 w2 w' : World} {v u : Value} {A : Option Addr} {n : Nat} {l : List S37} (ho : OpsAt w0 A n l) (hb : Below w0.heap.size w0 w2)
    (h : w'.cell? ⟨w2.heap.size, 0, none⟩ = some v ∧ w'.cell? ⟨w2.heap.size, 1, none⟩ = some u ∧ w2.heap.size < w'.heap.size ∧ Below w2.heap.size w2 w') : OpsAt w' A n l := ho.below (hb.trans (h.2.2.2.mono hb.size))

theorem ops_fin {w0 w2 w' : World} {v u : Value} (hb : Below w0.heap.size w0 w2)
    (h : w'.cell? ⟨w2.heap.size, 0, none⟩ = some v ∧ w'.cell? ⟨w2.heap.size, 1, none⟩ = some u ∧ w2.heap.size < w'.heap.size ∧ Below w2.heap.size w2 w') : Below w0.heap.size w0 w' := hb.trans (h.2.2.2.mono hb.size)

set_option maxHeartbeats 4000000 in
theorem all_law (A0 : Option Addr) (n0 c0 : Nat) (l0 : List S37) (s : ByteArray) (w : World) (h0 : OpsAt w A0 n0 l0 ∧ n0 ≤ c0 ∧ c0 ≤ maxLen ∧ ∀ o ∈ l0, Okay o) (_hs : s.data.toList.length ≤ reachBytes) :
    Calls Try.prog 3 #[.slice A0 n0 c0, .string s] w fun e w' => e = .returned (.bool true) ∧ Below w.heap.size w w' := by
  obtain ⟨h00, h01, _, _⟩ := h0
  clear _hs
  have H0 := Lib.hid h00
  clear h00
  by_cases hn : n0 ≤ 60
  · have d1 : decide ((60 : Int) < (n0 : Int)) = false := by simp; omega
    have d2 : decide (60 < n0) = false := by simp; omega
    by_cases hz : s.size ≤ 3000
    · have d3 : decide ((3000 : Int) < (s.size : Int)) = false := by simp; omega
      have d4 : decide (3000 < s.size) = false := by simp; omega
      by_cases h32 : (s.size : Int) % 32 = 0
      · have H32 := Lib.hid h32
        have HZ := Lib.hid (show s.size = 32 * (s.size / 32) by omega)
        clear h32
        have HL := Lib.hid (getL_len s)
        go_enter Try.func3, Try.ntmps3
        go_wp2_with (first
          | (go_at_call 8; refine (get_w _ s (by omega) H32.out).mono ?_; rintro e w1 ⟨A, n, c, rfl, rfl, hnc, hops, hb⟩; have O1 := Lib.hid hops; have B1 := Lib.hid hb; have C1 := Lib.hid hnc; clear hops hb hnc)
          | (go_at_call 9; refine (getops_ok s _ hz (s.size / 32) HZ.out).mono ?_; rintro e w2 ⟨v, rfl, hown, hb⟩; have O2 := Lib.hid hown; have B2 := Lib.hid hb; obtain ⟨A2, c2, rfl⟩ := own_form4 hown; clear hown hb))
        have BW := Lib.hid (B1.out.trans (B2.out.mono B1.out.size))
        have O3 := Lib.hid (ops_of_own O2.out HL.out (by omega))
        have CC2 := Lib.hid (own_cap4 O2.out)
        have BR := Lib.hid (Below.refl w2.heap.size w2)
        have hS := held_start w2 (.slice A2 (s.size / 32) c2) (.bool true) 28
        have hc0 := hS.1
        have hc1 := hS.2.1
        first
          | go_region_with (first
                | (go_at_call 10; refine (put_w _ A0 c0 n0 l0 (ops_now H0.out BW.out (by assumption)) h01 (by omega)).mono ?_; rintro e w' ⟨rfl, hb⟩; have hS2 := held_on hS hb; clear hS hc0 hc1 hb; have hS := hS2; have hc0 := hS.1; have hc1 := hS.2.1; clear hS2)
                | (go_at_call 11; refine (pops_w _ A0 c0 n0 l0 (ops_now H0.out BW.out (by assumption)) h01 (by omega)).mono ?_; rintro e w' ⟨rfl, hb⟩; have hS2 := held_on hS hb; clear hS hc0 hc1 hb; have hS := hS2; have hc0 := hS.1; have hc1 := hS.2.1; clear hS2)
                | (go_at_call 12; refine (same_w _ A A2 c c2 (s.size / 32) (getL s) (ops_now O1.out B2.out (by assumption)) C1.out (ops_now O3.out BR.out (by assumption)) CC2.out (by omega)).mono ?_; rintro e w' ⟨rfl, hb⟩; have hS2 := held_on hS hb; clear hS hc0 hc1 hb; have hS := hS2; have hc0 := hS.1; have hc1 := hS.2.1; clear hS2)
                | (go_at_call 13; refine (err_w _ _).mono ?_; rintro e w' ⟨rfl, rfl⟩)
                | (go_at_call 7; refine (awake_w _).mono ?_; rintro e w' ⟨rfl, hb⟩; have hS2 := held_on hS hb; clear hS hc0 hc1 hb; have hS := hS2; have hc0 := hS.1; have hc1 := hS.2.1; clear hS2))
          | fail
        all_goals
          go_wp2
          go_ret
          exact ⟨rfl, ops_fin BW.out (by assumption)⟩
      · have H32 := Lib.hid h32
        have HZ := Lib.hid (show s.size % 32 ≠ 0 by omega)
        clear h32
        go_enter Try.func3, Try.ntmps3
        go_wp2_with (first
          | (go_at_call 8; refine (get_bad _ s (by omega) H32.out).mono ?_; rintro e w1 ⟨A, c, rfl, hb⟩; have B1 := Lib.hid hb; clear hb)
          | (go_at_call 9; refine (getops_bad s _ hz HZ.out).mono ?_; rintro e w2 ⟨rfl, hb⟩; have B2 := Lib.hid hb; clear hb))
        have BW := Lib.hid (B1.out.trans (B2.out.mono B1.out.size))
        first
          | go_region_held3 (fun w' => w'.cell? ⟨w2.heap.size, 0, none⟩ = some (.slice none 0 0) ∧ w'.cell? ⟨w2.heap.size, 1, none⟩ = some (.bool false) ∧ w2.heap.size < w'.heap.size ∧ Below w2.heap.size w2 w')
              (first | exact held_start w2 _ _ _ | exact held_on (by assumption) (by assumption) | assumption)
              (first
                | (go_at_call 10; refine (put_w _ A0 c0 n0 l0 (ops_now H0.out BW.out (by assumption)) h01 (by omega)).mono ?_; rintro e w' ⟨rfl, hb⟩)
                | (go_at_call 11; refine (pops_w _ A0 c0 n0 l0 (ops_now H0.out BW.out (by assumption)) h01 (by omega)).mono ?_; rintro e w' ⟨rfl, hb⟩)
                | (go_at_call 12; refine (same_w _ A none c 0 0 [] (ops_nil _ _) (Nat.zero_le _) (ops_nil _ _) (Nat.zero_le _) (by omega)).mono ?_; rintro e w' ⟨rfl, hb⟩)
                | (go_at_call 13; refine (err_w _ _).mono ?_; rintro e w' ⟨rfl, rfl⟩)
                | (go_at_call 7; refine (awake_w _).mono ?_; rintro e w' ⟨rfl, hb⟩))
          | fail
        go_wp2
        go_ret
        exact ⟨rfl, ops_fin BW.out (by assumption)⟩
    · have d3 : decide ((3000 : Int) < (s.size : Int)) = true := by simp; omega
      have d4 : decide (3000 < s.size) = true := by simp; omega
      go_enter Try.func3, Try.ntmps3
      go_wp2_with (go_at_call 7; refine (awake_w _).mono ?_; rintro e w' ⟨rfl, hb⟩)
      go_ret
      exact ⟨rfl, hb⟩
  · have d1 : decide ((60 : Int) < (n0 : Int)) = true := by simp; omega
    have d2 : decide (60 < n0) = true := by simp; omega
    go_enter Try.func3, Try.ntmps3
    go_wp2_with (go_at_call 7; refine (awake_w _).mono ?_; rintro e w' ⟨rfl, hb⟩)
    go_ret
    exact ⟨rfl, hb⟩
end Go.Proofs.Ytkandpfaonlncaa.Fns
