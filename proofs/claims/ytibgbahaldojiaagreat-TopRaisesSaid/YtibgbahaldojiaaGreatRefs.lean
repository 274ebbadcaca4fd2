/- What a collection goes through: no references among such objects. -/
import Derived.Test.YtibgbahaldojiaaGreatMarks
namespace Go.Proofs.YtibgbahaldojiaaGreat.Fns
open Go Go.RowKit
theorem insSort_nil (w : World) (fv : Value) : Calls Tryz.prog 210 #[.slice none 0 0, .int .i64 0, .int .i64 0, fv] w fun e w' => e = .returned (.tuple #[]) ∧ w = w' := by
  go_enter Tryz.func210, Tryz.ntmps210
  go_wp2
  go_loopw [8] (fun iv wr => iv = .int .i64 1 ∧ wr = w) (fun _ _ => 0)
  case atStart => exact ⟨rfl, rfl⟩
  case round =>
    obtain ⟨rfl, rfl⟩ := hrel
    go_wp2
    go_end0
    exact ⟨rfl, rfl⟩
theorem stable_nil (w : World) (fv : Value) : Calls Tryz.prog 198 #[.slice none 0 0, .int .i64 0, fv] w fun e w' => e = .returned (.tuple #[]) ∧ w = w' := by
  go_enter Tryz.func198, Tryz.ntmps198
  go_wp2
  go_loopw [7, 8] (fun av bv wr => av = .int .i64 0 ∧ bv = .int .i64 20 ∧ wr = w) (fun _ _ _ => 0)
  case atStart => exact ⟨rfl, rfl, rfl⟩
  case round =>
    obtain ⟨rfl, rfl, rfl⟩ := hrel
    go_wp2_with (go_at_call 210; refine (insSort_nil _ _).mono ?_; rintro e w' ⟨rfl, rfl⟩)
    go_loopw [6] (fun sv wx => sv = .int .i64 20 ∧ wx = wr) (fun _ _ => 0)
    case atStart => exact ⟨rfl, rfl⟩
    case round =>
      obtain ⟨rfl, rfl⟩ := hrel
      go_wp2
      go_end0
      exact ⟨rfl, rfl⟩
theorem sortStable_nil (w : World) (fv : Value) : Calls Tryz.prog 164 #[.slice none 0 0, fv] w fun e w' => e = .returned (.tuple #[]) ∧ w = w' := by
  go_enter Tryz.func164, Tryz.ntmps164
  go_wp2_with (go_at_call 198; refine (stable_nil _ _).mono ?_; rintro e w' ⟨rfl, rfl⟩)
  go_end0
  exact ⟨rfl, rfl⟩
theorem indexF_nil (w : World) (fv : Value) : Calls Tryz.prog 172 #[.slice none 0 0, fv] w fun e w' => e = .returned (.int .i64 (-1)) ∧ w = w' := by
  go_enter Tryz.func172, Tryz.ntmps172
  go_wp2
  go_loopw [5, 8] (fun _ iv wr => iv = .int .i64 0 ∧ wr = w) (fun _ _ _ => 0)
  case atStart => exact ⟨rfl, rfl⟩
  case round =>
    obtain ⟨rfl, rfl⟩ := hrel
    go_wp2
    go_ret
    exact ⟨rfl, rfl⟩
/-- One of a slice of objects: its cells. -/
theorem obj_cell {w : World} {B m i : Nat} {v : Value} {xs : List Value} {K : Nat → Int} {Fb : Nat → Bool} (h : w.ownsRow B 186 6 v m xs) (hx : ObL K Fb m xs) (hi : i < m) : ∃ s c A cc, v = .slice (some ⟨s, 0, none⟩) m c ∧ ∀ q, q < 6 → w.cell? ⟨s, i * 6 + q, none⟩ = (obC (64 + (i : Int) * 2) (K i) (Fb i) A cc)[q]? := by
  obtain ⟨A, cc, h2⟩ := hx.2 i hi
  rcases h.2 with ⟨_, h0⟩ | ⟨s, c, _, h2', _⟩
  · omega
  · subst h2'
    refine ⟨s, c, A, cc, rfl, fun q hq => ?_⟩
    rw [h.cellAt (i * 6 + q) (by omega)]
    exact h2 q hq
section
variable (w : World) {B : HpB} {n m : Nat} {f K V : Nat → Int} {Fb : Nat → Bool}
set_option maxRecDepth 100000 in
set_option maxHeartbeats 2000000 in
theorem refsOf_c (h : Hp w B n m f) (hc : Ch m f K Fb V) (hm : m ≤ 32) (hn : 2 ≤ n) : Calls Tryz.prog 134 #[.pointer (some ⟨B.h, 0, none⟩)] w fun e w' => e = .returned (.slice none 0 0) ∧ Below w.heap.size w w' := by
  have HC := Lib.hid (objects_c w h hc hm hn)
  have HK := Lib.hid hc.kind
  clear h hc
  go_enter Tryz.func134, Tryz.ntmps134
  go_wp2_with (go_at_call 77; refine HC.out.mono ?_; rintro e w1 ⟨v, xs, rfl, ho, hx, hb⟩; obtain ⟨A, c, rfl⟩ := form186 ho; have HO := Lib.hid ho; have HX := Lib.hid hx; have HB := Lib.hid hb; clear ho hx hb)
  go_loopw [3, 10] (fun v iv wr => v = .slice none 0 0 ∧ ∃ j : Nat, j ≤ m ∧ iv = .int .i64 (j : Int) ∧ Below w1.heap.size w1 wr) (fun _ iv _ => m - (intOf iv).toNat)
  case atStart => exact ⟨rfl, 0, Nat.zero_le _, rfl, Below.refl _ _⟩
  case round =>
    obtain ⟨rfl, j, hj, rfl, hb⟩ := hrel
    have HBX := Lib.hid hb
    by_cases hlt : j < m
    · obtain ⟨s, c', A', cc, hA, hcell⟩ := obj_cell HO.out HX.out hlt
      injection hA with hA _ h3
      subst hA h3
      have hcl : ∀ q, q < 6 → wr.cell? ⟨s, j * 6 + q, none⟩ = (obC (64 + (j : Int) * 2) (K j) (Fb j) A' cc)[q]? := fun q hq => by
        rw [← hcell q hq]
        have hx := hcell q hq
        rw [List.getElem?_eq_getElem (by simpa [obC] using hq)] at hx
        exact hb.cell (p := ⟨s, j * 6 + q, none⟩) (World.block_lt_of_cell? _ _ hx)
      have q0 := hcl 0 (by omega)
      have q1 := hcl 1 (by omega)
      have q2 := hcl 2 (by omega)
      have q3 := hcl 3 (by omega)
      have q4 := hcl 4 (by omega)
      have q5 := hcl 5 (by omega)
      simp only [obC] at q0 q1 q2 q3 q4 q5
      rw [Nat.add_zero] at q0
      have hk := HK.out j hlt
      have hkk : ((K j) == 4) = false := by simp; omega
      generalize K j = kj at q1 hkk
      generalize (64 : Int) + (j : Int) * 2 = aj at q0
      have dj : decide ((j : Int) < (m : Int)) = true := by simp; omega
      have dj2 : decide (j < m) = true := by simp; omega
      have g1 : (0 : Int) ≤ (j : Int) := by omega
      have g2 : (j : Int) < (m : Int) := by omega
      clear hcell hcl hb hk
      go_wp2
      go_roundw
      case rel => exact ⟨rfl, j + 1, by omega, by go_num, HBX.out.alloc HBX.out.size _⟩
      case measure => simp [intOf]; omega
    · obtain rfl : j = m := by omega
      have dj : decide ((j : Int) < (j : Int)) = false := by simp
      clear hb
      go_wp2_with (go_at_call 164; refine (sortStable_nil _ _).mono ?_; rintro e w' ⟨rfl, rfl⟩)
      go_ret
      exact ⟨rfl, HB.out.trans (HBX.out.mono HB.out.size)⟩
end
theorem below_drew {B : Nat} {w w' : World} (h : Below B w w') : Below B w w'.drew := ⟨h.os, h.tape, h.output, h.size, h.block⟩
/-- What all phases share: block c; t: the tracer; h: the heap; no references. -/
def Cm (w : World) (c t h : Nat) (vR vF : Value) (clk free rate : Int) (all : Bool) (stk : Int) : Prop :=
  w.heap[c]? = some (.cells #[.pointer (some ⟨t, 0, none⟩), .pointer (some ⟨h, 0, none⟩), vR, vF, .int .i64 clk, .int .i64 free, .int .i64 rate, .bool all, .int .i64 stk, .slice none 0 0] 217 (0, 0))
section
variable (w : World) {c t h : Nat} {vR vF : Value} {clk free rate stk : Int} {all : Bool}
set_option maxHeartbeats 2000000 in
theorem softly_c (hc : Cm w c t h vR vF clk free rate all stk) : Calls Tryz.prog 136 #[.agg #[.pointer (some ⟨c, 0, none⟩)]] w fun e w' => e = .returned (.tuple #[]) ∧ Below w.heap.size w w' := by
  have h9 := cell_of_row _ _ 9 _ _ _ hc
  have hlt := lt_of_block hc
  have HB := Lib.hid (show Below w.heap.size w (w.alloc (.cells #[.pointer (some ⟨c, 0, none⟩)] 219)) from (Below.refl _ _).alloc (Nat.le_refl _) _)
  have hmf : ∀ (fn : Fn) (first cap : Array Value) (w : World), (Instr.makeFunc fn first cap).run Tryz.prog w = .ok (.func fn first cap) w := fun _ _ _ _ => rfl
  clear hc
  go_enter Tryz.func136, Tryz.ntmps136
  go_wp2
  go_loopw [2] (fun _ wr => wr = w.alloc (.cells #[.pointer (some ⟨c, 0, none⟩)] 219)) (fun _ _ => 0)
  case atStart => rfl
  case round =>
    obtain rfl := hrel
    go_wp2
    go_region_with (go_at_call 172; refine (indexF_nil _ _).mono ?_; rintro e w' ⟨rfl, rfl⟩)
    all_goals
      go_wp2
      exact bodyPost_ret (v := .tuple #[]) (by simp [results, Tryz.results136, go_sem]) rfl ⟨rfl, below_drew HB.out⟩
theorem cleared_c (hc : Cm w c t h vR vF clk free rate all stk) (v : Value) : Calls Tryz.prog 137 #[.pointer (some ⟨c, 0, none⟩), v] w fun e w' => e = .returned (.slice none 0 0) ∧ w = w' := by
  have h9 := cell_of_row _ _ 9 _ _ _ hc
  clear hc
  go_enter Tryz.func137, Tryz.ntmps137
  go_wp2
  go_loopw [5, 13] (fun v iv wr => v = .slice none 0 0 ∧ iv = .int .i64 0 ∧ wr = w) (fun _ _ _ => 0)
  case atStart => exact ⟨rfl, rfl, rfl⟩
  case round =>
    obtain ⟨rfl, rfl, rfl⟩ := hrel
    go_wp2
    go_ret
    exact ⟨rfl, rfl⟩
theorem put0_c (cc n : Nat) : Calls Tryz.prog 139 #[.pointer (some ⟨cc, 0, none⟩), .slice none 0 n] w fun e w' => e = .returned (.slice none 0 0) ∧ w = w' := by
  go_enter Tryz.func139, Tryz.ntmps139
  go_wp2
  go_loopw [5, 11] (fun v iv wr => v = .slice none 0 0 ∧ iv = .int .i64 0 ∧ wr = w) (fun _ _ _ => 0)
  case atStart => exact ⟨rfl, rfl, rfl⟩
  case round =>
    obtain ⟨rfl, rfl, rfl⟩ := hrel
    go_wp2
    go_ret
    exact ⟨rfl, rfl⟩
end
end Go.Proofs.YtibgbahaldojiaaGreat.Fns
