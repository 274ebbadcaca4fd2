/- What a collection goes through: who is lost; those whose finalizer is to run. -/
import Derived.Test.YtibgbahaldojiaaGreatRefs
namespace Go.Proofs.YtibgbahaldojiaaGreat.Fns
open Go Go.RowKit
theorem below_drewN {B q : Nat} {w w' : World} (h : Below B w w') : Below B w (w'.drewN q) := ⟨h.os, h.tape, h.output, h.size, h.block⟩
section
variable (w0 w : World) {B : HpB} {b : TrB} {n m N room : Nat} {f : Nat → Int} {F : Nat → Bool} {l : List Int} {over : Bool} {c : Nat} {vR vF : Value} {clk free rate stk : Int} {all : Bool}
set_option maxRecDepth 100000 in
set_option maxHeartbeats 4000000 in
theorem lost_c (t : Tx w0 w b B.h N F l room over) (h : Hp w0 B n m f) (hc : Cm w c b.t B.h vR vF clk free rate all stk) (hN : N = n * 64) (hm : m ≤ 32) (hn : 2 ≤ n) (i a : Nat) (hi : i < m) (ha : a = 64 + i * 2) (k : Int) (fin : Bool) (hk : k = 2 ∨ k = 3) (hf : f a = hw k 1 fin) (z : Bool) (hz : F a = z) :
    Calls Tryz.prog 174 #[.pointer (some ⟨c, 0, none⟩), .agg #[.int .i64 0, .int .i64 0, .int .i64 (a : Int), .int .i64 0, .int .i64 0, .int .i64 0]] w fun e w' => e = .returned (.bool (!z)) ∧ Below w.heap.size w w' := by
  have HB0 := Lib.hid (show Below w.heap.size w (w.alloc (.cells #[.int .i64 0, .int .i64 0, .int .i64 (a : Int), .int .i64 0, .int .i64 0, .int .i64 0] 242)) from (Below.refl _ _).alloc (Nat.le_refl _) _)
  have R0 := Lib.hid (heap_alloc_new w (.cells #[.int .i64 0, .int .i64 0, .int .i64 (a : Int), .int .i64 0, .int .i64 0, .int .i64 0] 242))
  have HB01 := Lib.hid (HB0.out.alloc HB0.out.size (.cells #[.int .i64 0, .int .i64 0, .int .i64 0, .bool false] 111))
  have R1 := Lib.hid (show ((w.alloc (.cells #[.int .i64 0, .int .i64 0, .int .i64 (a : Int), .int .i64 0, .int .i64 0, .int .i64 0] 242)).alloc (.cells #[.int .i64 0, .int .i64 0, .int .i64 0, .bool false] 111)).drew.heap[w.heap.size + 1]? = some (.cells #[.int .i64 0, .int .i64 0, .int .i64 0, .bool false] 111 (0, 0)) by
    have := heap_alloc_new (w.alloc (.cells #[.int .i64 0, .int .i64 0, .int .i64 (a : Int), .int .i64 0, .int .i64 0, .int .i64 0] 242)) (.cells #[.int .i64 0, .int .i64 0, .int .i64 0, .bool false] 111)
    rw [show (w.alloc (.cells #[.int .i64 0, .int .i64 0, .int .i64 (a : Int), .int .i64 0, .int .i64 0, .int .i64 0] 242)).heap.size = w.heap.size + 1 by simp] at this
    exact this)
  have hlt := lt_of_block hc
  have HCB := Lib.hid ((HB0.out.block _ (lt_of_block hc)).trans hc)
  have hb2 : Below (w.alloc (.cells #[.int .i64 0, .int .i64 0, .int .i64 (a : Int), .int .i64 0, .int .i64 0, .int .i64 0] 242)).heap.size (w.alloc (.cells #[.int .i64 0, .int .i64 0, .int .i64 (a : Int), .int .i64 0, .int .i64 0, .int .i64 0] 242)) (((w.alloc (.cells #[.int .i64 0, .int .i64 0, .int .i64 (a : Int), .int .i64 0, .int .i64 0, .int .i64 0] 242)).alloc (.cells #[.int .i64 0, .int .i64 0, .int .i64 0, .bool false] 111)).drew) := below_drew ((Below.refl _ _).alloc (Nat.le_refl _) _)
  have HCB1 := Lib.hid ((hb2.block _ (lt_of_block HCB.out)).trans HCB.out)
  have R01 := Lib.hid ((hb2.block _ (lt_of_block R0.out)).trans R0.out)
  clear hb2
  have k1 := cell_of_row _ _ 1 _ _ _ hc
  have HC := Lib.hid (fun w' (hb : Below w.heap.size w w') => head_c w' (h.below (t.old.trans (hb.mono t.old.size))) hm hn i a hi ha k fin hk hf)
  unfold hd at HC
  have HT := Lib.hid t
  have haN : a < N := by omega
  have HZ := Lib.hid hz
  clear t h hc hk hf ha hN hz
  go_enter Tryz.func174, Tryz.ntmps174
  go_wp2
  go_region_with (go_at_call 59; first
    | ((with_reducible refine (HC.out _ (below_drew HB0.out)).mono ?_); rintro e w1 ⟨rfl, hb⟩; have HB1 := Lib.hid hb; have k0 := cell_of_row _ _ 0 _ _ _ ((hb.block _ (lt_of_block HCB.out)).trans HCB.out); have r2 := cell_of_row _ _ 2 _ _ _ ((hb.block _ (lt_of_block R0.out)).trans R0.out); have hlt1 := Nat.le_trans (below_drew HB0.out).size hb.size; have hc1 := lt_of_block ((hb.block _ (lt_of_block HCB.out)).trans HCB.out); have hs1 := lt_of_block ((hb.block _ (lt_of_block R0.out)).trans R0.out); have HBW := Lib.hid (show Below w.heap.size w (w1.alloc (.cells #[.int .i64 k, .int .i64 0, .int .i64 1, .bool fin] 111)) from ((below_drew HB0.out).trans (hb.mono (below_drew HB0.out).size)).alloc hlt1 _); have HQ := Lib.hid (fun q => Calls.quiet_of_same (n := q) ((marked_c w0 ((w1.alloc (.cells #[.int .i64 k, .int .i64 0, .int .i64 1, .bool fin] 111)).drewN q) (HT.out.far (below_drewN HBW.out)) a haN z HZ.out).mono fun _ _ h => ⟨h.1, h.2.symm⟩)); clear hb)
    | ((with_reducible refine (HC.out _ (below_drew HB01.out)).mono ?_); rintro e w1 ⟨rfl, hb⟩; have HB1 := Lib.hid hb; have k0 := cell_of_row _ _ 0 _ _ _ ((hb.block _ (lt_of_block HCB1.out)).trans HCB1.out); have r2 := cell_of_row _ _ 2 _ _ _ ((hb.block _ (lt_of_block R01.out)).trans R01.out); have hr := (hb.block _ (lt_of_block R1.out)).trans R1.out; have f0 := frozen_of_row _ _ 0 _ _ hr; have f1 := frozen_of_row _ _ 1 _ _ hr; have f2 := frozen_of_row _ _ 2 _ _ hr; have f3 := frozen_of_row _ _ 3 _ _ hr; have c0 := cell_of_row _ _ 0 _ _ _ hr; have c1 := cell_of_row _ _ 1 _ _ _ hr; have c2 := cell_of_row _ _ 2 _ _ _ hr; have c3 := cell_of_row _ _ 3 _ _ _ hr; have HBW := Lib.hid (show Below w.heap.size w ((((w1.setCell ⟨w.heap.size + 1, 0, none⟩ (.int .i64 k)).setCell ⟨w.heap.size + 1, 1, none⟩ (.int .i64 0)).setCell ⟨w.heap.size + 1, 2, none⟩ (.int .i64 1)).setCell ⟨w.heap.size + 1, 3, none⟩ (.bool fin)) from below_set4 (w.heap.size + 1) _ _ _ _ (Nat.le_succ _) ((below_drew HB01.out).trans (hb.mono (below_drew HB01.out).size))); have HQ := Lib.hid (fun q => Calls.quiet_of_same (n := q) ((marked_c w0 (((((w1.setCell ⟨w.heap.size + 1, 0, none⟩ (.int .i64 k)).setCell ⟨w.heap.size + 1, 1, none⟩ (.int .i64 0)).setCell ⟨w.heap.size + 1, 2, none⟩ (.int .i64 1)).setCell ⟨w.heap.size + 1, 3, none⟩ (.bool fin)).drewN q) (HT.out.far (below_drewN HBW.out)) a haN z HZ.out).mono fun _ _ h => ⟨h.1, h.2.symm⟩)); clear hb hr))
  all_goals
    go_wp2
    go_quiet ((go_at_call 176; exact HQ.out _))
    go_wp2
    go_ret
    exact ⟨rfl, below_drewN HBW.out⟩
end
end Go.Proofs.YtibgbahaldojiaaGreat.Fns
