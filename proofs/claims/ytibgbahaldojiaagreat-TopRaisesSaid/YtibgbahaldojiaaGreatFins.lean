/- What a collection goes through: those whose finalizer is to run are marked. -/
import Derived.Test.YtibgbahaldojiaaGreatLost
namespace Go.Proofs.YtibgbahaldojiaaGreat.Fns
open Go Go.RowKit
theorem Tx.drop {w0 w : World} {b : TrB} {h N room : Nat} {F : Nat → Bool} {l : List Int} {over : Bool} {P : Nat → Obj → Prop} (t : Tx w0 w { b with P := P } h N F l room over) (hP : ∀ k o, b.P k o → P k o) : Tx w0 w b h N F l room over := by
  obtain ⟨v, d, t⟩ := t
  exact ⟨v, d, t.box, t.bits, t.st, t.old, t.bt, t.bbb, t.bbr, t.dp, fun k o hk => t.keep k o (hP k o hk)⟩
theorem Cm.below {w w' : World} {c t h : Nat} {vR vF : Value} {clk free rate stk : Int} {all : Bool} (hc : Cm w c t h vR vF clk free rate all stk) (hb : Below w.heap.size w w') : Cm w' c t h vR vF clk free rate all stk := (hb.block _ (lt_of_block hc)).trans hc
theorem contains_nil (w : World) (x : Int) : Calls Tryz.prog 91 #[.slice none 0 0, .int .i64 x] w fun e w' => e = .returned (.bool false) ∧ w = w' :=
  (Tryz.slices_Contains_int_empty none 0 x w).mono fun _ _ h => ⟨h.1, h.2.symm⟩
section
variable (w0 w : World) {B : HpB} {b : TrB} {n m N room : Nat} {f : Nat → Int} {F : Nat → Bool} {l : List Int} {c : Nat} {vR vF : Value} {clk free rate stk x : Int} {all : Bool} {Fb : Nat → Bool}
set_option maxHeartbeats 1000000 in
theorem fins_none (t : Tx w0 w b B.h N F l room false) (A : Option Addr) (q : Nat) (hc : Cm w c b.t B.h vR (.slice A 0 q) clk free rate all stk) : Calls Tryz.prog 138 #[.agg #[.pointer (some ⟨c, 0, none⟩)]] w fun e w' => e = .returned (.slice none 0 0) ∧ Below w.heap.size w w' := by
  have HB := Lib.hid (show Below w.heap.size w (w.alloc (.cells #[.pointer (some ⟨c, 0, none⟩)] 221)) from (Below.refl _ _).alloc (Nat.le_refl _) _)
  have hlt := lt_of_block hc
  have c0 := cell_of_row _ _ 0 _ _ _ (hc.below HB.out)
  have c3 := cell_of_row _ _ 3 _ _ _ (hc.below HB.out)
  have HT := Lib.hid (t.far HB.out)
  clear t hc
  go_enter Tryz.func138, Tryz.ntmps138
  go_wp2
  go_loopw [3, 13] (fun v iv wr => v = .slice none 0 0 ∧ iv = .int .i64 0 ∧ wr = w.alloc (.cells #[.pointer (some ⟨c, 0, none⟩)] 221)) (fun _ _ _ => 0)
  case atStart => exact ⟨rfl, rfl, rfl⟩
  case round =>
    obtain ⟨rfl, rfl, rfl⟩ := hrel
    go_wp2_with (go_at_call 135; refine (mark_none w0 _ HT.out none 0).mono ?_; rintro e w' ⟨rfl, rfl⟩)
    go_ret
    exact ⟨rfl, HB.out⟩
set_option maxRecDepth 100000 in
set_option maxHeartbeats 2000000 in
theorem fins_one (t : Tx w0 w b B.h N (fun _ => false) [] room false) (h : Hp w0 B n m f) (hc : Ch m f KL Fb (VL x)) (hN : N = n * 64) (hm : m ≤ 32) (hn : 2 ≤ n) (k : Nat) (hk : k < m) (hr0 : 0 < room) (hr : room ≤ 4096) (s q : Nat)
    (hcm : Cm w c b.t B.h vR (.slice (some ⟨s, 0, none⟩) 1 q) clk free rate all stk) (hs : w.cell? ⟨s, 0, none⟩ = some (.int .i64 (64 + (k : Int) * 2))) :
    Calls Tryz.prog 138 #[.agg #[.pointer (some ⟨c, 0, none⟩)]] w fun e w' => ∃ s2 q2, e = .returned (.slice (some ⟨s2, 0, none⟩) 1 q2) ∧ Tx w0 w' b B.h N (mkF 0 k) [] room false ∧ w'.ownsRow w.heap.size 3 1 (.slice (some ⟨s2, 0, none⟩) 1 q2) 1 [.int .i64 (64 + (k : Int) * 2)] := by
  obtain ⟨i0, hi0, hz0, hz1, hz2⟩ := info_parts info3
  have INFO := Lib.hid (And.intro hi0 (And.intro hz0 (And.intro hz1 hz2)))
  clear hi0 hz0 hz1 hz2
  obtain ⟨a, ha⟩ : ∃ a, a = 64 + k * 2 := ⟨_, rfl⟩
  rw [show (64 : Int) + (k : Int) * 2 = (a : Int) by omega] at hs ⊢
  have HB := Lib.hid (show Below w.heap.size w (w.alloc (.cells #[.pointer (some ⟨c, 0, none⟩)] 221)) from (Below.refl _ _).alloc (Nat.le_refl _) _)
  have HCM := Lib.hid (hcm.below HB.out)
  have hlt := lt_of_block hcm
  have c3 := cell_of_row _ _ 3 _ _ _ HCM.out
  have HT := Lib.hid (t.far HB.out)
  have HS := Lib.hid ((HB.out.cell (p := ⟨s, 0, none⟩) (World.block_lt_of_cell? _ _ hs)).trans hs)
  have HR := Lib.hid (heap_alloc_new w (.cells #[.pointer (some ⟨c, 0, none⟩)] 221))
  have HL := Lib.hid (fun w' (hb : Below (w.alloc (.cells #[.pointer (some ⟨c, 0, none⟩)] 221)).heap.size (w.alloc (.cells #[.pointer (some ⟨c, 0, none⟩)] 221)) w') => lost_c w0 w' (HT.out.far hb) h (HCM.out.below hb) hN hm hn k a hk ha (KL k) (Fb k) (KL_kind k) (by rw [ha]; exact hc.head k hk) false rfl)
  have HM := Lib.hid (And.intro h (And.intro hc hN))
  have HA := Lib.hid ha
  clear t hcm hs h hc hN ha
  go_enter Tryz.func138, Tryz.ntmps138
  go_wp2
  go_loopw [3, 5, 13] (fun v _ iv wr => Below (w.alloc (.cells #[.pointer (some ⟨c, 0, none⟩)] 221)).heap.size (w.alloc (.cells #[.pointer (some ⟨c, 0, none⟩)] 221)) wr ∧ ((v = .slice none 0 0 ∧ iv = .int .i64 0) ∨ (iv = .int .i64 1 ∧ ∃ s2 q2, v = .slice (some ⟨s2, 0, none⟩) 1 q2 ∧ wr.ownsRow (w.alloc (.cells #[.pointer (some ⟨c, 0, none⟩)] 221)).heap.size 3 1 v 1 [.int .i64 (a : Int)]))) (fun _ _ iv _ => 1 - (intOf iv).toNat)
  case atStart => exact ⟨Below.refl _ _, .inl ⟨rfl, rfl⟩⟩
  case round =>
    obtain ⟨hb, ⟨rfl, rfl⟩ | ⟨rfl, s2, q2, rfl, ho⟩⟩ := hrel
    · have HBX := Lib.hid hb
      have b0 := cell_of_row _ _ 0 _ _ _ ((hb.block _ (lt_of_block HR.out)).trans HR.out)
      have hcell := (hb.cell (p := ⟨s, 0, none⟩) (World.block_lt_of_cell? _ _ HS.out)).trans HS.out
      clear hb
      go_wp2_with (first
        | (go_at_call 174; refine (HL.out _ HBX.out).mono ?_; rintro e w2 ⟨rfl, hb⟩; have HB2 := Lib.hid hb; clear hb)
        | (go_at_call 91; refine (contains_nil _ _).mono ?_; rintro e w' ⟨rfl, rfl⟩)
        | (at_builtin; refine wpList_push _ rfl (.tmp 28) (.tmp 30) 51 rfl (w.alloc (.cells #[.pointer (some ⟨c, 0, none⟩)] 221)).heap.size 3 i0 Tryz.underlying51 INFO.out.1 INFO.out.2.1 INFO.out.2.2.1 INFO.out.2.2.2 (.slice none 0 0) 0 [] (by simp [Act.eval]) (World.ownsRow_nil _ _ _ _) (w2.heap.size + 1) (some ⟨w2.heap.size, 0, none⟩) 1 1 _ rfl (ints_one w2 _) (by omega) (Nat.le_trans (Nat.le_trans HBX.out.size HB2.out.size) (by simp)) ?_; intro v2 w3 ho hg _; have HO := Lib.hid ho; have HB3 := Lib.hid (((HBX.out.trans (HB2.out.mono HBX.out.size)).alloc (Nat.le_trans HBX.out.size HB2.out.size) _).grown hg (Nat.le_trans (Nat.le_trans HBX.out.size HB2.out.size) (by simp)) (fun k hk => by cases hk)); clear ho hg))
      obtain ⟨s2, q2, rfl⟩ : ∃ s2 q2, v2 = .slice (some ⟨s2, 0, none⟩) 1 q2 := by
        rcases HO.out.2 with ⟨_, h0⟩ | ⟨b, cp, _, h1, _⟩
        · omega
        · exact ⟨b, cp, h1⟩
      go_roundw
      case rel => exact ⟨HB3.out, .inr ⟨by go_num, s2, q2, rfl, by simpa using HO.out⟩⟩
      case measure => simp [intOf]
    · have HBX := Lib.hid hb
      have b0 := cell_of_row _ _ 0 _ _ _ ((hb.block _ (lt_of_block HR.out)).trans HR.out)
      have k0 := cell_of_row _ _ 0 _ _ _ (HCM.out.below hb)
      have hcell : wr.cell? ⟨s2, 0, none⟩ = some (.int .i64 (a : Int)) := by have := ho.cellAt 0 (by simp); simpa using this
      obtain ⟨cells, hrow⟩ : ∃ o, wr.heap[s2]? = some o := ⟨_, Array.getElem?_eq_getElem (World.block_lt_of_cell? _ _ hcell)⟩
      have hbW : Below w.heap.size w wr := HB.out.trans (hb.mono HB.out.size)
      have hT : Tx w0 wr { b with P := fun k o => b.P k o ∨ (k = s2 ∧ o = cells) } B.h N (fun _ => false) [] room false := by
        refine Tx.hold (w := w.alloc (.cells #[.pointer (some ⟨c, 0, none⟩)] 221)) HT.out hb _ ?_
        rintro k' o ⟨rfl, rfl⟩
        exact ⟨hrow, (ho.lt k' rfl).1⟩
      have HMK := Lib.hid (mark_one w0 wr HM.out.1 HM.out.2.1 HM.out.2.2 hm hn k hk hT hr0 hr (some ⟨s2, 0, none⟩) q2 ⟨rfl, fun _ => ⟨_, rfl, World.block_lt_of_cell? _ _ hcell, fun j hj => by
        obtain rfl : j = 0 := by omega
        rw [show ([64 + (k : Int) * 2] : List Int).getD 0 0 = (a : Int) by have := HA.out; simp; omega]
        exact hcell⟩⟩)
      have HROW := Lib.hid hrow
      have HOW := Lib.hid ho
      clear hb ho hcell hrow hT hbW
      go_wp2_with (go_at_call 135; refine HMK.out.mono ?_; rintro e w2 ⟨rfl, ht⟩; have HT2 := Lib.hid ht; clear ht)
      go_ret
      have hr2 : w2.heap[s2]? = some cells := HT2.out.kept (.inr ⟨rfl, rfl⟩)
      refine ⟨s2, q2, rfl, HT2.out.drop (fun k o h => .inl h), HOW.out.1, ?_⟩
      rcases HOW.out.2 with ⟨h1, _⟩ | ⟨g, cap, cur, h1, h2, h3, h4⟩
      · cases h1
      · simp only [Value.slice.injEq, Option.some.injEq, Addr.mk.injEq, true_and, and_true] at h1
        obtain ⟨rfl, rfl⟩ := h1
        exact .inr ⟨s2, q2, cur, rfl, by simp at h2; omega, (hr2.trans HROW.out.symm).trans h3, h4⟩
end
end Go.Proofs.YtibgbahaldojiaaGreat.Fns
