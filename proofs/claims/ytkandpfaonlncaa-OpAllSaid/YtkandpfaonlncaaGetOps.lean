/- What the reference's GetOps tells of a string: none where its bytes make no whole operations, else the operations that they are, in a slice of its own; strings of at most 3,000 bytes. -/
import Derived.Test.YtkandpfaonlncaaRows
import Derived.Test.YtkandpfaonlncaaSpec
import Derived.WalkKit
import Derived.WalkSpells
import Derived.WalkLawsBesides
import Derived.Lib.Hide
import Derived.OpenShut
import Derived.BigQuiet
import Derived.BigRegion
namespace Go.Proofs.Ytkandpfaonlncaa.Fns
open Go Go.RowKit Go.Proofs.Ytkandpfaonlncaa.Spec Go.Proofs.Ytkandpfaonlncaa.POpAll Go.Proofs.YtkandpfaonlncaaW.PrintWords Go.Proofs.YtkandpfaonlncaaW.PrintMore

/-- What lies in the array behind k bytes: its q-th number. -/
def part (s : ByteArray) (p k q : Nat) : Int := leo s (p + 8 * q) (min 8 (k - 8 * q))

set_option maxHeartbeats 1000000 in
theorem getops_bad (s : ByteArray) (w : World) (hs : s.size ≤ 3000) (h : s.size % 32 ≠ 0) :
    Calls Try.prog 9 #[.string s] w fun e w' => e = .returned (.agg #[.slice none 0 0, .bool false]) ∧ Below w.heap.size w w' := by
  have h1 : ((s.size : Int) % 32 == 0) = false := by simp; omega
  have h2 : ((s.size : Int) % 32 != 0) = true := by simp; omega
  go_enter Try.func9, Try.ntmps9
  go_wp2
  refine bodyPost_ret (v := .agg #[.slice none 0 0, .bool false]) (by simp [results, Try.results9, go_sem]) rfl ⟨rfl, (Below.refl _ _).alloc (Nat.le_refl _) _⟩

/-- The cells of a list of operations. -/
def cells4 (l : List S37) : List Value := l.flatMap fun o => [.int .i64 o.f0, .int .i64 o.f1, .int .i64 o.f2, .int .i64 o.f3]
theorem getFrom_snoc (s : ByteArray) : ∀ (q p : Nat), getFrom s p (q + 1) = getFrom s p q ++ [Spec.opAt s (p + 32 * q)]
  | 0, p => by simp [getFrom]
  | q + 1, p => by
    have := getFrom_snoc s q (p + 32)
    rw [show getFrom s p (q + 1 + 1) = Spec.opAt s p :: getFrom s (p + 32) (q + 1) from rfl, this]
    show Spec.opAt s p :: (getFrom s (p + 32) q ++ [Spec.opAt s (p + 32 + 32 * q)]) = (Spec.opAt s p :: getFrom s (p + 32) q) ++ [Spec.opAt s (p + 32 * (q + 1))]
    rw [List.cons_append, show p + 32 + 32 * q = p + 32 * (q + 1) by omega]

theorem part_next (s : ByteArray) (p k : Nat) (h : p + k < s.size) :
    Go.bits .or .u64 (part s p k (k / 8)) (IntKind.u64.wrap (IntKind.u64.wrap ((s[p + k]'h).toNat : Int) * 2 ^ (k % 8 * 8))) = part s p (k + 1) (k / 8) := by
  unfold part
  rw [show min 8 (k - 8 * (k / 8)) = k % 8 by omega, show min 8 (k + 1 - 8 * (k / 8)) = k % 8 + 1 by omega]
  have hb : ((s[p + k]'h).toNat : Int) = bt s ((p + 8 * (k / 8) + k % 8 : Nat) : Int) := by
    rw [show p + 8 * (k / 8) + k % 8 = p + k by omega]
    unfold bt
    simp only [Int.toNat_natCast]
    rw [dif_pos h]
  obtain ⟨r0, r1⟩ := leo_range s (p + 8 * (k / 8)) (k % 8)
  obtain ⟨b0, b1⟩ := bt_range s ((p + 8 * (k / 8) + k % 8 : Nat) : Int)
  have := or_add _ _ (k % 8) (by omega) r0 r1 b0 b1
  unfold shl at this
  rw [show min ((8 * (k % 8) : Nat) : Int).toNat IntKind.u64.bits = 8 * (k % 8) by simp [IntKind.bits]; omega] at this
  rw [hb, Nat.mul_comm (k % 8) 8]
  exact this
theorem part_other (s : ByteArray) (p k q : Nat) (h : q ≠ k / 8) : part s p (k + 1) q = part s p k q := by
  unfold part
  rw [show min 8 (k + 1 - 8 * q) = min 8 (k - 8 * q) by omega]
theorem part_store (w : World) (s : ByteArray) (p k g : Nat) (hk : k < 32) (h : p + k < s.size)
    (hc : w.heap[g]? = some (.cells #[.int .u64 (part s p k 0), .int .u64 (part s p k 1), .int .u64 (part s p k 2), .int .u64 (part s p k 3)] 43 (0, 0))) :
    (w.setCell ⟨g, k / 8, none⟩ (.int .u64 (Go.bits .or .u64 (part s p k (k / 8)) (IntKind.u64.wrap (IntKind.u64.wrap ((s[p + k]'h).toNat : Int) * 2 ^ (k % 8 * 8)))))).heap[g]? =
      some (.cells #[.int .u64 (part s p (k + 1) 0), .int .u64 (part s p (k + 1) 1), .int .u64 (part s p (k + 1) 2), .int .u64 (part s p (k + 1) 3)] 43 (0, 0)) := by
  rw [heap_setCell_same w g (k / 8) _ _ _ hc, part_next s p k h]
  rcases (show k / 8 = 0 ∨ k / 8 = 1 ∨ k / 8 = 2 ∨ k / 8 = 3 by omega) with e | e | e | e
  · rw [e, part_other s p k 1 (by omega), part_other s p k 2 (by omega), part_other s p k 3 (by omega)]; rfl
  · rw [e, part_other s p k 0 (by omega), part_other s p k 2 (by omega), part_other s p k 3 (by omega)]; rfl
  · rw [e, part_other s p k 0 (by omega), part_other s p k 1 (by omega), part_other s p k 3 (by omega)]; rfl
  · rw [e, part_other s p k 0 (by omega), part_other s p k 1 (by omega), part_other s p k 2 (by omega)]; rfl
theorem own_keep {w w' : World} {base : Nat} {e : TypeId} {size n : Nat} {v : Value} {xs : List Value} (h : w.ownsRow base e size v n xs) (hb : Below w.heap.size w w') : w'.ownsRow base e size v n xs := by
  refine ⟨h.1, ?_⟩
  rcases h.2 with h2 | ⟨g, cap, cur, hv, hg, hh, r⟩
  · exact .inl h2
  · exact .inr ⟨g, cap, cur, hv, hg, (hb.block g (lt_of_block hh)).trans hh, r⟩
theorem own_ne28 {w : World} {base g n : Nat} {v : Value} {xs : List Value} {cs : Array Value} (ho : w.ownsRow base 37 4 v n xs) (hg : w.heap[g]? = some (.cells cs 28 (0, 0))) : v.ownBlock ≠ some g := by
  rcases ho.2 with ⟨rfl, _⟩ | ⟨b, cap, cur, rfl, _, hh, _⟩
  · simp [Value.ownBlock]
  · intro h
    obtain rfl : b = g := by simpa [Value.ownBlock] using h
    rw [hg] at hh
    injection hh with hh
    injection hh with _ ht
    exact absurd ht (by decide)
theorem four_cells (w : World) (a b c d : Value) (t : TypeId) : ∀ j u, [a, b, c, d][j]? = some u → (w.alloc (.cells #[a, b, c, d] t)).cell? ((⟨w.heap.size, 0, none⟩ : Addr).add j) = some u := by
  intro j u hj
  have hlt : j < 4 := by have := (List.getElem?_eq_some_iff.1 hj).1; simpa using this
  have e : ((⟨w.heap.size, 0, none⟩ : Addr).add j) = ⟨w.heap.size, j, none⟩ := by
    unfold Addr.add
    split
    · rename_i h; subst h; rfl
    · simp
  rw [e, cell_of_row (w.alloc (.cells #[a, b, c, d] t)) w.heap.size j _ _ _ (heap_alloc_new w _), ← hj]
  simp
theorem own_form4 {w : World} {base e n : Nat} {v : Value} {xs : List Value} (h : w.ownsRow base e 4 v n xs) : ∃ A c, v = .slice A n c := by
  rcases h.2 with ⟨rfl, h0⟩ | ⟨b, cap, _, rfl, _⟩
  · exact ⟨none, 0, by rw [h0]⟩
  · exact ⟨_, _, rfl⟩
theorem part_full (s : ByteArray) (p q : Nat) (h : q < 4) : part s p 32 q = leo s (p + 8 * q) 8 := by
  unfold part
  rw [show min 8 (32 - 8 * q) = 8 by omega]

set_option maxHeartbeats 4000000 in
theorem getops_ok (s : ByteArray) (w : World) (hs : s.size ≤ 3000) (n : Nat) (h : s.size = 32 * n) :
    Calls Try.prog 9 #[.string s] w fun e w' => ∃ v, e = .returned (.agg #[v, .bool true]) ∧ w'.ownsRow w.heap.size 37 4 v n (cells4 (getL s)) ∧ Below w.heap.size w w' := by
  have h1 : ((s.size : Int) % 32 == 0) = true := by simp; omega
  have h2 : ((s.size : Int) % 32 != 0) = false := by simp; omega
  have HS := Lib.hid h
  clear h
  go_enter Try.func9, Try.ntmps9
  go_wp2
  go_loopw [3, 4] (fun v i wr => ∃ q : Nat, q ≤ n ∧ i = .int .i64 ((32 * q : Nat) : Int) ∧ wr.ownsRow w.heap.size 37 4 v q (cells4 (getFrom s 0 q)) ∧ wr.heap[w.heap.size]? = some (.cells #[.slice none 0 0, .bool false] 28 (0, 0)) ∧ Below w.heap.size w wr) (fun _ i _ => s.size - (intOf i).toNat)
  case atStart => exact ⟨0, Nat.zero_le _, rfl, World.ownsRow_nil _ _ _ _, heap_alloc_new _ _, (Below.refl _ _).alloc (Nat.le_refl _) _⟩
  case round =>
    obtain ⟨q, hq, rfl, ho, hres, hb⟩ := hrel
    have HO := Lib.hid ho
    have HR := Lib.hid hres
    have HB := Lib.hid hb
    clear ho hres hb
    obtain ⟨wo, rfl⟩ : ∃ wo : World, wo = wr := ⟨_, rfl⟩
    obtain ⟨p, hp⟩ : ∃ p, p = 32 * q := ⟨_, rfl⟩
    have HP := Lib.hid hp
    rw [← hp]
    by_cases hlt : q < n
    · have hps : p + 32 ≤ s.size := by have := HS.out; omega
      clear hp
      have hdec : decide (p < s.size) = true := by simp; omega
      have P0 : Hid (∀ q, part s p 0 q = 0) := fun q => by unfold part; rw [show min 8 (0 - 8 * q) = 0 by omega]; rfl
      go_wp2
      go_loopw [6] (fun j wx => ∃ k : Nat, k ≤ 32 ∧ j = .int .i64 (k : Int) ∧ wx.heap[wo.heap.size]? = some (.cells #[.int .u64 (part s p k 0), .int .u64 (part s p k 1), .int .u64 (part s p k 2), .int .u64 (part s p k 3)] 43 (0, 0)) ∧ Below wo.heap.size wo wx) (fun j _ => 32 - (intOf j).toNat)
      case atStart => exact ⟨0, by omega, rfl, by rw [P0.out, P0.out, P0.out, P0.out]; exact heap_alloc_new _ _, (Below.refl _ _).alloc (Nat.le_refl _) _⟩
      case round =>
        obtain ⟨k, hk, rfl, harr, hbx⟩ := hrel
        have HA := Lib.hid harr
        have HX := Lib.hid hbx
        clear harr hbx
        by_cases hk2 : k < 32
        · have c0 : wr.cell? ⟨wo.heap.size, k / 8, none⟩ = some (.int .u64 (part s p k (k / 8))) := by
            rw [cell_of_row wr wo.heap.size (k / 8) _ _ _ HA.out]
            rcases (show k / 8 = 0 ∨ k / 8 = 1 ∨ k / 8 = 2 ∨ k / 8 = 3 by omega) with e | e | e | e <;> rw [e] <;> rfl
          have f0 := frozen_of_row wr wo.heap.size (k / 8) _ _ HA.out
          have hi : p + k < s.size := by omega
          have hk3 : (k : Int) / 8 < 4 := by omega
          have hk4 : k / 8 < 4 := by omega
          have hk5 : (0 : Int) ≤ (k : Int) / 8 := by omega
          have hi1 : (p : Int) + (k : Int) < (s.size : Int) := by omega
          have hi2 : (0 : Int) ≤ (p : Int) + (k : Int) := by omega
          have hi3 : ((p : Int) + (k : Int)).toNat = p + k := by omega
          have hi4 : IntKind.i64.wrap ((p : Int) + (k : Int)) = (p : Int) + (k : Int) := IntWalk.i64_in _ (by omega)
          have hk6 : IntKind.i64.wrap ((k : Int) / 8) = (k : Int) / 8 := IntWalk.i64_in _ (by omega)
          have hk7 : ((k : Int) / 8).toNat = k / 8 := by omega
          go_wp2
          go_region
          go_wp2
          go_roundw
          case rel => exact ⟨k + 1, by omega, by go_num, part_store wr s p k _ hk2 hi HA.out, (HX.out.setCell (Nat.le_refl _) _).drew⟩
          case measure => simp [intOf]; omega
        · obtain rfl : k = 32 := by omega
          have harr := HA.out
          rw [part_full s p 0 (by omega), part_full s p 1 (by omega), part_full s p 2 (by omega), part_full s p 3 (by omega)] at harr
          have c0 := cell_of_row wr wo.heap.size 0 _ _ _ harr
          have c1 := cell_of_row wr wo.heap.size 1 _ _ _ harr
          have c2 := cell_of_row wr wo.heap.size 2 _ _ _ harr
          have c3 := cell_of_row wr wo.heap.size 3 _ _ _ harr
          clear harr
          obtain ⟨i0, hi0, hz0, hz1, hz2⟩ := info_parts info37
          have O1 := Lib.hid (own_keep HO.out HX.out)
          have hq2 : q ≤ 93 := by have := HS.out; omega
          have HSZ := Lib.hid HX.out.size
          have HBS := Lib.hid HB.out.size
          go_wp2_with (at_builtin; refine wpList_append_own_at _ rfl (.tmp 38) (.tmp 52) 22 rfl w.heap.size 37 i0 _ 4 32 Try.underlying22 hi0 hz0 hz1 hz2 rfl (by omega) _ q _ rfl (O1.out.alloc _) ⟨wr.heap.size, 0, none⟩ 1 1 [.int .i64 (wrap64 (leo s p 8)), .int .i64 (wrap64 (leo s (p + 8) 8)), .int .i64 (wrap64 (leo s (p + 16) 8)), .int .i64 (wrap64 (leo s (p + 24) 8))] rfl rfl (four_cells _ _ _ _ _ _) (by simp [Value.oneCell']) (by unfold maxLen; omega) (by omega) (by have := HSZ.out; have := HBS.out; simp; omega) ?_; intro v1 w1 ho hg _ hat; have HO1 := Lib.hid ho; have HG := Lib.hid hg; have HAT := Lib.hid hat; obtain ⟨A1, cc1, rfl⟩ := own_form4 ho; clear ho hg hat)
          go_roundw
          case rel =>
            refine ⟨q + 1, by omega, by have := HP.out; go_num, ?_, ?_, ?_⟩
            · have h := HO1.out
              have e : cells4 (getFrom s 0 (q + 1)) = cells4 (getFrom s 0 q) ++ [.int .i64 (wrap64 (leo s p 8)), .int .i64 (wrap64 (leo s (p + 8) 8)), .int .i64 (wrap64 (leo s (p + 16) 8)), .int .i64 (wrap64 (leo s (p + 24) 8))] := by
                rw [getFrom_snoc, HP.out, Nat.zero_add]
                unfold cells4
                rw [List.flatMap_append]
                rfl
              rw [e]; exact h
            · have h0 := (HX.out.block _ (lt_of_block HR.out)).trans HR.out
              have hne := own_ne28 O1.out h0
              have hlt2 := lt_of_block h0
              exact (HG.out.block _ (by simp; omega) (fun e => hne e.symm)).trans ((Below.heap_alloc _ _ _ hlt2).trans h0)
            · have b1 : Below w.heap.size w wr := HB.out.trans (HX.out.mono HBS.out)
              have hsz := HSZ.out
              have hbs := HBS.out
              exact (b1.alloc (by omega) _).grown HG.out (by simp; omega) (fun k hk => (O1.out.lt k hk).1)
          case measure => have := HP.out; simp [intOf]; omega
    · obtain rfl : q = n := by omega
      obtain ⟨A, c, rfl⟩ := own_form4 HO.out
      have r0 := cell_of_row wo w.heap.size 0 _ _ _ HR.out
      have r1 := cell_of_row wo w.heap.size 1 _ _ _ HR.out
      have f0 := frozen_of_row wo w.heap.size 0 _ _ HR.out
      have f1 := frozen_of_row wo w.heap.size 1 _ _ HR.out
      have hdec : decide (p < s.size) = false := by have := HS.out; have := HP.out; simp; omega
      have hnlt : ¬ p < s.size := by have := HS.out; have := HP.out; omega
      clear hp
      have hW1 : (wo.setCell ⟨w.heap.size, 0, none⟩ (.slice A q c)).heap[w.heap.size]? = some (.cells #[.slice A q c, .bool false] 28 (0, 0)) := by
        rw [heap_setCell_same wo w.heap.size 0 _ _ _ HR.out]; rfl
      have hW : ((wo.setCell ⟨w.heap.size, 0, none⟩ (.slice A q c)).setCell ⟨w.heap.size, 1, none⟩ (.bool true)).heap[w.heap.size]? = some (.cells #[.slice A q c, .bool true] 28 (0, 0)) := by
        rw [heap_setCell_same _ w.heap.size 1 _ _ _ hW1]; rfl
      have hne := own_ne28 HO.out HR.out
      have ho2 := ownsRow_setCell_other (a := ⟨w.heap.size, 1, none⟩) (ownsRow_setCell_other (a := ⟨w.heap.size, 0, none⟩) HO.out hne (.slice A q c)) hne (.bool true)
      have q0 := cell_of_row _ w.heap.size 0 _ _ _ hW
      have q1 := cell_of_row _ w.heap.size 1 _ _ _ hW
      have e : getL s = getFrom s 0 q := by unfold getL; rw [HS.out]; congr 1; omega
      have hbel : Below w.heap.size w ((wo.setCell ⟨w.heap.size, 0, none⟩ (.slice A q c)).setCell ⟨w.heap.size, 1, none⟩ (.bool true)) := (HB.out.setCell (Nat.le_refl _) _).setCell (Nat.le_refl _) _
      have Q0 := Lib.hid q0
      have Q1 := Lib.hid q1
      have E := Lib.hid e
      have O2 := Lib.hid ho2
      have BL := Lib.hid hbel
      clear hW1 hW ho2 q0 q1 e hbel hne
      go_wp2
      refine bodyPost_ret (v := .agg #[.slice A q c, .bool true]) ?_ rfl ⟨_, rfl, by rw [E.out]; exact O2.out, BL.out⟩
      have q0 := Q0.out
      have q1 := Q1.out
      simp [results, Try.results9, go_sem, q0, q1]
end Go.Proofs.Ytkandpfaonlncaa.Fns
