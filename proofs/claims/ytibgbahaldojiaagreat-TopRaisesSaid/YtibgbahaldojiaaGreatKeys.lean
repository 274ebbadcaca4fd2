/- The keys of the map of small pages, sorted: at no key and at one. -/
import Derived.Shelf.SlIterI.Sorted
import Derived.Ground.GgzProg
import Derived.Test.YtibgbahaldojiaaGreatShelf
import Derived.Test.YtibgbahaldojiaaGreatShelfG
import Derived.Test.YtibgbahaldojiaaGreatSpace
namespace Go.Proofs
open Go.RowKit Go.Maps Go.Sort Go.Shelf
theorem Tryz.sortsA (m : Nat) : AnyZI.SortsIn Tryz.prog Tryz.sortedA_ren Fence.wide m :=
  ⟨fun blk off cap ss W hH hblk hsz => callsIn_wide.2 (Tryz.slices_Sort_int blk off cap ss W hH hblk hsz),
   fun p cap W => callsIn_wide.2 (Tryz.slices_Sort_int_none p cap W)⟩
namespace YtibgbahaldojiaaGreat.Fns
open Go Go.RowKit
open Classical in
/-- A reader of elements that takes one alone. -/
noncomputable def elemIs (V : Value) (v : Value) : Option (DataW Unit × List MemPlace) := if v = V then some (.nil, []) else none
theorem elemIs_inv {V v : Value} {z : DataW Unit × List MemPlace} (h : elemIs V v = some z) : v = V := by
  unfold elemIs at h
  split at h
  · assumption
  · cases h
theorem own_none (w : World) (m ck : Nat) (h : w.heap[m]? = some (.map #[] ck)) (V : Value) : w.ownsMap Tryz.prog 3 (elemIs V) m 0 (.map []) :=
  ⟨#[], ck, h, ⟨by simp, ⟨by simp, by simp, by simp⟩, by simp⟩, by simp, by simp⟩
theorem own_one (w : World) (m ck born : Nat) (V : Value) (h : w.heap[m]? = some (.map #[⟨.int .i64 1, V, born⟩] ck)) (hb : born < ck) : w.ownsMap Tryz.prog 3 (elemIs V) m 1 (.map [(.int .i64 1, .nil)]) := by
  have hk : keyOf Tryz.prog 3 (.int .i64 1) = some (.int .i64 1) := Maps.keyOf_int_mk Tryz.underlying3 (by decide)
  have hr : WideElems.rd Tryz.prog 3 (elemIs V) ⟨.int .i64 1, V, born⟩ = some (.int .i64 1, .nil) := by simp [WideElems.rd, hk, elemIs]
  refine ⟨_, ck, h, ⟨by simp [maxLen], ⟨by simpa using hb, by simp, by simp⟩, by simpa using ⟨_, _, hr⟩⟩, by simp, ?_⟩
  simp [WideElems.rg, hr, DataW.insert]
theorem keys_c (w : World) (m : Nat) : Calls Tryz.prog 215 #[.map (some m)] w fun e w' => e = .returned (.func (.func 220) #[] #[.pointer (some ⟨w.heap.size, 0, none⟩)]) ∧ w' = w.alloc (.cells #[.map (some m)] 147) :=
  (callsIn_wide (n := 5)).1 (AnyZI.keys_in Tryz.keysA Fence.wide 5 trivial rfl (some m) w)
theorem sorted_c (w : World) (m n : Nat) (V : Value) (D : DataW Unit) (hown : w.ownsMap Tryz.prog 3 (elemIs V) m n D) (hn : Maps.size D ≤ 10) :
    Calls Tryz.prog 214 #[.func (.func 220) #[] #[.pointer (some ⟨w.heap.size, 0, none⟩)]] (w.alloc (.cells #[.map (some m)] 147)) fun e w' => ∃ (v : Value) (ss : List Int), e = .returned v ∧ ss.Perm (intKeys D) ∧ w'.ownsRow w.heap.size 3 1 v ss.length ((ss.mergeSort (fun x y => decide (x ≤ y))).map (Value.int .i64)) ∧ (v = .slice none 0 0 ↔ ss = []) ∧ Below w.heap.size w w' := by
  refine (callsIn_wide (n := 5)).1 ?_
  have hbl := hown.lt
  have hseq : SeqGives Fence.wide 2 Tryz.prog 220 #[.pointer (some ⟨w.heap.size, 0, none⟩)] encZ (fun ss => ss.Perm (intKeys D)) (Maps.size D) (w.alloc (.cells #[.map (some m)] 147)) :=
    AnyZI.keys_gives (ρ := Tryz.keysA_ren) { Tryz.keysA with } Fence.wide _ trivial rfl (by omega) w.heap.size m n D _ (by simp) (by simp) (hown.alloc _)
  have cS := AnyZI.sorted_in Tryz.sortedA Fence.wide 5 trivial trivial trivial trivial rfl (by omega) (Tryz.sortsA _) (enters_of Tryz.func112 (by kernel_rfl) rfl) 220 #[.pointer (some ⟨w.heap.size, 0, none⟩)] trivial (enters_of Tryz.func220 (by kernel_rfl) rfl) _ _ (by unfold maxLen; omega) (by omega) _ hseq
  change CallsIn _ _ Tryz.prog 214 _ _ _ at cS
  refine cS.mono ?_
  rintro e w' ⟨v, ss, rfl, hS, hrow, hnil, hb⟩
  exact ⟨v, ss, rfl, hS, ownsRow_base_a hrow (by simp), hnil, ((Below.refl _ w).alloc (Nat.le_refl _) _).trans (hb.mono (by simp))⟩
theorem sorted0_c (w : World) (B m ck : Nat) (hB : w.heap.size = B) (h : w.heap[m]? = some (.map #[] ck)) :
    Calls Tryz.prog 214 #[.func (.func 220) #[] #[.pointer (some ⟨B, 0, none⟩)]] (w.alloc (.cells #[.map (some m)] 147)) fun e w' => e = .returned (.slice none 0 0) ∧ Below w.heap.size w w' := by
  subst hB
  refine (sorted_c w m 0 .nilFunc _ (own_none w m ck h .nilFunc) (by simp [Maps.size])).mono ?_
  rintro e w' ⟨v, ss, rfl, hp, _, hn, hb⟩
  exact ⟨by rw [hn.2 (by simpa [intKeys] using hp)], hb⟩
theorem sorted1_c (w : World) (B m ck born : Nat) (V : Value) (hB : w.heap.size = B) (h : w.heap[m]? = some (.map #[⟨.int .i64 1, V, born⟩] ck)) (hb : born < ck) :
    Calls Tryz.prog 214 #[.func (.func 220) #[] #[.pointer (some ⟨B, 0, none⟩)]] (w.alloc (.cells #[.map (some m)] 147)) fun e w' => ∃ g c, e = .returned (.slice (some ⟨g, 0, none⟩) 1 c) ∧ w'.cell? ⟨g, 0, none⟩ = some (.int .i64 1) ∧ Below w.heap.size w w' := by
  subst hB
  refine (sorted_c w m 1 V _ (own_one w m ck born V h hb) (by simp [Maps.size])).mono ?_
  rintro e w' ⟨v, ss, rfl, hp, hrow, _, hb⟩
  obtain rfl : ss = [1] := by simpa [intKeys, Go.intOf] using hp
  have h2 := hrow.2
  obtain ⟨g, c, rfl⟩ : ∃ g c, v = .slice (some ⟨g, 0, none⟩) 1 c := by
    rcases h2 with ⟨_, h0⟩ | ⟨g, c, _, rfl, _⟩
    · simp at h0
    · exact ⟨g, c, rfl⟩
  exact ⟨g, c, rfl, by have := hrow.cellAt 0 (by simp); simpa using this, hb⟩
end YtibgbahaldojiaaGreat.Fns
end Go.Proofs
