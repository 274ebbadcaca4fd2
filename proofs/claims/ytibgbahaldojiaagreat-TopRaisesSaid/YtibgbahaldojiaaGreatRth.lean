/- The handlers, and Do. -/
import Derived.Test.YtibgbahaldojiaaGreatRtr
namespace Go.Proofs.YtibgbahaldojiaaGreat.Fns
open Go Go.RowKit
theorem list_c (w : World) (r : Nat) (k : Int) : Calls Tryz.prog 21 #[.pointer (some ⟨r, 0, none⟩), .int .i64 k] w fun e w' => e = .returned (.func (.func 46) #[] #[.pointer (some ⟨w.heap.size, 0, none⟩), .pointer (some ⟨w.heap.size + 1, 0, none⟩)]) ∧ w' = (w.alloc (.cells #[.pointer (some ⟨r, 0, none⟩)] 22)).alloc (.cells #[.int .i64 k] 3) := by
  go_enter Tryz.func21, Tryz.ntmps21
  go_wp2
  go_ret
  exact ⟨rfl, rfl⟩
/-- A map in the making: its entries; what was there stays; other new rows. -/
structure Hm (w0 w' : World) (es : Array MapEntry) (ck : Nat) (rows : List (Nat × Obj)) : Prop where
  map : w'.heap[w0.heap.size]? = some (.map es ck)
  below : Below w0.heap.size w0 w'
  rows : ∀ p ∈ rows, w'.heap[p.1]? = some p.2 ∧ p.1 ≠ w0.heap.size
theorem Hm.made (w : World) : Hm w (w.alloc (.map #[] 0)) #[] 0 [] := ⟨heap_alloc_new _ _, (Below.refl _ _).alloc (Nat.le_refl _) _, fun _ h => by cases h⟩
theorem Hm.add {w0 w' : World} {es : Array MapEntry} {ck : Nat} {rows : List (Nat × Obj)} (h : Hm w0 w' es ck rows) (o : Obj) (k : Nat) (hk : w'.heap.size = k) : Hm w0 (w'.alloc o) es ck ((k, o) :: rows) := by
  subst hk
  have hb : Below w'.heap.size w' (w'.alloc o) := (Below.refl _ _).alloc (Nat.le_refl _) _
  refine ⟨(hb.block _ (lt_of_block h.map)).trans h.map, h.below.trans (hb.mono h.below.size), fun p hp => ?_⟩
  rcases List.mem_cons.1 hp with rfl | hp
  · exact ⟨heap_alloc_new _ _, fun e => absurd (lt_of_block h.map) (by simp at e; omega)⟩
  · obtain ⟨h1, h2⟩ := h.rows p hp
    exact ⟨(hb.block _ (lt_of_block h1)).trans h1, h2⟩
theorem Hm.ins {w0 w' : World} {es : Array MapEntry} {ck : Nat} {rows : List (Nat × Obj)} (h : Hm w0 w' es ck rows) (es' : Array MapEntry) (ck' : Nat) : Hm w0 (setB w' w0.heap.size (.map es' ck')) es' ck' rows := by
  have hf := frame_block (w := w') w0.heap.size (.map es' ck')
  refine ⟨block_at _ h.map, h.below.trans (hf.below h.below.size (fun k _ e => by rw [e]; exact Nat.le_refl _)), fun p hp => ?_⟩
  obtain ⟨h1, h2⟩ := h.rows p hp
  exact ⟨hf.heap h1 h2, h2⟩
theorem Hm.step {w0 w' : World} {es : Array MapEntry} {ck : Nat} {rows : List (Nat × Obj)} (h : Hm w0 w' es ck rows) (k : Int) (v : Value) (hf : Instr.findNow (.int .i64) (.int .i64 k) es.toList 0 = some none) :
    ∃ w2, (Instr.mapUpdate 45 (.map (some w0.heap.size)) (.int .i64 k) v).run Tryz.prog w' = .ok () w2 ∧ Hm w0 w2 (es.push ⟨.int .i64 k, v, ck⟩) (ck + 1) rows :=
  ⟨_, update_new Tryz.underlying45 w' h.map k v hf, h.ins _ _⟩
theorem Hm.list {w0 w' : World} {es : Array MapEntry} {ck : Nat} {rows : List (Nat × Obj)} (h : Hm w0 w' es ck rows) (r : Nat) (k : Int) :
    ∃ w2 g1 g2, (Calls Tryz.prog 21 #[.pointer (some ⟨r, 0, none⟩), .int .i64 k] w' fun e w'' => e = .returned (.func (.func 46) #[] #[.pointer (some ⟨g1, 0, none⟩), .pointer (some ⟨g2, 0, none⟩)]) ∧ w2 = w'') ∧ Hm w0 w2 es ck ((g2, .cells #[.int .i64 k] 3) :: (g1, .cells #[.pointer (some ⟨r, 0, none⟩)] 22) :: rows) :=
  ⟨_, w'.heap.size, w'.heap.size + 1, (list_c w' r k).mono fun _ _ q => ⟨q.1, q.2.symm⟩, (h.add _ _ rfl).add _ _ (by simp)⟩
/-- The handlers' entries. -/
def hes (r g1 g2 g3 g4 : Nat) : Array MapEntry := #[⟨.int .i64 1, (.func (.func 19) #[.pointer (some ⟨r, 0, none⟩)] #[]), 0⟩, ⟨.int .i64 2, (.func (.func 20) #[.pointer (some ⟨r, 0, none⟩)] #[]), 1⟩, ⟨.int .i64 3, (.func (.func 46) #[] #[.pointer (some ⟨g1, 0, none⟩), .pointer (some ⟨g2, 0, none⟩)]), 2⟩, ⟨.int .i64 4, (.func (.func 46) #[] #[.pointer (some ⟨g3, 0, none⟩), .pointer (some ⟨g4, 0, none⟩)]), 3⟩, ⟨.int .i64 5, (.func (.func 22) #[.pointer (some ⟨r, 0, none⟩)] #[]), 4⟩, ⟨.int .i64 6, (.func (.func 23) #[.pointer (some ⟨r, 0, none⟩)] #[]), 5⟩, ⟨.int .i64 7, (.func (.func 24) #[.pointer (some ⟨r, 0, none⟩)] #[]), 6⟩, ⟨.int .i64 8, (.func (.func 25) #[.pointer (some ⟨r, 0, none⟩)] #[]), 7⟩, ⟨.int .i64 9, (.func (.func 26) #[.pointer (some ⟨r, 0, none⟩)] #[]), 8⟩, ⟨.int .i64 10, (.func (.func 27) #[.pointer (some ⟨r, 0, none⟩)] #[]), 9⟩, ⟨.int .i64 11, (.func (.func 28) #[.pointer (some ⟨r, 0, none⟩)] #[]), 10⟩, ⟨.int .i64 12, (.func (.func 29) #[.pointer (some ⟨r, 0, none⟩)] #[]), 11⟩, ⟨.int .i64 13, (.func (.func 30) #[.pointer (some ⟨r, 0, none⟩)] #[]), 12⟩, ⟨.int .i64 14, (.func (.func 31) #[.pointer (some ⟨r, 0, none⟩)] #[]), 13⟩, ⟨.int .i64 15, (.func (.func 32) #[.pointer (some ⟨r, 0, none⟩)] #[]), 14⟩, ⟨.int .i64 16, (.func (.func 33) #[.pointer (some ⟨r, 0, none⟩)] #[]), 15⟩, ⟨.int .i64 17, (.func (.func 34) #[.pointer (some ⟨r, 0, none⟩)] #[]), 16⟩, ⟨.int .i64 18, (.func (.func 35) #[.pointer (some ⟨r, 0, none⟩)] #[]), 17⟩, ⟨.int .i64 19, (.func (.func 36) #[.pointer (some ⟨r, 0, none⟩)] #[]), 18⟩, ⟨.int .i64 20, (.func (.func 37) #[.pointer (some ⟨r, 0, none⟩)] #[]), 19⟩, ⟨.int .i64 21, (.func (.func 38) #[.pointer (some ⟨r, 0, none⟩)] #[]), 20⟩]
set_option maxRecDepth 100000 in
set_option maxHeartbeats 8000000 in
theorem handlers_c (w : World) (r : Nat) : Calls Tryz.prog 11 #[.pointer (some ⟨r, 0, none⟩)] w fun e w' => ∃ g1 g2 g3 g4, e = .returned (.map (some w.heap.size)) ∧ Hm w w' (hes r g1 g2 g3 g4) 21 [(g4, .cells #[.int .i64 3] 3), (g3, .cells #[.pointer (some ⟨r, 0, none⟩)] 22), (g2, .cells #[.int .i64 2] 3), (g1, .cells #[.pointer (some ⟨r, 0, none⟩)] 22)] := by
  have hmm := @run_makeMap Tryz.prog
  have m0 := Hm.made w
  obtain ⟨w1, u1, m1⟩ := m0.step 1 (.func (.func 19) #[.pointer (some ⟨r, 0, none⟩)] #[]) (by rfl)
  obtain ⟨w2, u2, m2⟩ := m1.step 2 (.func (.func 20) #[.pointer (some ⟨r, 0, none⟩)] #[]) (by rfl)
  obtain ⟨y3, g1, g2, c3, l3⟩ := m2.list r 2
  have L3 := Lib.hid c3
  obtain ⟨w3, u3, m3⟩ := l3.step 3 (.func (.func 46) #[] #[.pointer (some ⟨g1, 0, none⟩), .pointer (some ⟨g2, 0, none⟩)]) (by rfl)
  obtain ⟨y4, g3, g4, c4, l4⟩ := m3.list r 3
  have L4 := Lib.hid c4
  obtain ⟨w4, u4, m4⟩ := l4.step 4 (.func (.func 46) #[] #[.pointer (some ⟨g3, 0, none⟩), .pointer (some ⟨g4, 0, none⟩)]) (by rfl)
  obtain ⟨w5, u5, m5⟩ := m4.step 5 (.func (.func 22) #[.pointer (some ⟨r, 0, none⟩)] #[]) (by rfl)
  obtain ⟨w6, u6, m6⟩ := m5.step 6 (.func (.func 23) #[.pointer (some ⟨r, 0, none⟩)] #[]) (by rfl)
  obtain ⟨w7, u7, m7⟩ := m6.step 7 (.func (.func 24) #[.pointer (some ⟨r, 0, none⟩)] #[]) (by rfl)
  obtain ⟨w8, u8, m8⟩ := m7.step 8 (.func (.func 25) #[.pointer (some ⟨r, 0, none⟩)] #[]) (by rfl)
  obtain ⟨w9, u9, m9⟩ := m8.step 9 (.func (.func 26) #[.pointer (some ⟨r, 0, none⟩)] #[]) (by rfl)
  obtain ⟨w10, u10, m10⟩ := m9.step 10 (.func (.func 27) #[.pointer (some ⟨r, 0, none⟩)] #[]) (by rfl)
  obtain ⟨w11, u11, m11⟩ := m10.step 11 (.func (.func 28) #[.pointer (some ⟨r, 0, none⟩)] #[]) (by rfl)
  obtain ⟨w12, u12, m12⟩ := m11.step 12 (.func (.func 29) #[.pointer (some ⟨r, 0, none⟩)] #[]) (by rfl)
  obtain ⟨w13, u13, m13⟩ := m12.step 13 (.func (.func 30) #[.pointer (some ⟨r, 0, none⟩)] #[]) (by rfl)
  obtain ⟨w14, u14, m14⟩ := m13.step 14 (.func (.func 31) #[.pointer (some ⟨r, 0, none⟩)] #[]) (by rfl)
  obtain ⟨w15, u15, m15⟩ := m14.step 15 (.func (.func 32) #[.pointer (some ⟨r, 0, none⟩)] #[]) (by rfl)
  obtain ⟨w16, u16, m16⟩ := m15.step 16 (.func (.func 33) #[.pointer (some ⟨r, 0, none⟩)] #[]) (by rfl)
  obtain ⟨w17, u17, m17⟩ := m16.step 17 (.func (.func 34) #[.pointer (some ⟨r, 0, none⟩)] #[]) (by rfl)
  obtain ⟨w18, u18, m18⟩ := m17.step 18 (.func (.func 35) #[.pointer (some ⟨r, 0, none⟩)] #[]) (by rfl)
  obtain ⟨w19, u19, m19⟩ := m18.step 19 (.func (.func 36) #[.pointer (some ⟨r, 0, none⟩)] #[]) (by rfl)
  obtain ⟨w20, u20, m20⟩ := m19.step 20 (.func (.func 37) #[.pointer (some ⟨r, 0, none⟩)] #[]) (by rfl)
  obtain ⟨w21, u21, m21⟩ := m20.step 21 (.func (.func 38) #[.pointer (some ⟨r, 0, none⟩)] #[]) (by rfl)
  clear c3 c4
  have HM := Lib.hid m21
  clear m0 m1 m2 m3 m4 m5 m6 m7 m8 m9 m10 m11 m12 m13 m14 m15 m16 m17 m18 m19 m20 m21 l3 l4
  go_enter Tryz.func11, Tryz.ntmps11
  go_wp2_with (first
    | (go_at_call 21; refine L3.out.mono ?_; rintro e w' ⟨rfl, rfl⟩)
    | (go_at_call 21; refine L4.out.mono ?_; rintro e w' ⟨rfl, rfl⟩))
  refine bodyPost_ret (v := .map (some w.heap.size)) (by simp [results, Tryz.results11, go_sem]) rfl ⟨g1, g2, g3, g4, rfl, HM.out⟩
end Go.Proofs.YtibgbahaldojiaaGreat.Fns
