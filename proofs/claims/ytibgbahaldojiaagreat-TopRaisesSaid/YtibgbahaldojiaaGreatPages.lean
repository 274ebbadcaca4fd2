/- Heads of objects without a class, and the size of the smallest blocks. -/
/- Pages, and the blocks of a page. -/
import Derived.Test.YtibgbahaldojiaaGreatBitSet
namespace Go.Proofs.YtibgbahaldojiaaGreat.Fns
open Go Go.RowKit
theorem in_c (w : World) (b : Nat) (lo hi n : Int) (c0 : w.cell? ⟨b, 0, none⟩ = some (.int .i64 lo)) (c1 : w.cell? ⟨b, 1, none⟩ = some (.int .i64 hi)) (hn : lo ≤ n ∧ n ≤ hi) :
    Calls Tryz.prog 185 #[.int .i64 n, .slice (some ⟨b, 0, none⟩) 2 2] w fun e w' => e = .returned (.bool true) ∧ w = w' := by
  have d0 : decide (lo ≤ n) = true := by simpa using hn.1
  have d1 : decide (n ≤ hi) = true := by simpa using hn.2
  clear hn
  go_enter Tryz.func185, Tryz.ntmps185
  go_wp2
  go_loopw [5] (fun i wr => i = .int .i64 0 ∧ wr = w) (fun i _ => 2 - (intOf i).toNat)
  case atStart => exact ⟨rfl, rfl⟩
  case round =>
    obtain ⟨rfl, rfl⟩ := hrel
    go_wp2
    go_ret
    exact ⟨rfl, rfl⟩
/-- The head of an object without a class; its word. -/
def hd (k len : Int) (fin : Bool) : Value := .agg #[.int .i64 k, .int .i64 0, .int .i64 len, .bool fin]
def hw (k len : Int) (fin : Bool) : Int := k + 65536 * len + if fin then 8 else 0
theorem in_at (w : World) (b : Nat) (lo hi : Int) (hb : w.heap.size = b) : (w.alloc (.cells #[.int .i64 lo, .int .i64 hi] 3)).cell? ⟨b, 0, none⟩ = some (.int .i64 lo) ∧ (w.alloc (.cells #[.int .i64 lo, .int .i64 hi] 3)).cell? ⟨b, 1, none⟩ = some (.int .i64 hi) := by
  subst hb
  exact ⟨cell_of_row _ _ 0 _ _ _ (heap_alloc_new w _), cell_of_row _ _ 1 _ _ _ (heap_alloc_new w _)⟩
theorem box_head (w : World) (k len : Int) (fin : Bool) : (w.alloc (.cells #[.int .i64 k, .int .i64 0, .int .i64 len, .bool fin] 111)).cell? ⟨w.heap.size, 0, none⟩ = some (.int .i64 k) ∧ (w.alloc (.cells #[.int .i64 k, .int .i64 0, .int .i64 len, .bool fin] 111)).cell? ⟨w.heap.size, 1, none⟩ = some (.int .i64 0) ∧
    (w.alloc (.cells #[.int .i64 k, .int .i64 0, .int .i64 len, .bool fin] 111)).cell? ⟨w.heap.size, 2, none⟩ = some (.int .i64 len) ∧ (w.alloc (.cells #[.int .i64 k, .int .i64 0, .int .i64 len, .bool fin] 111)).cell? ⟨w.heap.size, 3, none⟩ = some (.bool fin) :=
  ⟨cell_of_row _ _ 0 _ _ _ (heap_alloc_new w _), cell_of_row _ _ 1 _ _ _ (heap_alloc_new w _), cell_of_row _ _ 2 _ _ _ (heap_alloc_new w _), cell_of_row _ _ 3 _ _ _ (heap_alloc_new w _)⟩
set_option maxRecDepth 100000 in
set_option maxHeartbeats 1000000 in
theorem hMay_c (w : World) (k len : Int) (fin : Bool) (hk : k = 2 ∨ k = 3) (hl : 0 ≤ len ∧ len ≤ 1023) : Calls Tryz.prog 149 #[hd k len fin] w fun e w' => e = .returned (.bool true) ∧ Below w.heap.size w w' := by
  unfold hd
  rcases hk with rfl | rfl
  all_goals
    go_enter Tryz.func149, Tryz.ntmps149
    go_wp2_with (go_at_call 185; first
      | (have _ := HU; with_reducible refine (in_c _ (w.heap.size + 1 + 1) 0 0 0 (in_at _ _ 0 0 (by simp)).1 (in_at _ _ 0 0 (by simp)).2 ⟨Int.le_refl _, Int.le_refl _⟩).mono ?_; rintro e w' ⟨rfl, rfl⟩)
      | (with_reducible refine (in_c _ (w.heap.size + 1) 0 1023 len (in_at _ _ 0 1023 (by simp)).1 (in_at _ _ 0 1023 (by simp)).2 hl).mono ?_; rintro e w' ⟨rfl, rfl⟩; have HU := Lib.hid True.intro))
    go_ret
    exact ⟨rfl, (((Below.refl _ _).alloc (Nat.le_refl _) _).alloc (by simp) _).alloc (by simp; omega) _⟩
set_option maxRecDepth 100000 in
set_option maxHeartbeats 1000000 in
theorem hPut_c (w : World) (k len : Int) (fin : Bool) (hk : k = 2 ∨ k = 3) (hl : 0 ≤ len ∧ len ≤ 1023) : Calls Tryz.prog 125 #[hd k len fin] w fun e w' => e = .returned (.tuple #[.int .i64 (hw k len fin), .bool true]) ∧ Below w.heap.size w w' := by
  obtain ⟨b0, b1, b2, b3⟩ := box_head w k len fin
  have HB := Lib.hid (And.intro b0 (And.intro b1 (And.intro b2 b3)))
  have HBL := Lib.hid (show Below w.heap.size w (w.alloc (.cells #[.int .i64 k, .int .i64 0, .int .i64 len, .bool fin] 111)) from (Below.refl _ _).alloc (Nat.le_refl _) _)
  have HLT := Lib.hid (lt_of_block (heap_alloc_new w (.cells #[.int .i64 k, .int .i64 0, .int .i64 len, .bool fin] 111)))
  obtain ⟨l0, l1⟩ := hl
  have hk2 : 2 ≤ k ∧ k ≤ 3 := by omega
  have HK := Lib.hid hk
  obtain ⟨k0, k1⟩ := hk2
  clear hk
  unfold hw hd
  cases fin
  · go_enter Tryz.func125, Tryz.ntmps125
    go_wp2_with (go_at_call 149; refine (hMay_c _ k len _ HK.out ⟨l0, l1⟩).mono ?_; rintro e w1 ⟨rfl, hb⟩; have HB1 := Lib.hid hb; have b0 := (hb.cell (p := ⟨w.heap.size, 0, none⟩) HLT.out).trans HB.out.1; have b1 := (hb.cell (p := ⟨w.heap.size, 1, none⟩) HLT.out).trans HB.out.2.1; have b2 := (hb.cell (p := ⟨w.heap.size, 2, none⟩) HLT.out).trans HB.out.2.2.1; have b3 := (hb.cell (p := ⟨w.heap.size, 3, none⟩) HLT.out).trans HB.out.2.2.2; clear hb)
    refine bodyPost_ret (v := .tuple #[.int .i64 (k + 65536 * len + 0), .bool true]) (by simp [results, Tryz.results125, go_sem]) rfl ⟨by simp, HBL.out.trans (HB1.out.mono HBL.out.size)⟩
  · go_enter Tryz.func125, Tryz.ntmps125
    go_wp2_with (go_at_call 149; refine (hMay_c _ k len _ HK.out ⟨l0, l1⟩).mono ?_; rintro e w1 ⟨rfl, hb⟩; have HB1 := Lib.hid hb; have b0 := (hb.cell (p := ⟨w.heap.size, 0, none⟩) HLT.out).trans HB.out.1; have b1 := (hb.cell (p := ⟨w.heap.size, 1, none⟩) HLT.out).trans HB.out.2.1; have b2 := (hb.cell (p := ⟨w.heap.size, 2, none⟩) HLT.out).trans HB.out.2.2.1; have b3 := (hb.cell (p := ⟨w.heap.size, 3, none⟩) HLT.out).trans HB.out.2.2.2; clear hb)
    refine bodyPost_ret (v := .tuple #[.int .i64 (k + 65536 * len + 8), .bool true]) (by simp [results, Tryz.results125, go_sem]) rfl ⟨by simp, HBL.out.trans (HB1.out.mono HBL.out.size)⟩
theorem fin4 (w1 : World) (k : Nat) (t : TypeId) (a b c d u0 u1 u2 u3 : Value) (hr : w1.heap[k]? = some (.cells #[a, b, c, d] t (0, 0))) :
    ((((w1.setCell ⟨k, 0, none⟩ u0).setCell ⟨k, 1, none⟩ u1).setCell ⟨k, 2, none⟩ u2).setCell ⟨k, 3, none⟩ u3).heap[k]? = some (.cells #[u0, u1, u2, u3] t (0, 0)) := by
  have h1 : (w1.setCell ⟨k, 0, none⟩ u0).heap[k]? = some (.cells #[u0, b, c, d] t (0, 0)) := by rw [heap_setCell_same w1 k 0 _ _ _ hr]; rfl
  have h2 : ((w1.setCell ⟨k, 0, none⟩ u0).setCell ⟨k, 1, none⟩ u1).heap[k]? = some (.cells #[u0, u1, c, d] t (0, 0)) := by rw [heap_setCell_same _ k 1 _ _ _ h1]; rfl
  have h3 : (((w1.setCell ⟨k, 0, none⟩ u0).setCell ⟨k, 1, none⟩ u1).setCell ⟨k, 2, none⟩ u2).heap[k]? = some (.cells #[u0, u1, u2, d] t (0, 0)) := by rw [heap_setCell_same _ k 2 _ _ _ h2]; rfl
  rw [heap_setCell_same _ k 3 _ _ _ h3]; rfl
theorem below_set4 {w w1 : World} (k : Nat) (u0 u1 u2 u3 : Value) (hk : w.heap.size ≤ k) (h : Below w.heap.size w w1) : Below w.heap.size w ((((w1.setCell ⟨k, 0, none⟩ u0).setCell ⟨k, 1, none⟩ u1).setCell ⟨k, 2, none⟩ u2).setCell ⟨k, 3, none⟩ u3) :=
  (((h.setCell (p := ⟨k, 0, none⟩) hk _).setCell (p := ⟨k, 1, none⟩) hk _).setCell (p := ⟨k, 2, none⟩) hk _).setCell (p := ⟨k, 3, none⟩) hk _
set_option maxRecDepth 100000 in
set_option maxHeartbeats 2000000 in
theorem hGet_c (w : World) (k len : Int) (fin : Bool) (x : Int) (hx : hw k len fin = x) (hk : k = 2 ∨ k = 3) (hl : 0 ≤ len ∧ len ≤ 1023) : Calls Tryz.prog 103 #[.int .i64 x] w fun e w' => e = .returned (.tuple #[hd k len fin, .bool true]) ∧ Below w.heap.size w w' := by
  have HX := Lib.hid hx
  have HK := Lib.hid hk
  have HL := Lib.hid hl
  have x0 : 0 ≤ x ∧ x ≤ 70000000 := by unfold hw at hx; split at hx <;> omega
  have e1 : x % 8 = k := by unfold hw at hx; split at hx <;> omega
  have e3 : x % 65536 / 16 = 0 := by unfold hw at hx; split at hx <;> omega
  have e4 : x / 65536 = len := by unfold hw at hx; split at hx <;> omega
  have e2 : (x / 8 % 2 == 1) = fin := by
    unfold hw at hx
    cases fin
    · simp only [Bool.false_eq_true, if_false] at hx; exact beq_eq_false_iff_ne.2 (by omega)
    · simp only [if_true] at hx; exact beq_iff_eq.2 (by omega)
  obtain ⟨x0, x1⟩ := x0
  have d0 : decide (x < 0) = false := by simp; omega
  have HB0 := Lib.hid (show (((w.alloc (.cells #[.int .i64 0, .int .i64 0, .int .i64 0, .bool false] 111)).alloc (.cells #[.int .i64 k, .int .i64 0, .int .i64 len, .bool fin] 111)).heap[w.heap.size]? = some (.cells #[.int .i64 0, .int .i64 0, .int .i64 0, .bool false] 111 (0, 0))) from (Below.heap_alloc _ _ _ (by simp)).trans (heap_alloc_new w _))
  have HB1 := Lib.hid (show (((w.alloc (.cells #[.int .i64 0, .int .i64 0, .int .i64 0, .bool false] 111)).alloc (.cells #[.int .i64 k, .int .i64 0, .int .i64 len, .bool fin] 111)).heap[w.heap.size + 1]? = some (.cells #[.int .i64 k, .int .i64 0, .int .i64 len, .bool fin] 111 (0, 0))) from by have := heap_alloc_new (w.alloc (.cells #[.int .i64 0, .int .i64 0, .int .i64 0, .bool false] 111)) (.cells #[.int .i64 k, .int .i64 0, .int .i64 len, .bool fin] 111); simpa using this)
  clear hx hk hl
  go_enter Tryz.func103, Tryz.ntmps103
  go_wp2_with (go_at_call 125; refine (hPut_c _ k len fin HK.out HL.out).mono ?_; rintro e w1 ⟨rfl, hb⟩; rw [HX.out]; have HB2 := Lib.hid hb; have hr := (hb.block _ (lt_of_block HB0.out)).trans HB0.out; have HR := Lib.hid hr; have hr2 := (hb.block _ (lt_of_block HB1.out)).trans HB1.out; have f0 := frozen_of_row _ _ 0 _ _ hr; have f1 := frozen_of_row _ _ 1 _ _ hr; have f2 := frozen_of_row _ _ 2 _ _ hr; have f3 := frozen_of_row _ _ 3 _ _ hr; have c0 := cell_of_row _ _ 0 _ _ _ hr; have c1 := cell_of_row _ _ 1 _ _ _ hr; have c2 := cell_of_row _ _ 2 _ _ _ hr; have c3 := cell_of_row _ _ 3 _ _ _ hr; have b0 := cell_of_row _ _ 0 _ _ _ hr2; have b1 := cell_of_row _ _ 1 _ _ _ hr2; have b2 := cell_of_row _ _ 2 _ _ _ hr2; have b3 := cell_of_row _ _ 3 _ _ _ hr2; clear hb hr hr2)
  have hF := fin4 w1 w.heap.size 111 _ _ _ _ (.int .i64 k) (.int .i64 0) (.int .i64 len) (.bool fin) HR.out
  have q0 := cell_of_row _ _ 0 _ _ _ hF
  have q1 := cell_of_row _ _ 1 _ _ _ hF
  have q2 := cell_of_row _ _ 2 _ _ _ hF
  have q3 := cell_of_row _ _ 3 _ _ _ hF
  have hbb : Below w.heap.size w ((w.alloc (.cells #[.int .i64 0, .int .i64 0, .int .i64 0, .bool false] 111)).alloc (.cells #[.int .i64 k, .int .i64 0, .int .i64 len, .bool fin] 111)) := ((Below.refl _ _).alloc (Nat.le_refl _) _).alloc (by simp) _
  refine bodyPost_ret (v := .tuple #[hd k len fin, .bool true]) (by simp [results, Tryz.results103, go_sem, q0, q1, q2, q3, hd]) rfl ⟨rfl, below_set4 _ _ _ _ _ (Nat.le_refl _) (hbb.trans (HB2.out.mono hbb.size))⟩
theorem sizes_c (w : World) : Calls Tryz.prog 187 #[] w fun e w' => e = .returned (.slice (some ⟨w.heap.size, 0, none⟩) 5 5) ∧ w' = w.alloc (.cells #[.int .i64 2, .int .i64 4, .int .i64 8, .int .i64 16, .int .i64 32] 3) := by
  go_enter Tryz.func187, Tryz.ntmps187
  go_wp2
  go_ret
  exact ⟨rfl, rfl⟩
theorem class2_c (w : World) : Calls Tryz.prog 186 #[.int .i64 2] w fun e w' => e = .returned (.int .i64 0) ∧ Below w.heap.size w w' := by
  have k0 := cell_of_row _ _ 0 _ _ _ (heap_alloc_new w (.cells #[.int .i64 2, .int .i64 4, .int .i64 8, .int .i64 16, .int .i64 32] 3))
  go_enter Tryz.func186, Tryz.ntmps186
  go_wp2_with (go_at_call 187; refine (sizes_c _).mono ?_; rintro e w' ⟨rfl, rfl⟩)
  go_loopw [3, 4, 9] (fun iv nv i wr => i = .int .i64 0 ∧ wr = w.alloc (.cells #[.int .i64 2, .int .i64 4, .int .i64 8, .int .i64 16, .int .i64 32] 3)) (fun _ _ i _ => 2 - (intOf i).toNat)
  case atStart => exact ⟨rfl, rfl⟩
  case round =>
    obtain ⟨rfl, rfl⟩ := hrel
    go_wp2
    go_ret
    exact ⟨rfl, (Below.refl _ _).alloc (Nat.le_refl _) _⟩
theorem block2_c (w : World) : Calls Tryz.prog 150 #[.int .i64 2] w fun e w' => e = .returned (.int .i64 2) ∧ Below w.heap.size w w' := by
  go_enter Tryz.func150, Tryz.ntmps150
  go_wp2_with (first
    | (go_at_call 186; refine (class2_c _).mono ?_; rintro e w1 ⟨rfl, hb⟩; have HB := Lib.hid hb; clear hb)
    | (go_at_call 187; refine (sizes_c w1).mono ?_; rintro e w' ⟨rfl, rfl⟩; have k0 := cell_of_row _ _ 0 _ _ _ (heap_alloc_new w1 (.cells #[.int .i64 2, .int .i64 4, .int .i64 8, .int .i64 16, .int .i64 32] 3))))
  go_ret
  exact ⟨rfl, HB.out.trans ((Below.refl _ _).alloc HB.out.size _)⟩
end Go.Proofs.YtibgbahaldojiaaGreat.Fns
namespace Go.Proofs.YtibgbahaldojiaaGreat.Fns
open Go Go.RowKit
theorem own_form {w : World} {v : Value} {base n : Nat} {xs : List Value} (h : w.ownsRow base 3 1 v n xs) : ∃ A c, v = .slice A n c := by
  rcases h.2 with ⟨rfl, h0⟩ | ⟨b, cap, _, rfl, _⟩
  · exact ⟨none, 0, by rw [h0]⟩
  · exact ⟨_, _, rfl⟩

/-- append of ints onto a slice of the call's own, at a plain list of operations. -/
theorem wpList_push {P : Program} (w : World) {ops : Array Oper} {rest : List Oper} {o : Oper} {a : Act} {Q : Exit → Act → World → Prop} (hgd : o.guard = none) (s x : Operand) (t : TypeId)
    (ho : o.op = .call { callee := .builtin .append, args := #[s, x], argTypes := #[t, t] })
    (base e : Nat) (i : TypeInfo) (ht : P.underlying t = some (.slice e)) (hi : P.info? e = some i) (hz : i.zero = some (.int .i64 0)) (hsize : i.size = 1) (hby : i.bytes = 8)
    (v : Value) (n : Nat) (xs : List Value) (hs : a.eval s = v) (hown : w.ownsRow base e 1 v n xs)
    (B : Nat) (A : Option Addr) (m c : Nat) (ys : List Int) (hx : a.eval x = .slice A m c) (hr : Ints w B A m ys) (hb : (n + m) * 8 ≤ 140737488355328) (hbase : base ≤ w.heap.size)
    (h : ∀ v' w', w'.ownsRow base e 1 v' (n + m) (xs ++ ys.map (Value.int .i64)) → w.grownBy w' v.ownBlock → (v'.ownBlock = v.ownBlock ∨ v'.ownBlock = some w.heap.size) → wpList P ops Q rest (a.put o.dst v') w') : wpList P ops Q (o :: rest) a w := by
  refine wpList_plain hgd fun K hK => ?_
  obtain ⟨v', w', hrun, a1, a2, a4⟩ := run_push (P := P) w base t o.type e i ht hi hz hsize hby v n xs hown B A m c ys hr hb hbase
  unfold Oper.wp execOp
  simp only [ho, resolve, invoke, builtin, Sem.run_bind, Sem.run_pure, Result.andThen_ok, List.map_toArray, List.map_cons, List.map_nil, hs, hx, hrun]
  exact hK _ _ (h v' w' a1 a2 a4)

theorem ints_one (w : World) (x : Int) : Ints (w.alloc (.cells #[.int .i64 x] 3)) (w.heap.size + 1) (some ⟨w.heap.size, 0, none⟩) 1 [x] :=
  ⟨rfl, fun _ => ⟨_, rfl, Nat.lt_succ_self _, fun j hj => by
    obtain rfl : j = 0 := by omega
    exact cell_of_row _ _ 0 _ _ _ (heap_alloc_new w _)⟩⟩
/-- Block p holds the pages: their bits. -/
structure Pg (w : World) (p b r n : Nat) (F : Nat → Bool) : Prop where
  box : w.heap[p]? = some (.cells #[.pointer (some ⟨b, 0, none⟩)] 198 (0, 0))
  bits : Bt w b r n F
section
variable {w w' : World} {p b r n : Nat} {F F' : Nat → Bool} {G : Nat → Prop}
theorem Pg.c0 (h : Pg w p b r n F) : w.cell? ⟨p, 0, none⟩ = some (.pointer (some ⟨b, 0, none⟩)) := cell_of_row _ _ 0 _ _ _ h.box
theorem Pg.frame (h : Pg w p b r n F) (hf : Frame w w' G) (hp : ¬ G p) (hb : ¬ G b) (hr : ¬ G r) : Pg w' p b r n F := ⟨hf.heap h.box hp, h.bits.frame hf hb hr⟩
theorem Pg.below (h : Pg w p b r n F) (hb : Below w.heap.size w w') : Pg w' p b r n F := h.frame (G := fun _ => False) (Frame.of_below hb) (fun e => e) (fun e => e) (fun e => e)
theorem Pg.turn (h : Pg w p b r n F) (h2 : Bt w' b r n F') (hf : Frame w w' (fun k => k = r)) : Pg w' p b r n F' := ⟨hf.heap h.box ((Rw.one h.box).ne h.bits.row (by decide)), h2⟩
end
theorem one_ints (x : Int) (j : Nat) (n : Nat) (hj : j < 1) (hx : 0 ≤ x ∧ x < n) : 0 ≤ ([x] : List Int).getD j 0 ∧ ([x] : List Int).getD j 0 < n := by
  obtain rfl : j = 0 := by omega
  exact hx
/-- Set of one place, told by a slice that was made for it. -/
theorem btSet1_c (w : World) {b r n : Nat} {F : Nat → Bool} (h : Bt w b r n F) (is : Bool) (i : Nat) (hi : i < n) (s : Nat) (c : Nat) (hs : w.heap[s]? = some (.cells #[.int .i64 (i : Int)] 3 (0, 0))) :
    Calls Tryz.prog 121 #[.pointer (some ⟨b, 0, none⟩), .bool is, .slice (some ⟨s, 0, none⟩) 1 c] w fun e w' => e = .returned (.int .i64 0) ∧ Bt w' b r n (put F i is) ∧ Frame w w' (fun k => k = r) := by
  refine (btSet_c w h is (some ⟨s, 0, none⟩) 1 c w.heap.size [(i : Int)] ⟨rfl, fun _ => ⟨_, rfl, lt_of_block hs, fun j hj => ?_⟩⟩ (Nat.le_refl _) (by omega) (fun j hj => one_ints _ j n hj (by omega)) (fun ad e => ?_)).mono ?_
  · obtain rfl : j = 0 := by omega
    exact cell_of_row _ _ 0 _ _ _ hs
  · injection e with e
    subst e
    exact (Rw.one hs).ne h.row (by decide)
  · rintro e w' ⟨rfl, h2, h3⟩
    exact ⟨rfl, by simpa [setL] using h2, h3⟩
theorem btSetR_c (w : World) {b r n B : Nat} {F : Nat → Bool} (h : Bt w b r n F) (is : Bool) (i : Nat) (hi : i < n) (s c : Nat) (hs : w.ownsRow B 3 1 (.slice (some ⟨s, 0, none⟩) 1 c) 1 [.int .i64 (i : Int)]) :
    Calls Tryz.prog 121 #[.pointer (some ⟨b, 0, none⟩), .bool is, .slice (some ⟨s, 0, none⟩) 1 c] w fun e w' => e = .returned (.int .i64 0) ∧ Bt w' b r n (put F i is) ∧ Frame w w' (fun k => k = r) := by
  have c0 : w.cell? ⟨s, 0, none⟩ = some (.int .i64 (i : Int)) := hs.cellAt 0 (by omega)
  obtain ⟨cr, hr, _⟩ := h.row
  refine (btSet_c w h is (some ⟨s, 0, none⟩) 1 c w.heap.size [(i : Int)] ⟨rfl, fun _ => ⟨_, rfl, World.block_lt_of_cell? w _ c0, fun j hj => ?_⟩⟩ (Nat.le_refl _) (by omega) (fun j hj => one_ints _ j n hj (by omega)) (fun ad e => ?_)).mono ?_
  · obtain rfl : j = 0 := by omega
    exact c0
  · injection e with e
    subst e
    intro e
    exact own_ne hs hr (by decide) (by simp only [Value.ownBlock]; rw [← e])
  · rintro e w' ⟨rfl, h2, h3⟩
    exact ⟨rfl, by simpa [setL] using h2, h3⟩
set_option maxHeartbeats 1000000 in
theorem pgNew_c (w : World) (n : Nat) (h1 : 1 ≤ n) (h2 : n ≤ 256) : Calls Tryz.prog 84 #[.int .i64 (n : Int)] w fun e w' => ∃ p b r, e = .returned (.tuple #[.pointer (some ⟨p, 0, none⟩), .int .i64 0]) ∧ Pg w' p b r n (put (fun _ => false) 0 true) ∧ Below w.heap.size w w' ∧ w.heap.size ≤ p ∧ w.heap.size ≤ b ∧ w.heap.size ≤ r := by
  have d1 : decide ((n : Int) < 1) = false := by simp; omega
  have d2 : decide ((256 : Int) < (n : Int)) = false := by simp; omega
  go_enter Tryz.func84, Tryz.ntmps84
  go_wp2_with (first
    | (go_at_call 120; refine (btNew_c _ n (by omega)).mono ?_; rintro e w1 ⟨rfl, hb, hbel⟩; have HB := Lib.hid hb; have HBL := Lib.hid hbel; have HB2 := Lib.hid (hb.below (w' := w1.alloc (.cells #[.int .i64 0] 3)) ((Below.refl _ _).alloc (Nat.le_refl _) _)); clear hb hbel)
    | (go_at_call 121; refine (btSet1_c _ HB2.out true 0 (by omega) w1.heap.size 1 (heap_alloc_new w1 _)).mono ?_; rintro e w2 ⟨rfl, hb, hf⟩; have HB3 := Lib.hid hb; have HF3 := Lib.hid hf; clear hb hf))
  have hbl : Below w.heap.size w w2 := HBL.out.trans (((Below.refl w.heap.size w1).alloc HBL.out.size _).trans (HF3.out.below (Nat.le_trans HBL.out.size (by simp)) (fun k _ e => by rw [e]; exact Nat.le_refl _)))
  refine bodyPost_ret (v := .tuple #[.pointer (some ⟨w2.heap.size, 0, none⟩), .int .i64 0]) (by simp [results, Tryz.results84, go_sem]) rfl ⟨w2.heap.size, w.heap.size + 1, w.heap.size, rfl, ⟨heap_alloc_new w2 _, HB3.out.below ((Below.refl _ _).alloc (Nat.le_refl _) _)⟩, hbl.alloc hbl.size _, hbl.size, by omega, Nat.le_refl _⟩
set_option maxHeartbeats 1000000 in
theorem row1_c (w : World) (i : Nat) (hi : i ≤ 100000) : Calls Tryz.prog 204 #[.int .i64 (i : Int), .int .i64 1] w fun e w' => ∃ s c, e = .returned (.slice (some ⟨s, 0, none⟩) 1 c) ∧ w'.ownsRow w.heap.size 3 1 (.slice (some ⟨s, 0, none⟩) 1 c) 1 [.int .i64 (i : Int)] ∧ Below w.heap.size w w' := by
  obtain ⟨i0, hi0, hz0, hz1, hz2⟩ := info_parts info3
  have INFO := Lib.hid (And.intro hi0 (And.intro hz0 (And.intro hz1 hz2)))
  clear hi0 hz0 hz1 hz2
  go_enter Tryz.func204, Tryz.ntmps204
  go_wp2
  go_loopw [5, 6, 8] (fun v iv k wr => (k = .int .i64 0 ∧ v = .slice none 0 0 ∧ wr = w) ∨ (k = .int .i64 1 ∧ ∃ s c, v = .slice (some ⟨s, 0, none⟩) 1 c ∧ wr.ownsRow w.heap.size 3 1 (.slice (some ⟨s, 0, none⟩) 1 c) 1 [.int .i64 (i : Int)] ∧ Below w.heap.size w wr)) (fun _ _ k _ => 1 - (intOf k).toNat)
  case atStart => exact .inl ⟨rfl, rfl, rfl⟩
  case round =>
    rcases hrel with ⟨rfl, rfl, rfl⟩ | ⟨rfl, s, c, rfl, ho, hb⟩
    · go_wp2_with (at_builtin; refine wpList_push _ rfl (.tmp 11) (.tmp 15) 51 rfl wr.heap.size 3 i0 Tryz.underlying51 INFO.out.1 INFO.out.2.1 INFO.out.2.2.1 INFO.out.2.2.2 (.slice none 0 0) 0 [] (by simp [Act.eval]) (World.ownsRow_nil _ _ _ _) (wr.heap.size + 1) (some ⟨wr.heap.size, 0, none⟩) 1 1 _ rfl (ints_one wr _) (by omega) (by simp) ?_; intro v2 w3 ho hg _; have HO := Lib.hid ho; have HG := Lib.hid hg; clear ho hg)
      obtain ⟨s, c, rfl⟩ : ∃ s c, v2 = .slice (some ⟨s, 0, none⟩) 1 c := by
        rcases HO.out.2 with ⟨_, h0⟩ | ⟨b, cp, _, h1, _⟩
        · omega
        · exact ⟨b, cp, h1⟩
      go_roundw
      case rel => exact .inr ⟨by go_num, s, c, rfl, by simpa using HO.out, ((Below.refl wr.heap.size wr).alloc (Nat.le_refl _) _).grown HG.out (by simp) (fun k hk => by cases hk)⟩
      case measure => simp [intOf]
    · go_wp2
      go_ret
      exact ⟨s, c, rfl, ho, hb⟩
set_option maxHeartbeats 1000000 in
theorem pgTake_c (w : World) {p b r n : Nat} {F : Nat → Bool} (h : Pg w p b r n F) (q : Nat) (hq : q < n) (h0 : F q = false) (h1 : ∀ j, j < q → F j = true) : Calls Tryz.prog 189 #[.pointer (some ⟨p, 0, none⟩), .int .i64 1] w fun e w' => e = .returned (.tuple #[.int .i64 (q : Int), .int .i64 0]) ∧ Pg w' p b r n (put F q true) ∧ Frame w w' (fun k => k = r) := by
  have H := Lib.hid h
  have k0 := h.c0
  have hm := h.bits.most
  have HZ := Lib.hid (show (∃ k : Nat, (q : Int) = (k : Int) ∧ k < n ∧ F k = false ∧ ∀ j : Nat, j < k → F j = true) ∨ ((q : Int) = -1 ∧ ∀ j : Nat, j < n → F j = true) from .inl ⟨q, rfl, hq, h0, h1⟩)
  have d0 : decide ((q : Int) < 0) = false := by simp
  clear h h0 h1
  go_enter Tryz.func189, Tryz.ntmps189
  go_wp2_with (go_at_call 206; refine (btRun_c _ H.out.bits _ HZ.out).mono ?_; rintro e w' ⟨rfl, rfl⟩)
  go_region_with (first
    | (go_at_call 204; refine (row1_c _ q (by omega)).mono ?_; rintro e w1 ⟨s, c, rfl, hr, hb⟩; have HR := Lib.hid hr; have HB := Lib.hid hb; have H1 := Lib.hid (H.out.below (w' := w1) ⟨hb.os, hb.tape, hb.output, hb.size, hb.block⟩); have k0 := H1.out.c0; clear hr hb)
    | (go_at_call 121; refine (btSetR_c _ H1.out.bits true q hq s c HR.out).mono ?_; rintro e w2 ⟨rfl, hb2, hf2⟩; have HB2 := Lib.hid hb2; have HF2 := Lib.hid hf2; clear hb2 hf2))
  all_goals
    go_wp2
    have hb : Below w.heap.size w w1 := ⟨HB.out.os, HB.out.tape, HB.out.output, HB.out.size, HB.out.block⟩
    refine bodyPost_ret (v := .tuple #[.int .i64 (q : Int), .int .i64 0]) (by simp [results, Tryz.results189, go_sem]) rfl ⟨rfl, H1.out.turn HB2.out HF2.out, (Frame.of_below hb).trans HF2.out (fun _ _ e => e)⟩
end Go.Proofs.YtibgbahaldojiaaGreat.Fns
