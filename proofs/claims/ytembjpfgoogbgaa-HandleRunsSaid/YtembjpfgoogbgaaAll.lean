/- All and Room. -/
import Derived.Test.YtembjpfgoogbgaaOps
namespace Go.Proofs.Ytembjpfgoogbgaa.Fns
open Go Go.RowKit

/-- append of values onto a slice of the call's own, as one step of a region. -/
theorem step_app {P : Program} {w : World} {ops : Array Oper} {o : Oper} {a : Act} {K : Act → World → Prop} {Q : Exit → Act → World → Prop} {E : Prop} (hgd : o.guard = none) (s x : Operand) (t : TypeId)
    (ho : o.op = .call { callee := .builtin .append, args := #[s, x], argTypes := #[t, t] })
    (base e : Nat) (i : TypeInfo) (z : Value) (size bytes : Nat) (ht : P.underlying t = some (.slice e)) (hi : P.info? e = some i) (hz : i.zero = some z) (hsize : i.size = size) (hby : i.bytes = bytes) (hzs : z.cells.size = size) (hsz : 0 < size)
    (v : Value) (n : Nat) (xs : List Value) (hs : a.eval s = v) (hown : w.ownsRow base e size v n xs)
    (ad : Addr) (m c : Nat) (news : List Value) (hx : a.eval x = .slice (some ad) m c) (hl : news.length = m * size) (hnews : ∀ j u, news[j]? = some u → w.cell? (ad.add j) = some u) (h1 : ∀ u ∈ news, u.oneCell' = true)
    (h63 : n + m ≤ maxLen) (hb : (n + m) * bytes ≤ 140737488355328) (hbase : base ≤ w.heap.size)
    (h : ∀ v' w', w'.ownsRow base e size v' (n + m) (xs ++ news) → w.grownBy w' v.ownBlock → (v'.ownBlock = v.ownBlock ∨ v'.ownBlock = some w.heap.size) → K (a.put o.dst v') w') :
    if Region.wanted o (yielded ops a.tmps) = true then Oper.wp P o a w K Q else E := by
  have hw : Region.wanted o (yielded ops a.tmps) = true := by simp [Region.wanted, hgd]
  rw [if_pos hw]
  obtain ⟨v', w', hrun, a1, a2, _, a4⟩ := run_append_own_at (P := P) w base t o.type e i z size bytes ht hi hz hsize hby hzs hsz v n xs hown ad m c news hl hnews h1 h63 hb hbase
  unfold Oper.wp execOp
  simp only [ho, resolve, invoke, builtin, Sem.run_bind, Sem.run_pure, Result.andThen_ok, List.map_toArray, List.map_cons, List.map_nil, hs, hx, hrun]
  exact h v' w' a1 a2 a4
theorem two_cells (w : World) (a b : Value) (t : TypeId) : ∀ j u, [a, b][j]? = some u → (w.alloc (.cells #[a, b] t)).cell? ((⟨w.heap.size, 0, none⟩ : Addr).add j) = some u := by
  intro j u hj
  have hlt : j < 2 := by have := (List.getElem?_eq_some_iff.1 hj).1; simpa using this
  have e : ((⟨w.heap.size, 0, none⟩ : Addr).add j) = ⟨w.heap.size, j, none⟩ := by
    unfold Addr.add
    split
    · rename_i h; subst h; rfl
    · simp
  rw [e, cell_of_row (w.alloc (.cells #[a, b] t)) w.heap.size j _ _ _ (heap_alloc_new w _), ← hj]
  simp
theorem form33 {w : World} {base n : Nat} {v : Value} {xs : List Value} (h : w.ownsRow base 33 2 v n xs) : ∃ A c, v = .slice A n c := by
  rcases h.2 with ⟨rfl, h0⟩ | ⟨b, cap, _, rfl, _⟩
  · exact ⟨none, 0, by rw [h0]⟩
  · exact ⟨_, _, rfl⟩
theorem info33 : (Try.prog.info? 33).map (fun i => (i.zero, i.size, i.bytes)) = some (some (.agg #[.int .i64 0, .int .i64 0]), 2, 16) := by kernel_rfl
/-- What holds, slot by slot, of the first n. -/
def allL (T A : Nat → Int) (n : Nat) : List (Int × Int) := ((List.range n).filter fun i => A i != 0).map fun i => (tell T i, A i)
theorem allL_succ (T A : Nat → Int) (n : Nat) : allL T A (n + 1) = allL T A n ++ (if A n = 0 then [] else [(tell T n, A n)]) := by
  unfold allL
  rw [List.range_succ, List.filter_append, List.map_append]
  by_cases h : A n = 0 <;> simp [h]
theorem allL_len (T A : Nat → Int) (n : Nat) : (allL T A n).length ≤ n := by
  unfold allL
  rw [List.length_map]
  exact Nat.le_trans (List.length_filter_le _ _) (by simp)
def heldCells (l : List (Int × Int)) : List Value := l.flatMap fun p => [.int .i64 p.1, .int .i64 p.2]
theorem heldCells_add (l : List (Int × Int)) (a b : Int) : heldCells (l ++ [(a, b)]) = heldCells l ++ [.int .i64 a, .int .i64 b] := by simp [heldCells]

theorem own_base {wr : World} {B e s n k : Nat} {u : Value} {ys : List Value} (h : wr.ownsRow B e s u n ys) (hk : u.ownBlock = some k) : B ≤ k := by
  rcases h.2 with ⟨h1, _⟩ | ⟨b, _, _, h1, hb, _⟩
  · rw [h1] at hk; cases hk
  · rw [h1] at hk
    obtain rfl : b = k := by simpa [Value.ownBlock] using hk
    exact hb
theorem all_step {w3 : World} {B : Nat} {T A : Nat → Int} {j L : Nat} {v : Value} {q aj : Int} (h0 : ¬ A j = 0) (ha : aj = A j) (hq : q = tell T j) (hL : L = (allL T A j).length)
    (h : w3.ownsRow B 33 2 v (L + 1) (heldCells (allL T A j) ++ [.int .i64 q, .int .i64 aj])) : w3.ownsRow B 33 2 v (allL T A (j + 1)).length (heldCells (allL T A (j + 1))) := by
  subst ha; subst hq; subst hL
  rw [allL_succ, if_neg h0, heldCells_add, List.length_append]
  exact h
set_option maxHeartbeats 4000000 in
theorem all_c (w : World) {g : Nat} {T A : Nat → Int} (h : Hs w g T A) :
    Calls Try.prog 22 #[.pointer (some ⟨g, 0, none⟩)] w fun e w' => ∃ v, e = .returned v ∧ w'.ownsRow w.heap.size 33 2 v (allL T A 512).length (heldCells (allL T A 512)) ∧ Below w.heap.size w w' := by
  have H := Lib.hid h
  obtain ⟨i0, hi0, hz0, hz1, hz2⟩ := info_parts info33
  have INFO := Lib.hid (And.intro hi0 (And.intro hz0 (And.intro hz1 hz2)))
  clear h hi0 hz0 hz1 hz2
  go_enter Try.func22, Try.ntmps22
  go_wp2
  go_loopw [3, 4, 7] (fun v iv i wr => ∃ (j : Nat), j ≤ 512 ∧ i = .int .i64 (j : Int) ∧ wr.ownsRow w.heap.size 33 2 v (allL T A j).length (heldCells (allL T A j)) ∧ Below w.heap.size w wr) (fun _ _ i _ => 512 - (intOf i).toNat)
  case atStart => exact ⟨0, by omega, rfl, World.ownsRow_nil _ _ _ _, Below.refl _ _⟩
  case round =>
    obtain ⟨j, hj, rfl, ho, hb⟩ := hrel
    have HO := Lib.hid ho
    have HB := Lib.hid hb
    obtain ⟨VA, vc, rfl⟩ := form33 ho
    clear ho hb
    by_cases hlt : j < 512
    · have dj : decide ((j : Int) < 512) = true := by simp; omega
      have dj2 : decide (j < 512) = true := by simp; omega
      have H1 := Lib.hid (H.out.below HB.out)
      have ka := H1.out.a j hlt
      have g1 : (0 : Int) ≤ (j : Int) := by omega
      have g2 : (j : Int) < 512 := by omega
      by_cases h0 : A j = 0
      · have e0 : (A j != 0) = false := by simpa using h0
        have HA := Lib.hid h0
        clear h0
        go_wp2
        go_roundw
        case rel => exact ⟨j + 1, by omega, by go_num, by rw [allL_succ, if_pos HA.out, List.append_nil]; exact HO.out, HB.out⟩
        case measure => simp [intOf]; omega
      · have e0 : (A j != 0) = true := by simpa using h0
        have HA := Lib.hid h0
        have HLE := Lib.hid (allL_len T A j)
        clear h0
        obtain ⟨L, hL⟩ : ∃ L, L = (allL T A j).length := ⟨_, rfl⟩
        have HL := Lib.hid hL
        have HO2 := Lib.hid (show wr.ownsRow w.heap.size 33 2 (.slice VA L vc) L (heldCells (allL T A j)) by rw [hL]; exact HO.out)
        rw [← hL] at HLE ⊢
        obtain ⟨q, hq⟩ : ∃ q, q = tell T j := ⟨_, rfl⟩
        have HQ := Lib.hid hq
        obtain ⟨aj, haj⟩ : ∃ aj, aj = A j := ⟨_, rfl⟩
        have HAJ := Lib.hid haj
        rw [← haj] at ka e0
        clear HO hL hq haj
        go_wp2
        go_region_law (first
          | (refine step_app rfl (.tmp 18) (.tmp 30) 30 rfl w.heap.size 33 i0 _ 2 16 Try.underlying30 INFO.out.1 INFO.out.2.1 INFO.out.2.2.1 INFO.out.2.2.2 rfl (by omega) (.slice VA L vc) L (heldCells (allL T A j)) (by simp [Act.eval]) (by exact HO2.out.alloc _) ⟨wr.heap.size, 0, none⟩ 1 1 [.int .i64 q, .int .i64 aj] (by simp [Act.eval]) rfl (by exact two_cells _ _ _ _) (by simp [Value.oneCell']) (by have := HLE.out; unfold maxLen; omega) (by have := HLE.out; omega) (by exact Nat.le_trans HB.out.size (by simp)) ?_
             intro v3 w3 ho3 hg3 _
             obtain ⟨A3, c3, rfl⟩ := form33 ho3
             have HO3 := Lib.hid ho3
             have HG3 := Lib.hid hg3
             clear ho3 hg3)
          | (go_simp
             go_wp2_with (go_at_call 23; refine (told_c _ (by exact H1.out.below ⟨rfl, rfl, rfl, Nat.le_refl _, fun _ _ => rfl⟩) j hlt).mono ?_; rintro e w' ⟨rfl, rfl⟩; rw [← HQ.out])))
        all_goals
          go_wp2
          refine ⟨⟨j + 1, by omega, by go_num, all_step HA.out HAJ.out HQ.out HL.out HO3.out, HB.out.trans ((((Below.refl _ _).alloc HB.out.size _).drew.grown HG3.out (Nat.le_trans HB.out.size (by simp)) (fun k hk => own_base HO2.out hk)))⟩, by simp [intOf]; omega⟩
    · obtain rfl : j = 512 := by omega
      have dj : decide ((512 : Int) < 512) = false := rfl
      go_wp2
      go_ret
      exact ⟨_, rfl, HO.out, HB.out⟩
theorem all_nil (w : World) : Calls Try.prog 22 #[.pointer none] w fun e w' => e = .returned (.slice none 0 0) ∧ w = w' := by
  go_enter Try.func22, Try.ntmps22
  go_wp2
  go_ret
  exact ⟨rfl, rfl⟩
theorem room_c (w : World) {g : Nat} {T A : Nat → Int} (h : Hs w g T A) (z : Int) (hz : 512 - ((allL T A 512).length : Int) = z) :
    Calls Try.prog 19 #[.pointer (some ⟨g, 0, none⟩)] w fun e w' => e = .returned (.int .i64 z) ∧ Below w.heap.size w w' := by
  have H := Lib.hid h
  have hle := allL_len T A 512
  obtain ⟨L, hL⟩ : ∃ L, L = (allL T A 512).length := ⟨_, rfl⟩
  have HL := Lib.hid hL
  rw [← hL] at hz hle
  have HZ := Lib.hid hz
  clear h hL hz
  go_enter Try.func19, Try.ntmps19
  go_wp2_with (go_at_call 22; refine (all_c _ H.out).mono ?_; rintro e w1 ⟨v, rfl, ho, hb⟩; obtain ⟨A1, c1, rfl⟩ := form33 ho; have HB := Lib.hid hb; rw [← HL.out]; clear ho hb)
  go_ret
  exact ⟨by rw [← HZ.out]; rfl, HB.out⟩
theorem room_nil (w : World) : Calls Try.prog 19 #[.pointer none] w fun e w' => e = .returned (.int .i64 0) ∧ w = w' := by
  go_enter Try.func19, Try.ntmps19
  go_wp2
  go_ret
  exact ⟨rfl, rfl⟩
/-- Who holds in slot k alone. -/
theorem allL_one (T : Nat → Int) (x : Int) (k n : Nat) (hx : x ≠ 0) : (allL T (put (fun _ => 0) k x) n).length = if k < n then 1 else 0 := by
  induction n with
  | zero => rfl
  | succ n ih =>
    rw [allL_succ, List.length_append, ih]
    by_cases h : n = k
    · subst h; rw [put_same, if_neg hx]; simp
    · rw [put_other _ _ _ _ h]
      by_cases h2 : k < n
      · simp [h2, Nat.lt_succ_of_lt h2]
      · have : ¬ k < n + 1 := by omega
        simp [h2, this]

set_option maxHeartbeats 1000000 in
theorem awake_c (w : World) : Calls Try.prog 9 #[] w fun e w' => e = .returned (.bool true) ∧ Below w.heap.size w w' := by
  go_enter Try.func9, Try.ntmps9
  go_wp2_with (first
    | (go_at_call 8; refine (new_h _).mono ?_; rintro e w1 ⟨rfl, hh, hb⟩; have HH := Lib.hid hh; have HB := Lib.hid hb; clear hh hb)
    | (go_at_call 12; refine (hold_ok _ HH.out 64 (by omega) 0 (by omega) (by intro i hi; omega) rfl 512 rfl).mono ?_; rintro e w2 ⟨rfl, hh, hf⟩; have HH2 := Lib.hid hh; have HF2 := Lib.hid hf; clear hh hf)
    | (go_at_call 17; refine (held_yes _ HH2.out 512 (by omega) rfl 64 rfl).mono ?_; rintro e w' ⟨rfl, rfl⟩)
    | (go_at_call 14; refine (err_c _ _).mono ?_; rintro e w' ⟨rfl, rfl⟩)
    | (go_at_call 19; refine (room_c _ HH2.out 511 (by rw [allL_one _ _ _ _ (by omega)]; rfl)).mono ?_; rintro e w3 ⟨rfl, hb⟩; have HB3 := Lib.hid hb; clear hb))
  go_ret
  have b2 := HB.out.trans (HF2.out.below HB.out.size (fun k _ e => Nat.le_of_eq e.symm))
  exact ⟨rfl, b2.trans (HB3.out.mono b2.size)⟩
end Go.Proofs.Ytembjpfgoogbgaa.Fns
