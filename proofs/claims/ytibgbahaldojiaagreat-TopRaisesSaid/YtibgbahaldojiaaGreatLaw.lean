/- The states of the statement's script, and what each operation does there. -/
/- The finalizer's part of the script: final, drop, collect, run, final once more, collect, then the chain is read. -/
/- The law's first steps, and the blocks of answers. -/
import Derived.Test.YtibgbahaldojiaaGreatRtd
import Derived.Test.YtibgbahaldojiaaGreatAwk
import Derived.WalkSmall
namespace Go.Proofs.YtibgbahaldojiaaGreat.Fns
open Go Go.RowKit
theorem tell_mod (T : Nat → Int) (i : Nat) (hi : i < 512) : tell T i % 512 = (i : Int) := by unfold tell; omega
theorem tell_nat (T : Nat → Int) (i : Nat) (hi : i < 512) : (tell T i % 512).toNat = i := by rw [tell_mod T i hi]; simp
theorem tell_le (T : Nat → Int) (i : Nat) (hi : i < 512) (h : T i ≤ 1000) : tell T i ≤ 9223372036854775807 := by unfold tell; omega
theorem tell_pos (T : Nat → Int) (i : Nat) (h : 0 ≤ T i) : 512 ≤ tell T i := by unfold tell; omega
theorem fnd_tell (T A : Nat → Int) (i : Nat) (hi : i < 512) (h : 0 ≤ T i) (hA : A i ≠ 0) : fnd T A (tell T i) = true := by
  have := tell_pos T i h
  unfold fnd
  rw [tell_nat T i hi]
  simp [this, hA]
theorem allL_none (T A : Nat → Int) (n : Nat) (hz : ∀ i, i < n → A i = 0) : allL T A n = [] := by
  induction n with
  | zero => rfl
  | succ n ih => rw [allL_succ, ih (fun i hi => hz i (by omega)), hz n (by omega)]; rfl
theorem allL_short (T A : Nat → Int) (q : Nat) (hz : ∀ i, q ≤ i → A i = 0) (d : Nat) : allL T A (q + d) = allL T A q := by
  induction d with
  | zero => rfl
  | succ d ih => rw [← Nat.add_assoc, allL_succ, hz _ (by omega), ih]; simp
theorem allL_room (T A : Nat → Int) (q : Nat) (hq : q < 512) (hz : ∀ i, q ≤ i → A i = 0) : (allL T A 512).length < 512 := by
  have e := allL_short T A q hz (512 - q)
  rw [show q + (512 - q) = 512 by omega] at e
  rw [e]
  exact Nat.lt_of_le_of_lt (allL_len T A q) hq
theorem allL_sole (T : Nat → Int) (q : Nat) (hq : q < 512) (a : Int) (ha : a ≠ 0) : (allL T (put (fun _ => 0) q a) 512).map Prod.snd = [a] := by
  have e := allL_short T (put (fun _ => 0) q a) (q + 1) (fun i hi => put_other _ _ _ _ (by omega)) (512 - (q + 1))
  rw [show q + 1 + (512 - (q + 1)) = 512 by omega] at e
  rw [e, allL_succ, allL_none T (put (fun _ => 0) q a) q (fun i hi => put_other _ _ _ _ (by omega)), put_same]
  simp [ha]
/-- A runtime at r. -/
def At [Base] (w : World) (r : Nat) (s : RtS) : Prop := ∃ b : RtB, b.r = r ∧ Rt w b s
theorem At.below [Base] {w w' : World} {r : Nat} {s : RtS} (h : At w r s) (hb : Below w.heap.size w w') : At w' r s := by
  obtain ⟨b, e, h⟩ := h
  exact ⟨b, e, h.below hb⟩
theorem At.side31 [Base] {w w' : World} {r : Nat} {s : RtS} {k : Nat} {cs : Array Value} (h : At w r s) (hk : w.heap[k]? = some (.cells cs 31 (0, 0))) (hf : Frame w w' (fun j => j = k)) : At w' r s := by
  obtain ⟨b, e, h⟩ := h
  exact ⟨b, e, h.side31 hk hf⟩
/-- An operation of the runtime at r, from s to s2, that tells er and n. -/
def DoS [Base] (r : Nat) (s : RtS) (o A B C er n : Int) (s2 : RtS) : Prop := ∀ w, At w r s → Calls Tryz.prog 7 #[.pointer (some ⟨r, 0, none⟩), .agg #[.int .i64 o, .int .i64 A, .int .i64 B, .int .i64 C]] w fun e w' => e = .returned (.agg #[.int .i64 er, .int .i64 n]) ∧ At w' r s2 ∧ Keep w w'
theorem DoS.of [Base] {r : Nat} {s s2 : RtS} {o A B C er n : Int} (h : ∀ w (b : RtB), b.r = r → Rt w b s → Calls Tryz.prog 7 #[.pointer (some ⟨b.r, 0, none⟩), opv o A B C] w fun e w' => e = .returned (.agg #[.int .i64 er, .int .i64 n]) ∧ (∃ g', Rt w' (b.on g') s2) ∧ Keep w w') : DoS r s o A B C er n s2 := by
  rintro w ⟨b, rfl, hb⟩
  refine (h w b rfl hb).mono ?_
  rintro e w' ⟨h1, ⟨g', h2⟩, h3⟩
  exact ⟨h1, ⟨b.on g', rfl, h2⟩, h3⟩
theorem same_on [Base] {b : RtB} {w w1 : World} {s2 : RtS} {e : Ending} {v : Value} (q : e = .returned v ∧ Rt w b s2 ∧ Keep w1 w) : ∃ g', e = .returned v ∧ Rt w (b.on g') s2 ∧ Keep w1 w := ⟨b.hp.g, q.1, q.2.1, q.2.2⟩
/-- j objects more than the first, each leads to the one ahead; the last is held in slot q. -/
structure Li (s : RtS) (j q : Nat) (x : Int) : Prop where
  n : s.n = 30
  m : s.m = j + 1
  hj : j ≤ 12
  hq : q < 2
  ch : Ch s.m s.f KL (fun _ => false) (VL x)
  A : s.A = put (fun _ => 0) q ((64 + j * 2 : Nat) : Int)
  T : ∀ i, 0 ≤ s.T i ∧ s.T i ≤ (j : Int)
  W : s.W = []
  P : s.P = []
  stk : s.stk = ((1 : Nat) : Int)
  runs : s.runs = 0
section
variable {s : RtS} {j q : Nat} {x : Int} (r : Nat) (L : Li s j q x)
include L
theorem Li.Aq : s.A q = ((64 + j * 2 : Nat) : Int) := by rw [L.A, put_same]
theorem Li.Ao (i : Nat) (h : i ≠ q) : s.A i = 0 := by rw [L.A, put_other _ _ _ _ h]
theorem Li.le : tell s.T q ≤ 9223372036854775807 := tell_le _ _ (by have := L.hq; omega) (by have := (L.T q).2; have := L.hj; omega)
theorem Li.fnd : fnd s.T s.A (tell s.T q) = true := fnd_tell _ _ _ (by have := L.hq; omega) (L.T q).1 (by rw [L.Aq]; omega)
end
def n1 (s : RtS) (q : Nat) : RtS := { s with m := s.m + 1, f := put (wipe s.f (64 + s.m * 2) 2) (64 + s.m * 2) (hw 2 1 false), A := put s.A q ((64 + s.m * 2 : Nat) : Int) }
def n2 (s : RtS) (q : Nat) (c : Int) : RtS := { n1 s q with f := put (n1 s q).f (64 + s.m * 2 + 1) c }
def n3 (s : RtS) (q : Nat) (c : Int) (i : Nat) : RtS := { n2 s q c with T := put s.T i (s.T i + 1), A := put (n1 s q).A i 0 }
theorem new_do [Base] {s : RtS} {j q : Nat} {x : Int} (r : Nat) (L : Li s j q x) (hj : j < 12) : DoS r s 3 1 0 0 0 (tell s.T (1 - q)) (n1 s (1 - q)) := by
  refine DoS.of fun w b _ h => do3 w h 1 0 0 _ _ (fun w1 g1 g2 hh r1 r2 => list1_c w1 hh (by rw [L.m]; omega) (by rw [L.n]; decide) (64 + s.m * 2) rfl 2 (.inl rfl) (1 - q) (by omega) (fun i hi => ?_) (L.Ao _ (by have := L.hq; omega)) (allL_room _ _ 2 (by decide) (fun i hi => L.Ao i (by have := L.hq; omega))) _ rfl g1 g2 3 r1 r2)
  obtain rfl : i = q := by have := L.hq; omega
  rw [L.Aq]
  omega
theorem set_do [Base] {s : RtS} {j q : Nat} {x : Int} (r : Nat) (L : Li s j q x) (hj : j < 12) : DoS r (n1 s (1 - q)) 6 (tell s.T (1 - q)) 0 (tell s.T q) 0 0 (n2 s (1 - q) ((64 + j * 2 : Nat) : Int)) := by
  have hq := L.hq
  have e1 : (n1 s (1 - q)).A (1 - q) = ((64 + s.m * 2 : Nat) : Int) := put_same _ _ _
  have e2 : (n1 s (1 - q)).A q = ((64 + j * 2 : Nat) : Int) := (put_other _ _ _ _ (by omega)).trans L.Aq
  refine DoS.of fun w b _ h => do6 w h _ _ _ 0 _ (fun w1 hh => (rset_c w1 hh (tell s.T (1 - q)) (tell_le _ _ (by omega) (by have := (L.T (1 - q)).2; omega)) (fnd_tell _ _ _ (by omega) (L.T _).1 (by rw [e1]; omega)) (by show s.m + 1 ≤ 32; rw [L.m]; omega) (by show 2 ≤ s.n; rw [L.n]; decide) s.m (64 + s.m * 2) (Nat.lt_succ_self _) rfl (by rw [tell_nat _ _ (by omega)]; exact e1) 2 false (put_same _ _ _) rfl (tell s.T q) L.le (fnd_tell _ _ _ (by omega) (L.T _).1 (by rw [e2]; omega)) _ (by rw [tell_nat _ _ (by omega)]; exact e2) 6).mono fun _ _ => same_on)
theorem drop_do [Base] {s : RtS} {j q : Nat} {x : Int} (r : Nat) (L : Li s j q x) (hj : j < 12) : DoS r (n2 s (1 - q) ((64 + j * 2 : Nat) : Int)) 8 (tell s.T q) 0 0 0 0 (n3 s (1 - q) ((64 + j * 2 : Nat) : Int) q) := by
  have hq := L.hq
  have e2 : (n1 s (1 - q)).A q = ((64 + j * 2 : Nat) : Int) := (put_other _ _ _ _ (by omega)).trans L.Aq
  refine DoS.of fun w b _ h => do8 w h _ 0 0 0 _ (fun w1 hh => (rdrop_c w1 hh (tell s.T q) L.le (fnd_tell _ _ _ (by omega) (L.T _).1 (by show (n1 s (1 - q)).A q ≠ 0; rw [e2]; omega)) q (tell_mod _ _ (by omega)) (by show s.T q < 1000000; have := (L.T q).2; omega) 8).mono fun _ _ => same_on)
theorem Li.next {s : RtS} {j q : Nat} {x : Int} (L : Li s j q x) (hj : j < 12) : Li (n3 s (1 - q) ((64 + j * 2 : Nat) : Int) q) (j + 1) (1 - q) x := by
  have hq := L.hq
  have hm := L.m
  refine ⟨L.n, by show s.m + 1 = _; rw [hm], by omega, by omega, ⟨fun i hi => ?_, fun i hi => ?_, fun i _ => KL_kind i⟩, ?_, fun i => ?_, L.W, L.P, L.stk, L.runs⟩
  · have hi2 : i < s.m + 1 := hi
    by_cases hi3 : i = s.m
    · subst hi3
      show put (put (wipe s.f (64 + s.m * 2) 2) (64 + s.m * 2) (hw 2 1 false)) (64 + s.m * 2 + 1) _ (64 + s.m * 2) = _
      rw [put_other _ _ _ _ (by omega), put_same, hm, KL_succ]
    · show put (put (wipe s.f (64 + s.m * 2) 2) (64 + s.m * 2) (hw 2 1 false)) (64 + s.m * 2 + 1) _ (64 + i * 2) = _
      rw [put_other _ _ _ _ (by omega), put_other _ _ _ _ (by omega)]
      unfold wipe
      rw [if_neg (by omega)]
      exact L.ch.head i (by omega)
  · have hi2 : i < s.m + 1 := hi
    by_cases hi3 : i = s.m
    · subst hi3
      show put (put (wipe s.f (64 + s.m * 2) 2) (64 + s.m * 2) (hw 2 1 false)) (64 + s.m * 2 + 1) _ (64 + s.m * 2 + 1) = _
      rw [put_same, hm, VL_succ]
      omega
    · show put (put (wipe s.f (64 + s.m * 2) 2) (64 + s.m * 2) (hw 2 1 false)) (64 + s.m * 2 + 1) _ (64 + i * 2 + 1) = _
      rw [put_other _ _ _ _ (by omega), put_other _ _ _ _ (by omega)]
      unfold wipe
      rw [if_neg (by omega)]
      exact L.ch.word i (by omega)
  · show put (put s.A (1 - q) ((64 + s.m * 2 : Nat) : Int)) q 0 = _
    rw [L.A, hm]
    funext i
    unfold put
    by_cases h1 : i = q
    · rw [if_pos h1, if_neg (by omega)]
    · rw [if_neg h1]
      by_cases h2 : i = 1 - q
      · rw [if_pos h2, if_pos h2]
      · rw [if_neg h2, if_neg h2, if_neg h1]
  · show 0 ≤ put s.T q (s.T q + 1) i ∧ put s.T q (s.T q + 1) i ≤ ((j + 1 : Nat) : Int)
    unfold put
    have h1 := L.T i
    have h2 := L.T q
    split <;> omega
end Go.Proofs.YtibgbahaldojiaaGreat.Fns
namespace Go.Proofs.YtibgbahaldojiaaGreat.Fns
open Go Go.RowKit
/-- The chain, its last with a finalizer. -/
structure Lk (s : RtS) (k : Nat) (x : Int) : Prop where
  n : s.n = 30
  m : s.m = k + 1
  hk : 1 ≤ k ∧ k ≤ 12
  ch : Ch s.m s.f KL (fun i => decide (i = k)) (VL x)
  T : ∀ i, 0 ≤ s.T i ∧ s.T i ≤ 13
  stk : s.stk = ((1 : Nat) : Int)
  runs : 0 ≤ s.runs ∧ s.runs ≤ 10
def f1 (s : RtS) (k : Nat) : RtS := { s with f := put s.f (64 + k * 2) (hw 2 1 true), W := s.W ++ [((64 + k * 2 : Nat) : Int)] }
def f2 (s : RtS) (k q : Nat) : RtS := { f1 s k with T := put s.T q (s.T q + 1), A := put s.A q 0 }
def f3 (s : RtS) (k q : Nat) : RtS := { f2 s k q with W := [], P := [64 + (k : Int) * 2], runs := s.runs + 1 }
def f4 (s : RtS) (k q : Nat) : RtS := { f3 s k q with P := [], A := put (f2 s k q).A 0 (64 + (k : Int) * 2) }
def f5 (s : RtS) (k q : Nat) : RtS := { f4 s k q with runs := s.runs + 1 + 1 }
/-- Behind i steps: slots 0 to i hold the last i + 1 objects. -/
def gA (k i : Nat) : Nat → Int := fun p => if p ≤ i then 64 + ((k : Int) - (p : Int)) * 2 else 0
def f6 (s : RtS) (k q i : Nat) : RtS := { f5 s k q with A := gA k i }
theorem gA_in (k i p : Nat) (h : p ≤ i) : gA k i p = 64 + ((k : Int) - (p : Int)) * 2 := if_pos h
theorem gA_out (k i p : Nat) (h : i < p) : gA k i p = 0 := if_neg (by omega)
theorem gA_succ (k i : Nat) : put (gA k i) (i + 1) (64 + ((k : Int) - ((i + 1 : Nat) : Int)) * 2) = gA k (i + 1) := by
  funext p
  unfold put gA
  by_cases h : p = i + 1
  · subst h; rw [if_pos rfl, if_pos (Nat.le_refl _)]
  · rw [if_neg h]
    by_cases h2 : p ≤ i
    · rw [if_pos h2, if_pos (by omega)]
    · rw [if_neg h2, if_neg (by omega)]
section
variable {s : RtS} {k q : Nat} {x : Int} (r : Nat) (L : Li s k q x) (hk : 1 ≤ k)
include L
theorem f2_A : (f2 s k q).A = fun _ => 0 := by
  show put s.A q 0 = _
  rw [L.A]
  funext i
  unfold put
  split <;> rfl
theorem f5_A : (f5 s k q).A = gA k 0 := by
  show put (f2 s k q).A 0 _ = _
  rw [f2_A L]
  funext p
  unfold put gA
  by_cases h : p = 0
  · subst h; simp
  · rw [if_neg h, if_neg (by omega)]
theorem f6_zero : f6 s k q 0 = f5 s k q := by unfold f6; rw [← f5_A L]
include hk
theorem fin_ch : Ch s.m (put s.f (64 + k * 2) (hw 2 1 true)) KL (fun i => decide (i = k)) (VL x) := by
  refine ⟨fun i hi => ?_, fun i hi => ?_, fun i _ => KL_kind i⟩
  · by_cases h : i = k
    · subst h
      obtain ⟨d, rfl⟩ : ∃ d, i = d + 1 := ⟨i - 1, by omega⟩
      rw [put_same, KL_succ]
      simp
    · rw [put_other _ _ _ _ (by omega), L.ch.head i hi]
      simp [h]
  · rw [put_other _ _ _ _ (by omega)]
    exact L.ch.word i hi
theorem Lk.f1 : Lk (f1 s k) k x := ⟨L.n, L.m, ⟨hk, L.hj⟩, fin_ch L hk, fun i => by have := L.T i; have := L.hj; show 0 ≤ s.T i ∧ s.T i ≤ 13; omega, L.stk, by show 0 ≤ s.runs ∧ s.runs ≤ 10; rw [L.runs]; decide⟩
theorem Lk.f2 : Lk (f2 s k q) k x := by
  refine ⟨L.n, L.m, ⟨hk, L.hj⟩, fin_ch L hk, fun i => ?_, L.stk, by show 0 ≤ s.runs ∧ s.runs ≤ 10; rw [L.runs]; decide⟩
  have h1 := L.T i
  have h2 := L.T q
  have h3 := L.hj
  show 0 ≤ put s.T q (s.T q + 1) i ∧ put s.T q (s.T q + 1) i ≤ 13
  unfold put
  split <;> omega
theorem Lk.f3 : Lk (f3 s k q) k x := by
  obtain ⟨a1, a2, a3, a4, a5, a6, _⟩ := Lk.f2 L hk
  exact ⟨a1, a2, a3, a4, a5, a6, by show 0 ≤ s.runs + 1 ∧ s.runs + 1 ≤ 10; rw [L.runs]; decide⟩
theorem Lk.f4 : Lk (f4 s k q) k x := by
  obtain ⟨a1, a2, a3, a4, a5, a6, a7⟩ := Lk.f3 L hk
  exact ⟨a1, a2, a3, a4, a5, a6, a7⟩
theorem Lk.f6 (i : Nat) : Lk (f6 s k q i) k x := by
  obtain ⟨a1, a2, a3, a4, a5, a6, _⟩ := Lk.f4 L hk
  exact ⟨a1, a2, a3, a4, a5, a6, by show 0 ≤ s.runs + 1 + 1 ∧ s.runs + 1 + 1 ≤ 10; rw [L.runs]; decide⟩
theorem fin_do [Base] : DoS r s 17 (tell s.T q) 0 0 0 0 (f1 s k) := by
  have hq := L.hq
  refine DoS.of fun w b _ h => do17 w h _ 0 0 0 _ (fun w1 hh => (rfinal_ok w1 hh (tell s.T q) L.le L.fnd (by rw [L.m]; have := L.hj; omega) (by rw [L.n]; decide) k (64 + k * 2) (by rw [L.m]; omega) rfl (by rw [tell_nat _ _ (by omega)]; exact L.Aq) 2 false (by rw [L.ch.head k (by rw [L.m]; omega)]; obtain ⟨d, rfl⟩ : ∃ d, k = d + 1 := ⟨k - 1, by omega⟩; rw [KL_succ]) (.inl rfl) rfl (by rw [L.W]; decide) 17).mono fun _ _ => same_on)
theorem dropf_do [Base] : DoS r (f1 s k) 8 (tell s.T q) 0 0 0 0 (f2 s k q) := by
  have hq := L.hq
  refine DoS.of fun w b _ h => do8 w h _ 0 0 0 _ (fun w1 hh => (rdrop_c w1 hh (tell s.T q) L.le L.fnd q (tell_mod _ _ (by omega)) (by show s.T q < 1000000; have := (L.T q).2; have := L.hj; omega) 8).mono fun _ _ => same_on)
theorem went_do [Base] : DoS r (f2 s k q) 19 1 0 0 0 0 (f3 s k q) := by
  have K := Lk.f2 L hk
  have hj := L.hj
  refine DoS.of fun w b _ h => do19 w h 1 0 0 0 _ (fun w1 hh => (rcollect_c w1 hh (by rw [K.m]; omega) true 1 rfl (f3 s k q) (Nat.le_refl _) (fun w2 h2 => collect_wait w2 h2 k 1 x K.ch K.m (by omega) (by rw [K.n]; decide) K.stk (by decide) (by decide) (by have := K.runs; omega) true ?_ L.P ?_) 19 0 (by show (s.m : Int) - s.m = 0; omega)).mono fun _ _ => same_on)
  · show s.W ++ [((64 + k * 2 : Nat) : Int)] = _
    rw [L.W, List.nil_append]
    congr 1
  · rw [f2_A L, allL_none _ _ _ (fun _ _ => rfl)]; rfl
theorem run_do [Base] : DoS r (f3 s k q) 18 0 2 0 0 (tell (f2 s k q).T 0) (f4 s k q) := by
  have e : (f3 s k q).A = fun _ => 0 := f2_A L
  refine DoS.of fun w b _ h => do18 w h 0 2 0 _ _ (fun w1 hh => (rrun_c w1 hh (64 + (k : Int) * 2) (by omega) rfl 0 (by decide) (fun i hi => absurd hi (Nat.not_lt_zero _)) (by rw [e]) (allL_room _ _ 0 (by decide) (fun i _ => by rw [e])) _ rfl 18).mono fun _ _ => same_on)
omit L hk in
theorem f4_A : (f4 s k q).A 0 = ((64 + k * 2 : Nat) : Int) := by
  show put (f2 s k q).A 0 (64 + (k : Int) * 2) 0 = _
  rw [put_same]
  omega
theorem again_do [Base] : DoS r (f4 s k q) 17 (tell (f2 s k q).T 0) 0 0 4 0 (f4 s k q) := by
  have K := Lk.f4 L hk
  have hj := L.hj
  have e : (f4 s k q).A 0 = ((64 + k * 2 : Nat) : Int) := f4_A
  refine DoS.of fun w b _ h => do17e w h _ 0 0 0 _ (fun w1 hh => (rfinal_have w1 hh (tell (f2 s k q).T 0) (tell_le _ _ (by decide) (by have := (K.T 0).2; exact Int.le_trans this (by decide))) (fnd_tell _ _ _ (by decide) (K.T 0).1 (by rw [e]; omega)) (by rw [K.m]; omega) (by rw [K.n]; decide) k (64 + k * 2) (by rw [K.m]; omega) rfl (by rw [tell_nat _ _ (by decide)]; exact e) 2 true (by rw [K.ch.head k (by rw [K.m]; omega)]; obtain ⟨d, rfl⟩ : ∃ d, k = d + 1 := ⟨k - 1, by omega⟩; rw [KL_succ]; simp) (.inl rfl) rfl 17).mono fun _ _ => same_on)
theorem stays_do [Base] : DoS r (f4 s k q) 19 1 0 0 0 0 (f5 s k q) := by
  have K := Lk.f4 L hk
  have hj := L.hj
  refine DoS.of fun w b _ h => do19 w h 1 0 0 0 _ (fun w1 hh => (rcollect_c w1 hh (by rw [K.m]; omega) true 1 rfl (f5 s k q) (Nat.le_refl _) (fun w2 h2 => collect_held w2 h2 k 1 x K.ch K.m (by omega) (by rw [K.n]; decide) K.stk (by decide) (by decide) (by have := K.runs; omega) true rfl rfl ?_) 19 0 (by show (s.m : Int) - s.m = 0; omega)).mono fun _ _ => same_on)
  show (allL _ (put (f2 s k q).A 0 (64 + (k : Int) * 2)) 512).map Prod.snd = _
  rw [f2_A L]
  exact allL_sole _ 0 (by decide) _ (by omega)
theorem get_do [Base] (i : Nat) (hi : i < k) : DoS r (f6 s k q i) 5 (tell (f2 s k q).T i) 0 0 0 (tell (f2 s k q).T (i + 1)) (f6 s k q (i + 1)) := by
  have K := Lk.f6 L hk i
  have hj := L.hj
  obtain ⟨d, hd⟩ : ∃ d, k - i = d + 1 := ⟨k - i - 1, by omega⟩
  have e : (f6 s k q i).A i = ((64 + (k - i) * 2 : Nat) : Int) := by rw [show (f6 s k q i).A i = _ from gA_in k i i (Nat.le_refl _)]; omega
  have ez : (f6 s k q i).f (64 + (k - i) * 2 + 1) = 64 + ((k : Int) - ((i + 1 : Nat) : Int)) * 2 := by
    rw [K.ch.word (k - i) (by rw [K.m]; omega), hd, VL_succ]
    omega
  refine DoS.of fun w b _ h => do5 w h _ 0 0 _ _ (fun w1 hh => (rget_ref w1 hh (tell (f2 s k q).T i) (tell_le _ _ (by omega) (by have := (K.T i).2; exact Int.le_trans this (by decide))) (fnd_tell _ _ _ (by omega) (K.T i).1 (by rw [e]; omega)) (by rw [K.m]; omega) (by rw [K.n]; decide) (k - i) (64 + (k - i) * 2) (by rw [K.m]; omega) rfl (by rw [tell_nat _ _ (by omega)]; exact e) 2 _ (by rw [K.ch.head (k - i) (by rw [K.m]; omega), hd, KL_succ]) rfl _ ez (by omega) (i + 1) (by omega) (fun p hp => by rw [show (f6 s k q i).A p = _ from gA_in k i p (by omega)]; omega) (gA_out k i _ (by omega)) (allL_room _ _ (i + 1) (by omega) (fun p hp => gA_out k i p (by omega))) _ rfl 5).mono fun e w' ⟨h1, h2, h3⟩ => ⟨b.hp.g, h1, ?_, h3⟩)
  have := gA_succ k i
  unfold f6 at h2 ⊢
  rw [← this]
  exact h2
theorem last_do [Base] : DoS r (f6 s k q k) 5 (tell (f2 s k q).T k) 0 0 0 x (f6 s k q k) := by
  have K := Lk.f6 L hk k
  have hj := L.hj
  have e : (f6 s k q k).A k = ((64 + 0 * 2 : Nat) : Int) := by rw [show (f6 s k q k).A k = _ from gA_in k k k (Nat.le_refl _)]; omega
  refine DoS.of fun w b _ h => do5 w h _ 0 0 _ _ (fun w1 hh => (rget_data w1 hh (tell (f2 s k q).T k) (tell_le _ _ (by omega) (by have := (K.T k).2; exact Int.le_trans this (by decide))) (fnd_tell _ _ _ (by omega) (K.T k).1 (by rw [e]; decide)) (by rw [K.m]; omega) (by rw [K.n]; decide) 0 (64 + 0 * 2) (by rw [K.m]; omega) rfl (by rw [tell_nat _ _ (by omega)]; exact e) 3 _ (K.ch.head 0 (by rw [K.m]; omega)) rfl x (K.ch.word 0 (by rw [K.m]; omega)) 5).mono fun _ _ => same_on)
end
end Go.Proofs.YtibgbahaldojiaaGreat.Fns
namespace Go.Proofs.YtibgbahaldojiaaGreat.Fns
open Go Go.RowKit
def a1 : RtS := { s0 30 1 ((1 : Nat) : Int) with m := 1, f := put (wipe (fun _ => 0) 64 2) 64 (hw 3 1 false), A := put (fun _ => 0) 0 ((64 : Nat) : Int) }
def a2 (x : Int) : RtS := { a1 with f := put a1.f (64 + 0 * 2 + 1) x }
theorem first_do [Base] (r : Nat) : DoS r (s0 30 1 ((1 : Nat) : Int)) 4 1 0 0 0 512 a1 :=
  DoS.of fun w b _ h => do4 w h 1 0 0 _ _ (fun w1 g1 g2 hh r1 r2 => list1_c w1 hh (by decide) (by decide) 64 rfl 3 (.inr rfl) 0 (by omega) (fun i hi => by omega) rfl (by show (allL _ (fun _ => 0) 512).length < 512; rw [allL_none _ _ _ (fun _ _ => rfl)]; decide) 512 rfl g1 g2 4 r1 r2)
theorem put_do [Base] (r : Nat) (x : Int) : DoS r a1 7 512 0 x 0 0 (a2 x) :=
  DoS.of fun w b _ h => do7 w h 512 0 x 0 _ (fun w1 hh => (rput_c w1 hh 512 (by decide) (by decide) (by decide) (by decide) 0 (64 + 0 * 2) (by decide) rfl (by decide) 3 false (by decide) rfl x 7).mono fun _ _ => same_on)
theorem Li.first (x : Int) : Li (a2 x) 0 0 x := by
  refine ⟨rfl, rfl, by decide, by decide, ⟨fun i hi => ?_, fun i hi => ?_, fun i _ => KL_kind i⟩, rfl, fun i => ⟨by show (0 : Int) ≤ 0; decide, by show (0 : Int) ≤ ((0 : Nat) : Int); decide⟩, rfl, rfl, rfl, rfl⟩
  · have h1 : i < 1 := hi
    obtain rfl : i = 0 := by omega
    show put a1.f (64 + 0 * 2 + 1) x (64 + 0 * 2) = _
    rw [put_other _ _ _ _ (by decide)]
    decide
  · have h1 : i < 1 := hi
    obtain rfl : i = 0 := by omega
    show put a1.f (64 + 0 * 2 + 1) x (64 + 0 * 2 + 1) = _
    rw [put_same]
    rfl
theorem below31 (w : World) (a b : Value) : Below w.heap.size w (w.alloc (.cells #[a, b] 31)) := (Below.refl w.heap.size w).alloc (Nat.le_refl _) _
theorem row31 (w : World) (a b : Value) : (w.alloc (.cells #[a, b] 31)).heap[w.heap.size]? = some (.cells #[a, b] 31 (0, 0)) := heap_alloc_new w (.cells #[a, b] 31)
theorem Keep.row31 [Base] {w w' : World} (K : Keep w w') {g : Nat} {cs : Array Value} (h : w.heap[g]? = some (.cells cs 31 (0, 0))) : w'.heap[g]? = some (.cells cs 31 (0, 0)) := K.2 _ _ _ (by rfl) h
theorem keep31 [Base] (w : World) (a b : Value) : Keep w (w.alloc (.cells #[a, b] 31)) := Keep.of_below (below31 w a b)
theorem row_in {w : World} {g : Nat} {a b : Value} (h : w.heap[g]? = some (.cells #[a, b] 31 (0, 0))) : w.cell? ⟨g, 0, none⟩ = some a ∧ w.cell? ⟨g, 1, none⟩ = some b ∧ w.frozen? ⟨g, 0, none⟩ = false ∧ w.frozen? ⟨g, 1, none⟩ = false :=
  ⟨cell_of_row _ _ 0 _ _ _ h, cell_of_row _ _ 1 _ _ _ h, frozen_of_row _ _ 0 _ _ h, frozen_of_row _ _ 1 _ _ h⟩
theorem turn31 [Base] {w0 w : World} {r g : Nat} {s : RtS} {a b : Value} (ha : At w r s) (hk : Keep w0 w) (hg : w0.heap.size ≤ g) (h : w.heap[g]? = some (.cells #[a, b] 31 (0, 0))) (u v : Value) :
    At ((w.setCell ⟨g, 0, none⟩ u).setCell ⟨g, 1, none⟩ v) r s ∧ Keep w0 ((w.setCell ⟨g, 0, none⟩ u).setCell ⟨g, 1, none⟩ v) ∧ ((w.setCell ⟨g, 0, none⟩ u).setCell ⟨g, 1, none⟩ v).heap[g]? = some (.cells #[u, v] 31 (0, 0)) :=
  ⟨ha.side31 h (frame2 _ _ _ _), hk.side (frame2 _ _ _ _) hg, fin2 _ _ _ _ _ _ _ h⟩
theorem At.drewN [Base] {w : World} {r : Nat} {s : RtS} (h : At w r s) (n : Nat) : At (w.drewN n) r s := h.below ⟨rfl, rfl, rfl, Nat.le_refl _, fun _ _ => rfl⟩
theorem Keep.drewN [Base] {w0 w : World} (h : Keep w0 w) (n : Nat) : Keep w0 (w.drewN n) := h.trans (Keep.of_below ⟨rfl, rfl, rfl, Nat.le_refl _, fun _ _ => rfl⟩)
/-- A round of the first loop. -/
theorem round_do [Base] {s : RtS} {j q : Nat} {x : Int} (r : Nat) (L : Li s j q x) (hj : j < 12) (z : Int) (hz : tell s.T q = z) : ∃ z2 sA sB sC, DoS r s 3 1 0 0 0 z2 sA ∧ DoS r sA 6 z2 0 z 0 0 sB ∧ DoS r sB 8 z 0 0 0 0 sC ∧ Li sC (j + 1) (1 - q) x ∧ tell sC.T (1 - q) = z2 := by
  subst hz
  have hq := L.hq
  refine ⟨_, _, _, _, new_do r L hj, set_do r L hj, drop_do r L hj, L.next hj, ?_⟩
  show tell (put s.T q (s.T q + 1)) (1 - q) = _
  unfold tell
  rw [put_other _ _ _ _ (by omega)]
/-- What follows it. -/
theorem rest_do [Base] {s : RtS} {k q : Nat} {x : Int} (r : Nat) (L : Li s k q x) (hk : 1 ≤ k) (z : Int) (hz : tell s.T q = z) : ∃ z2 t1 t2 t3 t4 t5, DoS r s 17 z 0 0 0 0 t1 ∧ DoS r t1 8 z 0 0 0 0 t2 ∧ DoS r t2 19 1 0 0 0 0 t3 ∧ DoS r t3 18 0 2 0 0 z2 t4 ∧ DoS r t4 17 z2 0 0 4 0 t4 ∧ DoS r t4 19 1 0 0 0 0 t5 ∧
    ∃ (y : Nat → Int) (t : Nat → RtS), y 0 = z2 ∧ t 0 = t5 ∧ (∀ i, i < k → DoS r (t i) 5 (y i) 0 0 0 (y (i + 1)) (t (i + 1))) ∧ (∀ i, y i ≠ 0) ∧ DoS r (t k) 5 (y k) 0 0 0 x (t k) := by
  subst hz
  refine ⟨_, _, _, _, _, _, fin_do r L hk, dropf_do r L hk, went_do r L hk, run_do r L hk, again_do r L hk, stays_do r L hk, fun i => tell (f2 s k q).T i, fun i => f6 s k q i, rfl, f6_zero L, fun i hi => get_do r L hk i hi, fun i => ?_, last_do r L hk⟩
  have h1 := (Lk.f2 L hk).T i
  have h2 := tell_pos (f2 s k q).T i h1.1
  show tell (f2 s k q).T i ≠ 0
  omega
end Go.Proofs.YtibgbahaldojiaaGreat.Fns
