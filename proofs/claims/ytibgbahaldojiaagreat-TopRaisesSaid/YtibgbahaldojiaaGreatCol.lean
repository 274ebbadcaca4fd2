/- Collections: all that is there stays; or the one object goes. -/
import Derived.Test.YtibgbahaldojiaaGreatRtg
namespace Go.Proofs.YtibgbahaldojiaaGreat.Fns
open Go Go.RowKit
theorem ats_nodup (m : Nat) : (ats m).Nodup := by
  unfold ats
  refine List.pairwise_map.2 (List.Pairwise.imp (fun {x y : Nat} (hne : x < y) (e : (64 : Int) + (x : Int) * 2 = 64 + (y : Int) * 2) => absurd hne (by omega)) (List.pairwise_lt_range (n := m)))
theorem ats_all (m : Nat) : (ats m).filter (fun a => !(ats m).contains a) = [] := by
  rw [List.filter_eq_nil_iff]
  intro a ha
  simp [ha]
section
variable [Base] (w : World) {b : RtB} {s : RtS} (h : Rt w b s) (k stk : Nat) (x : Int) {Fb : Nat → Bool} (hc : Ch s.m s.f KL Fb (VL x)) (hm : s.m = k + 1) (hk : k < 32) (hn : 2 ≤ s.n) (hstk : s.stk = (stk : Int)) (h1 : 1 ≤ stk) (h2 : stk ≤ 4096) (hruns : 0 ≤ s.runs ∧ s.runs ≤ 1000) (all : Bool)
include h hc hm hk hn hstk h1 h2 hruns
theorem collect_stay (L R ys : List Int) (hL : (allL s.T s.A 512).map Prod.snd = L) (hR : (Lib.compact (([L, List.replicate 16 0, [], s.P] : List (List Int)).flatten.mergeSort le64)).filter pos = R) (hW : s.W.length ≤ 1000) (hP : s.P.length ≤ 1000) (hys : ys.length ≤ 1000) (F1 : Nat → Bool)
    (hmark : ∀ (w1 w0 w' : World) (b' : TrB) (AR : Option Addr) (cR : Nat), Hp w1 b.hp s.n s.m s.f → w1.ownsRow w.heap.size 3 1 (.slice AR R.length cR) R.length (R.map (Value.int .i64)) → Below w1.heap.size w1 w0 → Tx w0 w' b' b.hp.h (s.n * 64) (fun _ => false) [] stk false → Calls Tryz.prog 135 #[.pointer (some ⟨b'.t, 0, none⟩), .slice AR R.length cR] w' fun e w'' => e = .returned (.tuple #[]) ∧ Tx w0 w'' b' b.hp.h (s.n * 64) F1 [] stk false)
    (hfin : ∀ (w1 w0 w' : World) (b' : TrB) (c : Nat) (AR : Option Addr) (cR : Nat) (AF : Option Addr) (cF : Nat) (free : Int), Hp w1 b.hp s.n s.m s.f → w1.ownsRow w.heap.size 3 1 (.slice AF s.W.length cF) s.W.length (s.W.map (Value.int .i64)) → Below w1.heap.size w1 w0 → Tx w0 w' b' b.hp.h (s.n * 64) F1 [] stk false → Cm w' c b'.t b.hp.h (.slice AR R.length cR) (.slice AF s.W.length cF) 0 free s.rate all stk → Calls Tryz.prog 138 #[.agg #[.pointer (some ⟨c, 0, none⟩)]] w' fun e w'' => ∃ A c2, e = .returned (.slice A ys.length c2) ∧ Tx w0 w'' b' b.hp.h (s.n * 64) (mkF 0 k) [] stk false ∧ w''.ownsRow w'.heap.size 3 1 (.slice A ys.length c2) ys.length (ys.map (Value.int .i64))) :
    Calls Tryz.prog 72 #[.pointer (some ⟨b.p, 0, none⟩), .bool all] w fun e w' => ∃ a0 a1 a2 a3 a4 a5, e = .returned (.tuple #[.agg #[.slice none 0 0, .slice none 0 0, .slice a0 a1 a2, .slice a3 a4 a5], .int .i64 0]) ∧ (∃ vw1 vp1, Pts w' b { s with W := (pendL s.W s.P ys).1, P := (pendL s.W s.P ys).2, runs := s.runs + 1 } vw1 vp1) ∧ Keep w w' := by
  obtain ⟨hr, vw, vp, h⟩ := h
  refine collect_c w (b2 := b) (s2 := { s with W := (pendL s.W s.P ys).1, P := (pendL s.W s.P ys).2 }) h all L R ys (ats s.m) hL hR (by omega) hn hW hP hys ⟨rfl, rfl⟩ ⟨hruns.1, Int.le_trans hruns.2 (by decide)⟩ ?_ ?_
  · intro w1 AR cR AF cF free hp ho1 ho2
    have e : allF (mkF 0 k) (s.n * 64) = ats s.m := by rw [hm]; exact allF_line k _ (by omega)
    rw [← e, hstk]
    exact process_c w1 hp.heap hc rfl (by omega) hn h1 h2 (fun w0 w' b' hb t => hmark w1 w0 w' b' AR cR hp.heap ho1 hb t) (fun w0 w' b' c hb t hcm => hfin w1 w0 w' b' c AR cR AF cF free hp.heap ho2 hb t hcm)
  · intro w1 A c vw1 vp1 hp hi
    refine (sweep0_c w1 hp.heap (by show s.m ≤ 32; omega) A _ c _ hi (ats_nodup _) (by rw [ats_len]; omega) (ats_all _)).mono ?_
    rintro e w' ⟨rfl, hb⟩
    exact ⟨0, rfl, hp.below hb, Keep.of_below hb⟩
/-- What waits is pending after; nothing is held. -/
theorem collect_wait (hW : s.W = [64 + (k : Int) * 2]) (hP : s.P = []) (hA : (allL s.T s.A 512).map Prod.snd = []) :
    Calls Tryz.prog 72 #[.pointer (some ⟨b.p, 0, none⟩), .bool all] w fun e w' => ∃ a0 a1 a2 a3 a4 a5, e = .returned (.tuple #[.agg #[.slice none 0 0, .slice none 0 0, .slice a0 a1 a2, .slice a3 a4 a5], .int .i64 0]) ∧ Rt w' b { s with W := [], P := [64 + (k : Int) * 2], runs := s.runs + 1 } ∧ Keep w w' := by
  refine Calls.mono (collect_stay w h k stk x hc hm hk hn hstk h1 h2 hruns all [] [] [64 + (k : Int) * 2] hA (by rw [hP]; exact merge_none) (by rw [hW]; simp) (by rw [hP]; simp) (by simp) (fun _ => false) ?_ ?_) ?_
  · intro w1 w0 w' b' AR cR _ _ _ t
    exact (mark_none w0 w' t AR cR).mono (fun _ _ q => ⟨q.1, q.2 ▸ t⟩)
  · intro w1 w0 w' b' c AR cR AF cF free hp ho hb t hcm
    · (
      rw [hW] at ho hcm
      obtain ⟨sa, ca, he, hcell⟩ := own_cell (xs := [64 + (k : Int) * 2]) (i := 0) ho (by simp)
      cases he
      have hs : w'.cell? ⟨sa, 0, none⟩ = some (.int .i64 (64 + (k : Int) * 2)) := by
        have hb2 := hb.trans (t.old.mono hb.size)
        refine (hb2.cell (World.block_lt_of_cell? _ _ hcell)).trans ?_
        rw [hcell]; rfl
      refine (fins_one w0 w' t (hp.below hb) hc rfl (by omega) hn k (by omega) (by omega) h2 sa _ hcm hs).mono ?_
      rintro e w'' ⟨s2, q2, rfl, ht, ho2⟩
      exact ⟨_, q2, rfl, ht, ho2⟩)
  rintro e w' ⟨a0, a1, a2, a3, a4, a5, rfl, ⟨vw1, vp1, hp⟩, hkp⟩
  refine ⟨a0, a1, a2, a3, a4, a5, rfl, Rt.keep (vw := vw1) (vp := vp1) h.1 hkp ?_ ⟨rfl, rfl⟩, hkp⟩
  have e1 : pendL s.W s.P [64 + (k : Int) * 2] = ([], [64 + (k : Int) * 2]) := by rw [hW, hP]; simp [pendL, pend1, Lib.idxOf, Lib.idxFrom]
  rw [e1] at hp
  exact hp
/-- One is held, nothing waits. -/
theorem collect_held (hW : s.W = []) (hP : s.P = []) (hA : (allL s.T s.A 512).map Prod.snd = [64 + (k : Int) * 2]) :
    Calls Tryz.prog 72 #[.pointer (some ⟨b.p, 0, none⟩), .bool all] w fun e w' => ∃ a0 a1 a2 a3 a4 a5, e = .returned (.tuple #[.agg #[.slice none 0 0, .slice none 0 0, .slice a0 a1 a2, .slice a3 a4 a5], .int .i64 0]) ∧ Rt w' b { s with runs := s.runs + 1 } ∧ Keep w w' := by
  refine Calls.mono (collect_stay w h k stk x hc hm hk hn hstk h1 h2 hruns all [64 + (k : Int) * 2] [64 + (k : Int) * 2] [] hA (by rw [hP]; exact merge_one k hk) (by rw [hW]; simp) (by rw [hP]; simp) (by simp) (mkF 0 k)
    (fun w1 w0 w' b' AR cR hp ho hb t => mark_one w0 w' (hp.below hb) hc rfl (by omega) hn k (by omega) t (by omega) h2 AR cR (ints_own (owns_below ho (hb.trans (t.old.mono hb.size))))) ?_) ?_
  · intro w1 w0 w' b' c AR cR AF cF free hp ho hb t hcm
    rw [hW] at hcm
    refine (fins_none w0 w' t AF cF hcm).mono ?_
    rintro e w'' ⟨rfl, hb2⟩
    exact ⟨none, 0, rfl, t.far hb2, World.ownsRow_nil _ _ _ _⟩
  rintro e w' ⟨a0, a1, a2, a3, a4, a5, rfl, ⟨vw1, vp1, hp⟩, hkp⟩
  refine ⟨a0, a1, a2, a3, a4, a5, rfl, Rt.keep (vw := vw1) (vp := vp1) h.1 hkp ?_ ⟨rfl, rfl⟩, hkp⟩
  rw [show pendL s.W s.P [] = (s.W, s.P) from rfl] at hp
  exact hp
end
/-- One object, nothing holds it: it goes. -/
theorem collect_goes [Base] (w : World) {b : RtB} {s : RtS} (h : Rt w b s) (stk : Nat) {K V : Nat → Int} {Fb : Nat → Bool} (hc : Ch s.m s.f K Fb V) (hm : s.m = 1) (hn : 2 ≤ s.n) (hstk : s.stk = (stk : Int)) (h1 : 1 ≤ stk) (h2 : stk ≤ 4096) (hruns : 0 ≤ s.runs ∧ s.runs ≤ 1000) (all : Bool) (hW : s.W = []) (hP : s.P = []) (hA : (allL s.T s.A 512).map Prod.snd = []) :
    Calls Tryz.prog 72 #[.pointer (some ⟨b.p, 0, none⟩), .bool all] w fun e w' => ∃ a0 a1 a2 a3 a4 a5, e = .returned (.tuple #[.agg #[.slice none 0 0, .slice none 0 0, .slice a0 a1 a2, .slice a3 a4 a5], .int .i64 0]) ∧ Rt w' b { s with m := 0, runs := s.runs + 1 } ∧ Keep w w' := by
  obtain ⟨hr, vw, vp, h⟩ := h
  refine Calls.mono (collect_c w (b2 := b) (s2 := { s with m := 0 }) h all [] [] [] [] hA (by rw [hP]; exact merge_none) (by omega) hn (by rw [hW]; simp) (by rw [hP]; simp) (by simp) ⟨rfl, rfl⟩ ⟨hruns.1, Int.le_trans hruns.2 (by decide)⟩ ?_ ?_) (fun e w' ⟨a0, a1, a2, a3, a4, a5, q0, ⟨v1, v2, q⟩, hkp⟩ => ⟨a0, a1, a2, a3, a4, a5, q0, Rt.keep hr hkp q ⟨rfl, rfl⟩, hkp⟩)
  · intro w1 AR cR AF cF free hp ho1 ho2
    have e : allF (fun _ => false) (s.n * 64) = [] := allF_none _
    have key := process_c w1 (AR := AR) (nR := 0) (cR := cR) (AF := AF) (nF := 0) (cF := cF) (clk := 0) (free := free) (rate := s.rate) (all := all) (ys := []) (F1 := fun _ => false) (F2 := fun _ => false) hp.heap hc rfl (by omega) hn h1 h2 (fun w0 w' b' hb t => (mark_none w0 w' t AR cR).mono (fun _ _ q => ⟨q.1, q.2 ▸ t⟩)) (fun w0 w' b' c hb t hcm => (fins_none w0 w' t AF cF hcm).mono (fun _ _ q => ⟨none, 0, q.1, t.far q.2, World.ownsRow_nil _ _ _ _⟩))
    rw [e] at key
    rw [hstk, hW]
    exact key
  · intro w1 A c vw1 vp1 hp hi
    rw [show pendL s.W s.P [] = (s.W, s.P) from rfl] at hp
    have hp2 : Pts w1 b s vw1 vp1 := hp
    have hh := hp2.heap
    rw [hm] at hh
    refine (sweep1_c w1 hh hn A c).mono ?_
    rintro e w' ⟨rfl, w2, hh2, hb, hsm, hf⟩
    have q2 := hp2.below hb
    have q3 : Hp w' b.hp s.n 0 s.f := ⟨hf.heap hh2.box (hh2.sm.apart hh2.box (by rfl)), hf.heap hh2.tab (hh2.sm.apart hh2.tab (by rfl)), hsm⟩
    have q4 := q2.heapTurn (g' := b.hp.g) q3 (by rw [hm]; exact hf) (fun j hj _ => by
      rw [hm]
      unfold SFoot at hj ⊢
      rcases hj with hj | hj | hj | hj | hj | hj | hj | hj | ⟨hj, _⟩
      all_goals first | omega | simp [hj])
    refine ⟨1, rfl, q4, (Keep.of_below hb).trans (q2.keepHeap (by rw [hm]; exact hf))⟩
end Go.Proofs.YtibgbahaldojiaaGreat.Fns
