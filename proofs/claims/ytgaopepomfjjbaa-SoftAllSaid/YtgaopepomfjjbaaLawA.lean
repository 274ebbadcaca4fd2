/- SoftAll answers true: how long idle, how long kept, whether it is, how late it is, is the reference's, for all ints and every list within the form's reach. -/
import Derived.Test.YtgaopepomfjjbaaWalks
namespace Go.Proofs.Ytgaopepomfjjbaa.Fns
open Go Go.RowKit

theorem all_c (a b c d : Int) (A : Option Addr) (n cap : Nat) (xs : List Int) (w : World) (ha : (Lit.int .i64 a).wf = true) (hb : (Lit.int .i64 b).wf = true) (hc : (Lit.int .i64 c).wf = true) (hd : (Lit.int .i64 d).wf = true)
    (hr : Ints w w.heap.size A n xs) (hn : n * 8 ≤ 140737488351232) (_hw : ∀ x ∈ xs, (Lit.int .i64 x).wf = true) :
    Calls Try.prog 4 #[.int .i64 a, .int .i64 b, .int .i64 c, .int .i64 d, .slice A n cap] w fun e w' => e = .returned (.bool true) ∧ Below w.heap.size w w' := by
  have ha := (bounds_i64 ha).2
  have hb := (bounds_i64 hb).2
  have hc := (bounds_i64 hc).2
  have hd := (bounds_i64 hd).2
  have HR := Lib.hid hr
  clear hr _hw
  by_cases g : 60 < n
  · go_enter Try.func4, Try.ntmps4
    go_wp2_with (first | (go_at_call 11; refine (awake_c _).mono ?_; rintro e w' ⟨rfl, rfl⟩))
    go_ret
    exact ⟨rfl, Below.refl _ _⟩
  · go_enter Try.func4, Try.ntmps4
    go_wp2_with (first | (go_at_call 11; refine (awake_c _).mono ?_; rintro e w' ⟨rfl, rfl⟩) | (go_at_call 8; refine (idle_c _ _ _ ha hb).mono ?_; rintro e w' ⟨rfl, rfl⟩) | (go_at_call 12; refine (ridle_c _ _ _ ha hb).mono ?_; rintro e w' ⟨rfl, rfl⟩) | (go_at_call 9; refine (limit_c _ _ _ hc hd).mono ?_; rintro e w' ⟨rfl, rfl⟩) | (go_at_call 13; refine (rlimit_c _ _ _ hc hd).mono ?_; rintro e w' ⟨rfl, rfl⟩) | (go_at_call 10; refine (keep_c _ _ _ _ _ ha hb hc hd).mono ?_; rintro e w' ⟨rfl, rfl⟩) | (go_at_call 14; refine (rkeep_c _ _ _ _ _ ha hb hc hd).mono ?_; rintro e w' ⟨rfl, rfl⟩) | (go_at_call 15; refine (later_c _ _ _ _ xs _ ha _ HR.out (by omega)).mono ?_; rintro e w' ⟨rfl, rfl⟩) | (go_at_call 16; refine (rlater_c _ _ _ _ xs _ ha _ HR.out (by omega)).mono ?_; rintro e w' ⟨rfl, rfl⟩))
    go_ret
    exact ⟨rfl, Below.refl _ _⟩
end Go.Proofs.Ytgaopepomfjjbaa.Fns
