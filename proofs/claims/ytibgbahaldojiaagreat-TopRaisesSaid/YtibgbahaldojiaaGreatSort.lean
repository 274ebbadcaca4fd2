/- Sorting a slice of the call's own; ranges over a map of no entry or one. -/
import Derived.Test.YtibgbahaldojiaaGreatKeys
import Derived.Maps.RangeRun
namespace Go.Proofs.YtibgbahaldojiaaGreat.Fns
open Go Go.RowKit Go.Sort
theorem sort_own (w : World) (B n : Nat) (v : Value) (xs : List Int) (hown : w.ownsRow B 3 1 v n (xs.map (Value.int .i64))) (hn : n ≤ 1000000) :
    Calls Tryz.prog 112 #[v] w fun e w' => e = .returned (.tuple #[]) ∧ w'.ownsRow B 3 1 v n ((xs.mergeSort (fun x y => decide (x ≤ y))).map (Value.int .i64)) ∧ w.grownBy w' v.ownBlock := by
  have hl : xs.length = n := by have := hown.1; simpa using this
  subst hl
  rcases hown.2 with ⟨rfl, h0⟩ | ⟨g, cap, cur, rfl, hB, hgb, r1, r2, r3, r4⟩
  · obtain rfl : xs = [] := List.eq_nil_of_length_eq_zero h0
    refine (Tryz.slices_Sort_int_none none 0 w).mono ?_
    rintro e w' ⟨rfl, rfl⟩
    exact ⟨rfl, by simpa using hown, World.grownBy.refl _ _⟩
  · have hH : Holds encZ w g 0 xs.toArray := holds_of_block_i hgb (by simpa using r4)
    refine (Tryz.slices_Sort_int g 0 cap xs w hH (lt_of_block hgb) (by omega)).mono ?_
    rintro e w' ⟨rfl, k, os, rfl⟩
    exact ⟨rfl, ownsRow_sorted_i (by simp) hB hgb r1 r2 r3, grownBy_sorted_i _⟩
theorem sort_up (xs : List Int) (h : xs.Pairwise (· ≤ ·)) : xs.mergeSort (fun x y => decide (x ≤ y)) = xs :=
  List.mergeSort_of_pairwise (h.imp (fun h => by simpa using h))
section
variable {t e : TypeId} (ht : Tryz.prog.underlying t = some (.map 3 e)) (w : World) {m r ck : Nat}
theorem next_none (ty : TypeId) (s c : Nat) (hr : w.heap[r]? = some (.mapIter (some m) s #[] c)) (hb : w.heap[m]? = some (.map #[] ck)) (hc : s ≤ c) :
    (Instr.next (.pointer (some ⟨r, 0, none⟩)) false ty).run Tryz.prog w = .ok (.tuple #[.bool false]) w := by
  rcases run_next_at (P := Tryz.prog) w ty r m s c #[] #[] ck hr hb (by simp) hc with ⟨_, h⟩ | ⟨e, he, _⟩
  · exact h
  · simp [leftOf] at he
theorem next_one (ty : TypeId) (s c born : Nat) (k v : Value) (hr : w.heap[r]? = some (.mapIter (some m) s #[] c)) (hb : w.heap[m]? = some (.map #[⟨k, v, born⟩] ck)) (h1 : born < s) (hc : s ≤ c) :
    (Instr.next (.pointer (some ⟨r, 0, none⟩)) false ty).run Tryz.prog w = .ok (.tuple #[.bool true, k, v]) (setB w r (.mapIter (some m) s #[born] ck)) := by
  have hsz : (leftOf #[⟨k, v, born⟩] #[]).size = 1 := by simp [leftOf]
  simp only [Instr.next, getObj, Sem.run_bind, Sem.run, hr, hb, Result.andThen, next_test_false #[] #[⟨k, v, born⟩] s c (by simpa using h1) hc, Bool.false_eq_true, if_false]
  have e1 : (Array.filter (fun x => decide (x.born < s)) #[(⟨k, v, born⟩ : MapEntry)]) = #[⟨k, v, born⟩] := by simp [h1]
  have e2 : (Array.filter (fun x => decide (x.born ≥ s)) #[(⟨k, v, born⟩ : MapEntry)]) = #[] := by simp; omega
  have e0 : (Array.filter (fun e => !(#[] : Array Nat).contains e.born) #[(⟨k, v, born⟩ : MapEntry)]) = #[⟨k, v, born⟩] := by simp
  simp only [e0, e1, e2]
  simp [choose, Sem.run, Question.forced, run_setObj_at hr, Result.andThen, ChangeMaps.setBlock, setB]
theorem next_last (ty : TypeId) (s c born : Nat) (k v : Value) (hr : w.heap[r]? = some (.mapIter (some m) s #[born] c)) (hb : w.heap[m]? = some (.map #[⟨k, v, born⟩] ck)) (h1 : born < s) (hc : s ≤ c) :
    (Instr.next (.pointer (some ⟨r, 0, none⟩)) false ty).run Tryz.prog w = .ok (.tuple #[.bool false]) w := by
  rcases run_next_at (P := Tryz.prog) w ty r m s c #[born] #[⟨k, v, born⟩] ck hr hb (by simpa using h1) hc with ⟨_, h⟩ | ⟨e, he, _⟩
  · exact h
  · simp [leftOf] at he
theorem entry_one (s born : Nat) (k v : Value) (hr : w.heap[r]? = some (.mapIter (some m) s #[born] ck)) (hb : w.heap[m]? = some (.map #[⟨k, v, born⟩] ck)) :
    (Instr.entry (.pointer (some ⟨r, 0, none⟩))).run Tryz.prog w = .ok (.tuple #[k, v]) w :=
  run_entry_at w r m s #[] #[⟨k, v, born⟩] ck ⟨k, v, born⟩ (by simpa using hr) hb (by simp) (by simp)
end
end Go.Proofs.YtibgbahaldojiaaGreat.Fns
