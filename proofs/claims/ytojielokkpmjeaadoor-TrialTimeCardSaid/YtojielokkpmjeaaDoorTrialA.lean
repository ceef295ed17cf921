/- trial and its reference: small functions, each walked once. -/
import Derived.Test.YtojielokkpmjeaaDoorRows
import Derived.Test.YtojielokkpmjeaaDoorLib
namespace Go.Proofs.YtojielokkpmjeaaDoor.tr
open Go Go.ChangeShapes Go.WideShapes Go.ChangeAt Go.RowKit
abbrev ph (k l : Int) : Value := .agg #[.int .u8 k, .int .i64 l]
abbrev rf (k l : Int) : Value := .agg #[.int .i64 k, .int .i64 l]
def frB (n : Int) : Bool := decide (1 ≤ n ∧ n ≤ 8)
theorem frB_true {n : Int} (h1 : 1 ≤ n) (h2 : n ≤ 8) : frB n = true := decide_eq_true ⟨h1, h2⟩
theorem frB_false {n : Int} (h : ¬ (1 ≤ n ∧ n ≤ 8)) : frB n = false := decide_eq_false h
theorem frames (n : Int) (w : World) : Calls Tryd.prog 18 #[.int .i64 n] w fun e w' => e = .returned (.bool (frB n)) ∧ Below w.heap.size w w' := by
  by_cases h1 : 1 ≤ n
  · by_cases h2 : n ≤ 8
    · rw [frB_true h1 h2]
      go_enter Tryd.func18, Tryd.ntmps18
      go_wp2
      go_ret
      exact ⟨rfl, by repeat (first | exact Below.refl _ _ | refine Below.alloc ?_ (by simp) _)⟩
    · rw [frB_false (n := n) (by omega)]
      go_enter Tryd.func18, Tryd.ntmps18
      go_wp2
      go_ret
      exact ⟨rfl, by repeat (first | exact Below.refl _ _ | refine Below.alloc ?_ (by simp) _)⟩
  · rw [frB_false (n := n) (by omega)]
    go_enter Tryd.func18, Tryd.ntmps18
    go_wp2
    go_ret
    exact ⟨rfl, by repeat (first | exact Below.refl _ _ | refine Below.alloc ?_ (by simp) _)⟩
def mayB (k l : Int) : Bool := decide ((k = 0 ∧ l = 0) ∨ ((k = 1 ∨ k = 2) ∧ 1 ≤ l ∧ l ≤ 8))
theorem may00 (w : World) : Calls Tryd.prog 14 #[ph 0 0] w fun e w' => e = .returned (.bool true) ∧ Below w.heap.size w w' := by
    go_enter Tryd.func14, Tryd.ntmps14
    go_wp2
    go_ret
    exact ⟨rfl, by repeat (first | exact Below.refl _ _ | refine Below.alloc ?_ (by simp) _)⟩
theorem may0 (l : Int) (hl : l ≠ 0) (w : World) : Calls Tryd.prog 14 #[ph 0 l] w fun e w' => e = .returned (.bool false) ∧ Below w.heap.size w w' := by
    go_enter Tryd.func14, Tryd.ntmps14
    go_wp2
    go_ret
    exact ⟨rfl, by repeat (first | exact Below.refl _ _ | refine Below.alloc ?_ (by simp) _)⟩
theorem may1 (l : Int) (w : World) : Calls Tryd.prog 14 #[ph 1 l] w fun e w' => e = .returned (.bool (frB l)) ∧ Below w.heap.size w w' := by
    go_enter Tryd.func14, Tryd.ntmps14
    go_wp2_with fail
    refine (frames _ _).mono ?_
    rintro e w1 ⟨rfl, b1⟩
    go_wp2
    go_ret
    exact ⟨rfl, ((Below.refl _ w).alloc (Nat.le_refl _) _).trans (b1.mono (by simp))⟩
theorem may2 (l : Int) (w : World) : Calls Tryd.prog 14 #[ph 2 l] w fun e w' => e = .returned (.bool (frB l)) ∧ Below w.heap.size w w' := by
    go_enter Tryd.func14, Tryd.ntmps14
    go_wp2_with fail
    refine (frames _ _).mono ?_
    rintro e w1 ⟨rfl, b1⟩
    go_wp2
    go_ret
    exact ⟨rfl, ((Below.refl _ w).alloc (Nat.le_refl _) _).trans (b1.mono (by simp))⟩
theorem may3 (k l : Int) (h0 : k ≠ 0) (h1 : k ≠ 1) (h2 : k ≠ 2) (w : World) : Calls Tryd.prog 14 #[ph k l] w fun e w' => e = .returned (.bool false) ∧ Below w.heap.size w w' := by
    have g0 : (k == 0) = false := by simpa using h0
    have g1 : (k == 1) = false := by simpa using h1
    have g2 : (k == 2) = false := by simpa using h2
    go_enter Tryd.func14, Tryd.ntmps14
    go_wp2
    go_ret
    exact ⟨rfl, by repeat (first | exact Below.refl _ _ | refine Below.alloc ?_ (by simp) _)⟩
theorem may (k l : Int) (w : World) : Calls Tryd.prog 14 #[ph k l] w fun e w' => e = .returned (.bool (mayB k l)) ∧ Below w.heap.size w w' := by
  by_cases h0 : k = 0
  · subst h0
    by_cases hl : l = 0
    · subst hl; exact may00 w
    · rw [show mayB 0 l = false from decide_eq_false (by omega)]; exact may0 l hl w
  · by_cases h1 : k = 1
    · subst h1
      rw [show mayB 1 l = frB l by unfold mayB frB; congr 1; simp]; exact may1 l w
    · by_cases h2 : k = 2
      · subst h2
        rw [show mayB 2 l = frB l by unfold mayB frB; congr 1; simp]; exact may2 l w
      · rw [show mayB k l = false from decide_eq_false (by omega)]; exact may3 k l h0 h1 h2 w
end Go.Proofs.YtojielokkpmjeaaDoor.tr
