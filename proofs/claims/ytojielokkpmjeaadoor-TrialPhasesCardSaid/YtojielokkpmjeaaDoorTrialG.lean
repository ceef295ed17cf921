/- The reference of trial, and 'as'. -/
import Derived.Test.YtojielokkpmjeaaDoorRows
import Derived.Test.YtojielokkpmjeaaDoorTrialF
namespace Go.Proofs.YtojielokkpmjeaaDoor.tr
open Go Go.ChangeShapes Go.WideShapes Go.ChangeAt Go.RowKit
theorem as_any (k n : Int) (h0 : 0 ≤ k) (h1 : k ≤ 255) (w : World) : Calls Tryd.prog 11 #[ph k n] w fun e w' => e = .returned (rf k n) ∧ Below w.heap.size w w' := by
  go_enter Tryd.func11, Tryd.ntmps11
  go_wp2
  refine bodyPost_ret (v := rf k n) (by simp [results, Tryd.results11, go_sem]) rfl ⟨rfl, by repeat (first | exact Below.refl _ _ | refine Below.alloc ?_ (by simp) _)⟩
theorem rmay00  (w : World) : Calls Tryd.prog 15 #[rf 0 0] w fun e w' => e = .returned (.bool true) ∧ Below w.heap.size w w' := by
  go_enter Tryd.func15, Tryd.ntmps15
  go_wp2
  go_ret
  exact ⟨rfl, by repeat (first | exact Below.refl _ _ | refine Below.alloc ?_ (by simp) _)⟩
theorem rmay0 (l : Int) (hl : l ≠ 0) (w : World) : Calls Tryd.prog 15 #[rf 0 l] w fun e w' => e = .returned (.bool false) ∧ Below w.heap.size w w' := by
  have g0 : (l == 0) = false := by simpa using hl
  go_enter Tryd.func15, Tryd.ntmps15
  go_wp2
  go_ret
  exact ⟨rfl, by repeat (first | exact Below.refl _ _ | refine Below.alloc ?_ (by simp) _)⟩
theorem rmayA1 (l : Int) (h : 1 ≤ l) (h2 : l ≤ 8) (w : World) : Calls Tryd.prog 15 #[rf 1 l] w fun e w' => e = .returned (.bool true) ∧ Below w.heap.size w w' := by
  go_enter Tryd.func15, Tryd.ntmps15
  go_wp2
  go_ret
  exact ⟨rfl, by repeat (first | exact Below.refl _ _ | refine Below.alloc ?_ (by simp) _)⟩
theorem rmayB1 (l : Int) (h : 1 ≤ l) (h2 : ¬ l ≤ 8) (w : World) : Calls Tryd.prog 15 #[rf 1 l] w fun e w' => e = .returned (.bool false) ∧ Below w.heap.size w w' := by
  go_enter Tryd.func15, Tryd.ntmps15
  go_wp2
  go_ret
  exact ⟨rfl, by repeat (first | exact Below.refl _ _ | refine Below.alloc ?_ (by simp) _)⟩
theorem rmayC1 (l : Int) (h : ¬ 1 ≤ l) (w : World) : Calls Tryd.prog 15 #[rf 1 l] w fun e w' => e = .returned (.bool false) ∧ Below w.heap.size w w' := by
  go_enter Tryd.func15, Tryd.ntmps15
  go_wp2
  go_ret
  exact ⟨rfl, by repeat (first | exact Below.refl _ _ | refine Below.alloc ?_ (by simp) _)⟩
theorem rmayA2 (l : Int) (h : 1 ≤ l) (h2 : l ≤ 8) (w : World) : Calls Tryd.prog 15 #[rf 2 l] w fun e w' => e = .returned (.bool true) ∧ Below w.heap.size w w' := by
  go_enter Tryd.func15, Tryd.ntmps15
  go_wp2
  go_ret
  exact ⟨rfl, by repeat (first | exact Below.refl _ _ | refine Below.alloc ?_ (by simp) _)⟩
theorem rmayB2 (l : Int) (h : 1 ≤ l) (h2 : ¬ l ≤ 8) (w : World) : Calls Tryd.prog 15 #[rf 2 l] w fun e w' => e = .returned (.bool false) ∧ Below w.heap.size w w' := by
  go_enter Tryd.func15, Tryd.ntmps15
  go_wp2
  go_ret
  exact ⟨rfl, by repeat (first | exact Below.refl _ _ | refine Below.alloc ?_ (by simp) _)⟩
theorem rmayC2 (l : Int) (h : ¬ 1 ≤ l) (w : World) : Calls Tryd.prog 15 #[rf 2 l] w fun e w' => e = .returned (.bool false) ∧ Below w.heap.size w w' := by
  go_enter Tryd.func15, Tryd.ntmps15
  go_wp2
  go_ret
  exact ⟨rfl, by repeat (first | exact Below.refl _ _ | refine Below.alloc ?_ (by simp) _)⟩
theorem rmay3 (k l : Int) (h0 : k ≠ 0) (h1 : k ≠ 1) (h2 : k ≠ 2) (w : World) : Calls Tryd.prog 15 #[rf k l] w fun e w' => e = .returned (.bool false) ∧ Below w.heap.size w w' := by
  have g0 : (k == 0) = false := by simpa using h0
  have g1 : (k == 1) = false := by simpa using h1
  have g2 : (k == 2) = false := by simpa using h2
  go_enter Tryd.func15, Tryd.ntmps15
  go_wp2
  go_ret
  exact ⟨rfl, by repeat (first | exact Below.refl _ _ | refine Below.alloc ?_ (by simp) _)⟩
theorem rmay (k l : Int) (w : World) : Calls Tryd.prog 15 #[rf k l] w fun e w' => e = .returned (.bool (mayB k l)) ∧ Below w.heap.size w w' := by
  by_cases h0 : k = 0
  · subst h0
    by_cases hl : l = 0
    · subst hl; exact rmay00 w
    · rw [show mayB 0 l = false from decide_eq_false (by omega)]; exact rmay0 l hl w
  · by_cases h3 : k = 1 ∨ k = 2
    · by_cases g1 : 1 ≤ l
      · by_cases g2 : l ≤ 8
        · rw [show mayB k l = true from decide_eq_true (by omega)]
          rcases h3 with rfl | rfl
          · exact rmayA1 l g1 g2 w
          · exact rmayA2 l g1 g2 w
        · rw [show mayB k l = false from decide_eq_false (by omega)]
          rcases h3 with rfl | rfl
          · exact rmayB1 l g1 g2 w
          · exact rmayB2 l g1 g2 w
      · rw [show mayB k l = false from decide_eq_false (by omega)]
        rcases h3 with rfl | rfl
        · exact rmayC1 l g1 w
        · exact rmayC2 l g1 w
    · rw [show mayB k l = false from decide_eq_false (by omega)]; exact rmay3 k l h0 (by omega) (by omega) w
end Go.Proofs.YtojielokkpmjeaaDoor.tr
