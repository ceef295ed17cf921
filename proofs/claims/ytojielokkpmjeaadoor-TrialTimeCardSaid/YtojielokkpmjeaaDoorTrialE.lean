/- trial: Commit, Boundary, Text, each as one contract with a plain function. -/
import Derived.Test.YtojielokkpmjeaaDoorRows
import Derived.Test.YtojielokkpmjeaaDoorTrialC
import Derived.Test.YtojielokkpmjeaaDoorTrialD
namespace Go.Proofs.YtojielokkpmjeaaDoor.tr
open Go Go.ChangeShapes Go.WideShapes Go.ChangeAt Go.RowKit
def cmR (k l n : Int) : Int × Int × Int := if mayB k l = false ∨ frB n = false then (0, 0, 2) else if k ≠ 0 then (0, 0, 270) else (1, n, 0)
def bdR (k l : Int) (g : Bool) : Int × Int × Int :=
  if mayB k l = false then (0, 0, 0) else if k = 0 then (0, 0, 0) else if k = 1 then (2, l, 1) else if g = false then (0, 0, 4) else if l = 1 then (0, 0, 3) else (2, l - 1, 2)
theorem may_kind {k l : Int} (h : mayB k l = true) : (k = 0 ∧ l = 0) ∨ ((k = 1 ∨ k = 2) ∧ frB l = true) := by
  have := of_decide_eq_true h
  rcases this with h | ⟨h, h1, h2⟩
  · exact .inl h
  · exact .inr ⟨h, frB_true h1 h2⟩
theorem commit (k l n : Int) (w : World) : Calls Tryd.prog 8 #[ph k l, .int .i64 n] w fun e w' => e = .returned (.tuple #[ph (cmR k l n).1 (cmR k l n).2.1, .int .i64 (cmR k l n).2.2]) ∧ Below w.heap.size w w' := by
  cases h : mayB k l
  · rw [show cmR k l n = (0, 0, 2) by simp [cmR, h]]; exact com_bad k l n h w
  · cases h2 : frB n
    · rw [show cmR k l n = (0, 0, 2) by simp [cmR, h, h2]]; exact com_bad2 k l n h h2 w
    · by_cases h3 : k = 0
      · subst h3
        rw [show cmR 0 l n = (1, n, 0) by simp [cmR, h, h2]]; exact com_ok l n h h2 w
      · rw [show cmR k l n = (0, 0, 270) by simp [cmR, h, h2, h3]]; exact com_busy k l n h h2 (by simpa using h3) w
theorem boundary (k l : Int) (g : Bool) (w : World) : Calls Tryd.prog 9 #[ph k l, .bool g] w fun e w' => e = .returned (.tuple #[ph (bdR k l g).1 (bdR k l g).2.1, .int .u8 (bdR k l g).2.2]) ∧ Below w.heap.size w w' := by
  cases h : mayB k l
  · rw [show bdR k l g = (0, 0, 0) by simp [bdR, h]]
    cases g
    · exact bd_bad_false k l h w
    · exact bd_bad_true k l h w
  · rcases may_kind h with ⟨rfl, rfl⟩ | ⟨rfl | rfl, hl⟩
    · rw [show bdR 0 0 g = (0, 0, 0) by simp [bdR]]
      cases g
      · exact bd_rest_false 0 h w
      · exact bd_rest_true 0 h w
    · rw [show bdR 1 l g = (2, l, 1) by simp [bdR, h]]
      cases g
      · exact bd_take_false l h w
      · exact bd_take_true l h w
    · cases g
      · rw [show bdR 2 l false = (0, 0, 4) by simp [bdR, h]]
        exact bd_try_bad l h w
      · by_cases e : l = 1
        · subst e
          rw [show bdR 2 1 true = (0, 0, 3) by simp [bdR, h]]
          exact bd_try_last h w
        · rw [show bdR 2 l true = (2, l - 1, 2) by simp [bdR, h, e]]
          have := of_decide_eq_true hl
          exact bd_try_on l (by simpa using e) (IntWalk.i64_in _ (by omega)) h w
theorem text (k l : Int) (w : World) : Calls Tryd.prog 16 #[ph k l] w fun e w' => e = .returned (.string (textB k l)) ∧ Below w.heap.size w w' := by
  cases h : mayB k l
  · rw [show textB k l = ⟨#[63]⟩ by simp [textB, h]]; exact text_bad k l h w
  · rcases may_kind h with ⟨rfl, rfl⟩ | ⟨rfl | rfl, hl⟩
    · rw [show textB 0 0 = ⟨#[114, 101, 115, 116, 115]⟩ by simp [textB, h]]; exact text_rest 0 h w
    · rw [show textB 1 l = ⟨#[119, 97, 105, 116, 115, 32]⟩ ++ dig l by simp [textB, h]]; exact text_waits l h hl w
    · rw [show textB 2 l = ⟨#[116, 114, 105, 97, 108, 32]⟩ ++ dig l by simp [textB, h]]; exact text_trial l h hl w
end Go.Proofs.YtojielokkpmjeaaDoor.tr
