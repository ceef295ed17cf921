/- The reference of trial: Commit, Boundary, Text as one contract each. -/
import Derived.Test.YtojielokkpmjeaaDoorRows
import Derived.Test.YtojielokkpmjeaaDoorTrialG
import Derived.Test.YtojielokkpmjeaaDoorTrialH
namespace Go.Proofs.YtojielokkpmjeaaDoor.tr
open Go Go.ChangeShapes Go.WideShapes Go.ChangeAt Go.RowKit
theorem rcommit (k l n : Int) (w : World) : Calls Tryd.prog 12 #[rf k l, .int .i64 n] w fun e w' => e = .returned (.tuple #[rf (cmR k l n).1 (cmR k l n).2.1, .int .i64 (cmR k l n).2.2]) ∧ Below w.heap.size w w' := by
  cases h : mayB k l
  · rw [show cmR k l n = (0, 0, 2) by simp [cmR, h]]; exact rc_bad k l n h w
  · by_cases g1 : n < 1
    · rw [show cmR k l n = (0, 0, 2) by simp [cmR, h, frB_false (n := n) (by omega)]]; exact rc_bad1 k l n h g1 w
    · by_cases g2 : 8 < n
      · rw [show cmR k l n = (0, 0, 2) by simp [cmR, h, frB_false (n := n) (by omega)]]; exact rc_bad2 k l n h g1 g2 w
      · have h2 : frB n = true := frB_true (by omega) (by omega)
        by_cases h3 : k = 0
        · subst h3
          rw [show cmR 0 l n = (1, n, 0) by simp [cmR, h, h2]]; exact rc_ok l n h g1 g2 w
        · rw [show cmR k l n = (0, 0, 270) by simp [cmR, h, h2, h3]]; exact rc_busy k l n h g1 g2 (by simpa using h3) w
theorem rboundary (k l : Int) (g : Bool) (w : World) : Calls Tryd.prog 13 #[rf k l, .bool g] w fun e w' => e = .returned (.tuple #[rf (bdR k l g).1 (bdR k l g).2.1, .int .i64 (bdR k l g).2.2]) ∧ Below w.heap.size w w' := by
  cases h : mayB k l
  · rw [show bdR k l g = (0, 0, 0) by simp [bdR, h]]
    cases g
    · exact rb_bad_false k l h w
    · exact rb_bad_true k l h w
  · rcases may_kind h with ⟨rfl, rfl⟩ | ⟨rfl | rfl, hl⟩
    · rw [show bdR 0 0 g = (0, 0, 0) by simp [bdR]]
      cases g
      · exact rb_rest_false 0 h w
      · exact rb_rest_true 0 h w
    · rw [show bdR 1 l g = (2, l, 1) by simp [bdR, h]]
      cases g
      · exact rb_take_false l h w
      · exact rb_take_true l h w
    · cases g
      · rw [show bdR 2 l false = (0, 0, 4) by simp [bdR, h]]
        exact rb_try_bad l h w
      · by_cases e : l = 1
        · subst e
          rw [show bdR 2 1 true = (0, 0, 3) by simp [bdR, h]]
          exact rb_try_last h w
        · rw [show bdR 2 l true = (2, l - 1, 2) by simp [bdR, h, e]]
          have := of_decide_eq_true hl
          exact rb_try_on l (by simpa using e) (IntWalk.i64_in _ (by omega)) h w
theorem rtext (k l : Int) (w : World) : Calls Tryd.prog 17 #[rf k l] w fun e w' => e = .returned (.string (textB k l)) ∧ Below w.heap.size w w' := by
  cases h : mayB k l
  · rw [show textB k l = ⟨#[63]⟩ by simp [textB, h]]; exact rt_bad k l h w
  · rcases may_kind h with ⟨rfl, rfl⟩ | ⟨rfl | rfl, hl⟩
    · rw [show textB 0 0 = ⟨#[114, 101, 115, 116, 115]⟩ by simp [textB, h]]; exact rt_rest 0 h w
    · rw [show textB 1 l = ⟨#[119, 97, 105, 116, 115, 32]⟩ ++ dig l by simp [textB, h]]
      rcases eight hl with rfl | rfl | rfl | rfl | rfl | rfl | rfl | rfl
      · exact rt_waits1 h w
      · exact rt_waits2 h w
      · exact rt_waits3 h w
      · exact rt_waits4 h w
      · exact rt_waits5 h w
      · exact rt_waits6 h w
      · exact rt_waits7 h w
      · exact rt_waits8 h w
    · rw [show textB 2 l = ⟨#[116, 114, 105, 97, 108, 32]⟩ ++ dig l by simp [textB, h]]
      rcases eight hl with rfl | rfl | rfl | rfl | rfl | rfl | rfl | rfl
      · exact rt_trial1 h w
      · exact rt_trial2 h w
      · exact rt_trial3 h w
      · exact rt_trial4 h w
      · exact rt_trial5 h w
      · exact rt_trial6 h w
      · exact rt_trial7 h w
      · exact rt_trial8 h w
theorem cm_bound (k l n : Int) : 0 ≤ (cmR k l n).1 ∧ (cmR k l n).1 ≤ 1 := by
  unfold cmR; split
  · simp
  · split <;> simp
theorem bd_bound (k l : Int) (g : Bool) : 0 ≤ (bdR k l g).1 ∧ (bdR k l g).1 ≤ 2 ∧ 0 ≤ (bdR k l g).2.2 ∧ (bdR k l g).2.2 ≤ 4 := by
  unfold bdR
  repeat' split
  all_goals simp
end Go.Proofs.YtojielokkpmjeaaDoor.tr
