/- The first place of a list; no condition. -/
import Derived.Test.YthkkmnckidfmkaaLib
namespace Go.Proofs.Ythkkmnckidfmkaa
/-- The place of the first element of which f holds; -1: of none. -/
def firstI {α : Type} (f : α → Bool) : List α → Int
  | [] => -1
  | x :: l => if f x = true then 0 else if firstI f l < 0 then -1 else firstI f l + 1
theorem firstI_lo {α : Type} (f : α → Bool) : ∀ l : List α, -1 ≤ firstI f l
  | [] => by simp [firstI]
  | x :: l => by
    have := firstI_lo f l
    unfold firstI; split
    · omega
    · split <;> omega
theorem firstI_at {α : Type} (f : α → Bool) : ∀ (l : List α) (k : Nat) (p : α), l[k]? = some p → f p = true → (∀ (j : Nat) (q : α), j < k → l[j]? = some q → f q = false) → firstI f l = k
  | [], k, p, h, _, _ => by simp at h
  | x :: l, 0, p, h, hp, _ => by simp at h; subst h; simp [firstI, hp]
  | x :: l, k + 1, p, h, hp, hn => by
    have hx : f x = false := hn 0 x (by omega) rfl
    have ih := firstI_at f l k p (by simpa using h) hp (fun j q hj hq => hn (j + 1) q (by omega) (by simpa using hq))
    unfold firstI
    rw [if_neg (by rw [hx]; decide), ih, if_neg (by omega)]
    omega
theorem firstI_none {α : Type} (f : α → Bool) : ∀ (l : List α), (∀ (j : Nat) (q : α), j < l.length → l[j]? = some q → f q = false) → firstI f l = -1
  | [], _ => rfl
  | x :: l, hn => by
    have hx : f x = false := hn 0 x (by simp) rfl
    have ih := firstI_none f l (fun j q hj hq => hn (j + 1) q (by simpa using hj) (by simpa using hq))
    unfold firstI
    rw [if_neg (by rw [hx]; decide), ih, if_pos (by decide)]
theorem firstI_any {α : Type} (f : α → Bool) : ∀ (l : List α), l.any f = decide (0 ≤ firstI f l)
  | [] => by simp [firstI]
  | x :: l => by
    have ih := firstI_any f l
    rw [List.any_cons]
    unfold firstI
    by_cases hx : f x = true
    · rw [hx, if_pos rfl]; simp
    · rw [if_neg hx, show f x = false by simpa using hx, Bool.false_or, ih]
      by_cases h : firstI f l < 0
      · rw [if_pos h, decide_eq_false (by omega)]; simp
      · rw [if_neg h, decide_eq_true (by omega), decide_eq_true (by omega)]
theorem firstI_spec {α : Type} (f : α → Bool) : ∀ (l : List α), (firstI f l = -1 ∧ ∀ x ∈ l, f x = false) ∨ ∃ (k : Nat) (p : α), firstI f l = k ∧ l[k]? = some p ∧ f p = true ∧ ∀ (j : Nat) (q : α), j < k → l[j]? = some q → f q = false
  | [] => .inl ⟨rfl, fun _ h => by cases h⟩
  | x :: l => by
    by_cases hx : f x = true
    · exact .inr ⟨0, x, by simp [firstI, hx], rfl, hx, fun j q hj => absurd hj (Nat.not_lt_zero _)⟩
    · have hx' : f x = false := by simpa using hx
      rcases firstI_spec f l with ⟨h1, h2⟩ | ⟨k, p, h1, h2, h3, h4⟩
      · refine .inl ⟨by unfold firstI; rw [if_neg hx, h1, if_pos (by decide)], fun y hy => ?_⟩
        rcases List.mem_cons.1 hy with rfl | hy
        · exact hx'
        · exact h2 y hy
      · refine .inr ⟨k + 1, p, by unfold firstI; rw [if_neg hx, h1, if_neg (by omega)]; omega, by simpa using h2, h3, fun j q hj hq => ?_⟩
        cases j with
        | zero => simp at hq; subst hq; exact hx'
        | succ j => exact h4 j q (by omega) (by simpa using hq)
end Go.Proofs.Ythkkmnckidfmkaa
