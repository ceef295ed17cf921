/- The schedule in plain Lean: windows, frames, whose ticks; no program in sight. No condition. -/
import Derived.Test.YtpdjjombdahpmaaLib
namespace Go.Proofs.Ytpdjjombdahpmaa
open Go
abbrev Win := Int × Int
def okW (x : Win) : Bool := decide (1 ≤ x.1 ∧ x.1 ≤ 64 ∧ 0 ≤ x.2 ∧ x.2 ≤ 6)
def sumW : List Win → Int
  | [] => 0
  | x :: l => x.1 + sumW l
def mayW (l : List Win) : Bool := decide (1 ≤ l.length) && decide (l.length ≤ 12) && l.all okW && decide (sumW l ≤ 64)
def frameW (l : List Win) : Int := if mayW l = true then sumW l else 0
def ticksOf (l : List Win) : List Int := l.flatMap fun x => List.replicate x.1.toNat x.2
def wholeW (l : List Win) : List Int := if mayW l = true then ticksOf l else []
def countW (p : Int) : List Int → Int
  | [] => 0
  | x :: l => (if x = p then 1 else 0) + countW p l
def ticksW (l : List Win) (p : Int) : Int := countW p (wholeW l)
/-- Where tick t stands: window, part, first, left. -/
def atGo (t : Int) : List Win → Int → Int → Int × Int × Int × Int
  | [], _, _ => (0, 0, 0, 0)
  | x :: l, i, f => if t < f + x.1 then (i, x.2, f, f + x.1 - t) else atGo t l (i + 1) (f + x.1)
def atW (l : List Win) (t : Int) : Int × Int × Int × Int := if 0 ≤ t ∧ t < frameW l then atGo t l 0 0 else (0, 0, 0, 0)
def atE (l : List Win) (t : Int) : Int := if 0 ≤ t ∧ t < frameW l then 0 else 90
def winCells (l : List Win) : List Value := l.flatMap fun x => [.int .i64 x.1, .int .i64 x.2]
theorem winCells_length (l : List Win) : (winCells l).length = l.length * 2 := by
  induction l with
  | nil => rfl
  | cons x l ih => simp only [winCells, List.flatMap_cons, List.length_append, List.length_cons, List.length_nil] at ih ⊢; omega
theorem winCells_at (l : List Win) (k : Nat) (p : Win) (h : l[k]? = some p) : (winCells l)[k * 2]? = some (.int .i64 p.1) ∧ (winCells l)[k * 2 + 1]? = some (.int .i64 p.2) := by
  induction l generalizing k with
  | nil => simp at h
  | cons x l ih =>
    cases k with
    | zero => simp at h; subst h; exact ⟨rfl, rfl⟩
    | succ k =>
      have := ih k (by simpa using h)
      have e : (k + 1) * 2 = k * 2 + 2 := by omega
      simp only [winCells, List.flatMap_cons] at this ⊢
      rw [e]
      exact ⟨by simpa using this.1, by simpa using this.2⟩
theorem winCells_one (l : List Win) : ∀ u ∈ winCells l, u.oneCell' = true := by
  intro u hu
  simp only [winCells, List.mem_flatMap] at hu
  obtain ⟨x, _, hx⟩ := hu
  simp at hx
  rcases hx with rfl | rfl <;> rfl
theorem winCells_append (a b : List Win) : winCells (a ++ b) = winCells a ++ winCells b := by simp [winCells]
theorem winCells_drop (l : List Win) (k : Nat) : (winCells l).drop (k * 2) = winCells (l.drop k) := by
  induction l generalizing k with
  | nil => simp [winCells]
  | cons x l ih =>
    cases k with
    | zero => simp
    | succ k =>
      have e : (k + 1) * 2 = k * 2 + 2 := by omega
      have := ih k
      simp only [winCells, List.flatMap_cons] at this ⊢
      rw [e]
      simpa using this
theorem winCells_take (l : List Win) (k : Nat) : (winCells l).take (k * 2) = winCells (l.take k) := by
  induction l generalizing k with
  | nil => simp [winCells]
  | cons x l ih =>
    cases k with
    | zero => simp [winCells]
    | succ k =>
      have e : (k + 1) * 2 = k * 2 + 2 := by omega
      have := ih k
      simp only [winCells, List.flatMap_cons, List.take_succ_cons] at this ⊢
      rw [e]
      simpa using this
theorem take_snoc {α : Type} {l : List α} {k : Nat} {p : α} (h : l[k]? = some p) : l.take (k + 1) = l.take k ++ [p] := by
  rw [List.take_add_one, h]; rfl
theorem sumW_append (a b : List Win) : sumW (a ++ b) = sumW a + sumW b := by
  induction a with
  | nil => simp [sumW]
  | cons x a ih => simp only [List.cons_append, sumW, ih]; omega
theorem sumW_snoc {l : List Win} {k : Nat} {p : Win} (h : l[k]? = some p) : sumW (l.take (k + 1)) = sumW (l.take k) + p.1 := by
  rw [take_snoc h, sumW_append]; simp [sumW]
theorem sumW_split (l : List Win) (k : Nat) : sumW l = sumW (l.take k) + sumW (l.drop k) := by
  rw [← sumW_append, List.take_append_drop]
theorem okW_iff (x : Win) : okW x = true ↔ 1 ≤ x.1 ∧ x.1 ≤ 64 ∧ 0 ≤ x.2 ∧ x.2 ≤ 6 := by simp [okW]
theorem sumW_bd (l : List Win) (h : l.all okW = true) : (l.length : Int) ≤ sumW l ∧ sumW l ≤ 64 * l.length := by
  induction l with
  | nil => simp [sumW]
  | cons x l ih =>
    simp only [List.all_cons, Bool.and_eq_true] at h
    have := ih h.2
    have := (okW_iff x).1 h.1
    simp only [sumW, List.length_cons]
    omega
theorem all_snoc {l : List Win} {k : Nat} {p : Win} (h : l[k]? = some p) (ha : (l.take k).all okW = true) (hp : okW p = true) : (l.take (k + 1)).all okW = true := by
  rw [take_snoc h]; simp [ha, hp]
theorem all_at {l : List Win} {k : Nat} {p : Win} (ha : l.all okW = true) (h : l[k]? = some p) : okW p = true :=
  List.all_eq_true.1 ha p (List.mem_of_getElem? h)
theorem mayW_bad {l : List Win} {k : Nat} {p : Win} (h : l[k]? = some p) (hp : okW p = false) : mayW l = false := by
  have : l.all okW = false := by
    rw [Bool.eq_false_iff]
    intro ha
    rw [all_at ha h] at hp
    cases hp
  simp [mayW, this]
theorem mayW_none (l : List Win) (h : l.length < 1) : mayW l = false := by simp [mayW]; omega
theorem mayW_many (l : List Win) (h : 12 < l.length) : mayW l = false := by simp [mayW]; omega
theorem mayW_of {l : List Win} (h1 : 1 ≤ l.length) (h2 : l.length ≤ 12) (ha : l.all okW = true) : mayW l = decide (sumW l ≤ 64) := by
  simp [mayW, ha, h1, h2]
theorem mayW_yes {l : List Win} (h : mayW l = true) : 1 ≤ l.length ∧ l.length ≤ 12 ∧ l.all okW = true ∧ sumW l ≤ 64 ∧ (l.length : Int) ≤ sumW l := by
  simp only [mayW, Bool.and_eq_true, decide_eq_true_eq] at h
  exact ⟨h.1.1.1, h.1.1.2, h.1.2, h.2, (sumW_bd l h.1.2).1⟩
theorem frameW_bd (l : List Win) : 0 ≤ frameW l ∧ frameW l ≤ 64 := by
  unfold frameW
  split
  · rename_i h
    have := mayW_yes h
    omega
  · omega
theorem ticksOf_append (a b : List Win) : ticksOf (a ++ b) = ticksOf a ++ ticksOf b := by simp [ticksOf]
theorem ticksOf_snoc {l : List Win} {k : Nat} {p : Win} (h : l[k]? = some p) : ticksOf (l.take (k + 1)) = ticksOf (l.take k) ++ List.replicate p.1.toNat p.2 := by
  rw [take_snoc h, ticksOf_append]; simp [ticksOf]
theorem ticksOf_length (l : List Win) (h : l.all okW = true) : ((ticksOf l).length : Int) = sumW l := by
  induction l with
  | nil => rfl
  | cons x l ih =>
    simp only [List.all_cons, Bool.and_eq_true] at h
    have := ih h.2
    have := (okW_iff x).1 h.1
    simp only [ticksOf, List.flatMap_cons, List.length_append, List.length_replicate, sumW] at this ⊢
    simp only [ticksOf] at *
    omega
theorem wholeW_length (l : List Win) : ((wholeW l).length : Int) = frameW l := by
  unfold wholeW frameW
  split
  · rename_i h
    exact ticksOf_length l (mayW_yes h).2.2.1
  · rfl
theorem countW_append (p : Int) (a b : List Int) : countW p (a ++ b) = countW p a + countW p b := by
  induction a with
  | nil => simp [countW]
  | cons x a ih => simp only [List.cons_append, countW, ih]; omega
theorem countW_snoc {p : Int} {l : List Int} {k : Nat} {x : Int} (h : l[k]? = some x) : countW p (l.take (k + 1)) = countW p (l.take k) + if x = p then 1 else 0 := by
  rw [take_snoc h, countW_append]; simp [countW]
theorem countW_bd (p : Int) (l : List Int) : 0 ≤ countW p l ∧ countW p l ≤ l.length := by
  induction l with
  | nil => simp [countW]
  | cons x l ih => simp only [countW, List.length_cons]; split <;> omega
theorem atGo_at (t : Int) (l : List Win) : ∀ (k : Nat) (i f : Int) (p : Win), l[k]? = some p → l.all okW = true → f + sumW (l.take k) ≤ t → t < f + sumW (l.take k) + p.1 →
    atGo t l i f = (i + k, p.2, f + sumW (l.take k), f + sumW (l.take k) + p.1 - t) := by
  induction l with
  | nil => intro k i f p h; simp at h
  | cons x l ih =>
    intro k i f p h ha h1 h2
    simp only [List.all_cons, Bool.and_eq_true] at ha
    cases k with
    | zero =>
      simp at h
      subst h
      simp only [List.take_zero, sumW, Int.add_zero] at h1 h2 ⊢
      unfold atGo
      rw [if_pos h2]
      simp
    | succ k =>
      have hk : k ≤ l.length := by
        have := (List.getElem?_eq_some_iff.1 h).1
        simp at this
        omega
      have hs := (sumW_bd (l.take k) (by
        rw [List.all_eq_true] at ha ⊢
        exact fun y hy => ha.2 y (List.mem_of_mem_take hy))).1
      simp only [List.take_succ_cons, sumW] at h1 h2 ⊢
      unfold atGo
      rw [if_neg (by omega), ih k (i + 1) (f + x.1) p (by simpa using h) ha.2 (by omega) (by omega)]
      simp only [Prod.mk.injEq, true_and]
      refine ⟨by omega, by omega, by omega⟩
/-- There is the window of each tick. -/
theorem win_of (t : Int) (l : List Win) : 0 ≤ t → t < sumW l → ∃ (k : Nat) (p : Win), l[k]? = some p ∧ sumW (l.take k) ≤ t ∧ t < sumW (l.take k) + p.1 := by
  induction l generalizing t with
  | nil => intro h1 h2; simp [sumW] at h2; omega
  | cons x l ih =>
    intro h1 h2
    simp only [sumW] at h2
    by_cases h : t < x.1
    · exact ⟨0, x, rfl, by simpa [sumW] using h1, by simpa [sumW] using h⟩
    · obtain ⟨k, p, h3, h4, h5⟩ := ih (t - x.1) (by omega) (by omega)
      exact ⟨k + 1, p, by simpa using h3, by simp only [List.take_succ_cons, sumW]; omega, by simp only [List.take_succ_cons, sumW]; omega⟩
theorem atW_at {l : List Win} {t : Int} {k : Nat} {p : Win} (hm : mayW l = true) (h : l[k]? = some p) (h1 : sumW (l.take k) ≤ t) (h2 : t < sumW (l.take k) + p.1) (h0 : 0 ≤ t) (hf : t < frameW l) :
    atW l t = ((k : Int), p.2, sumW (l.take k), sumW (l.take k) + p.1 - t) := by
  unfold atW
  rw [if_pos ⟨h0, hf⟩, atGo_at t l k 0 0 p h (mayW_yes hm).2.2.1 (by omega) (by omega)]
  simp
end Go.Proofs.Ytpdjjombdahpmaa
