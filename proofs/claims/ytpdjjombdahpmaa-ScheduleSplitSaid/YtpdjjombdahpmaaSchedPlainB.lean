/- The schedule in plain Lean, more: each tick is one's; one window behind the other; a window cut in two. No condition. -/
import Derived.Test.YtpdjjombdahpmaaSchedPlain
namespace Go.Proofs.Ytpdjjombdahpmaa
open Go
theorem ticksOf_at (l : List Win) : ∀ (k j : Nat) (p : Win), l[k]? = some p → j < p.1.toNat → (ticksOf l)[(ticksOf (l.take k)).length + j]? = some p.2 := by
  induction l with
  | nil => intro k j p h; simp at h
  | cons x l ih =>
    intro k j p h hj
    cases k with
    | zero =>
      simp at h
      subst h
      simp only [List.take_zero, ticksOf, List.flatMap_nil, List.length_nil, Nat.zero_add, List.flatMap_cons]
      rw [List.getElem?_append_left (by simpa using hj)]
      simp [hj]
    | succ k =>
      have := ih k j p (by simpa using h) hj
      simp only [ticksOf, List.take_succ_cons, List.flatMap_cons, List.length_append, List.length_replicate] at this ⊢
      rw [List.getElem?_append_right (by simp; omega)]
      simp only [List.length_replicate]
      rw [show x.1.toNat + (List.flatMap (fun x => List.replicate x.1.toNat x.2) (l.take k)).length + j - x.1.toNat = (List.flatMap (fun x => List.replicate x.1.toNat x.2) (l.take k)).length + j from by omega]
      exact this
theorem take_all {l : List Win} (h : l.all okW = true) (k : Nat) : (l.take k).all okW = true := by
  rw [List.all_eq_true] at h ⊢
  exact fun z hz => h z (List.mem_of_mem_take hz)
theorem may_of_frame {l : List Win} (h : 0 < frameW l) : mayW l = true ∧ frameW l = sumW l := by
  unfold frameW at h ⊢
  split at h
  · rename_i hm; exact ⟨hm, by rw [if_pos hm]⟩
  · omega
/-- Each tick of the frame: its window, what At tells, what Whole tells. -/
theorem tick_at {l : List Win} {t : Int} (h0 : 0 ≤ t) (hf : t < frameW l) :
    ∃ (k : Nat) (x y : Int), l[k]? = some (x, y) ∧ k < l.length ∧ 1 ≤ x ∧ sumW (l.take k) ≤ t ∧ t < sumW (l.take k) + x ∧ atW l t = ((k : Int), y, sumW (l.take k), sumW (l.take k) + x - t) ∧ (wholeW l)[t.toNat]? = some y := by
  obtain ⟨hm, hs⟩ := may_of_frame (l := l) (by omega)
  obtain ⟨y1, y2, y3, y4, y5⟩ := mayW_yes hm
  obtain ⟨k, ⟨x, y⟩, h1, h2, h3⟩ := win_of t l h0 (by omega)
  have hk : k < l.length := (List.getElem?_eq_some_iff.1 h1).1
  have hok := (okW_iff _).1 (all_at y3 h1)
  simp only at h3 hok
  have hl := ticksOf_length (l.take k) (take_all y3 k)
  refine ⟨k, x, y, h1, hk, hok.1, h2, h3, atW_at hm h1 h2 h3 h0 hf, ?_⟩
  unfold wholeW
  rw [if_pos hm]
  have := ticksOf_at l k (t - sumW (l.take k)).toNat (x, y) h1 (by simp only; omega)
  rw [show (ticksOf (l.take k)).length + (t - sumW (l.take k)).toNat = t.toNat from by omega] at this
  exact this
theorem whole_mem {l : List Win} {y : Int} (h : y ∈ wholeW l) : 0 ≤ y ∧ y ≤ 6 := by
  unfold wholeW at h
  split at h
  · rename_i hm
    obtain ⟨y1, y2, y3, y4, y5⟩ := mayW_yes hm
    simp only [ticksOf, List.mem_flatMap] at h
    obtain ⟨p, hp, hy⟩ := h
    have := (okW_iff p).1 (List.all_eq_true.1 y3 p hp)
    have e : y = p.2 := List.eq_of_mem_replicate hy
    omega
  · cases h
def sumT (l : List Win) : Nat → Int
  | 0 => 0
  | n + 1 => sumT l n + ticksW l n
theorem count_sum (W : List Int) (h : ∀ y ∈ W, 0 ≤ y ∧ y ≤ 6) : countW 0 W + countW 1 W + countW 2 W + countW 3 W + countW 4 W + countW 5 W + countW 6 W = W.length ∧ countW (-1) W = 0 ∧ countW 7 W = 0 := by
  induction W with
  | nil => simp [countW]
  | cons x W ih =>
    obtain ⟨h1, h2, h3⟩ := ih fun y hy => h y (List.mem_cons_of_mem _ hy)
    have hx := h x (List.mem_cons_self ..)
    simp only [countW, List.length_cons]
    have : x = 0 ∨ x = 1 ∨ x = 2 ∨ x = 3 ∨ x = 4 ∨ x = 5 ∨ x = 6 := by omega
    rcases this with rfl | rfl | rfl | rfl | rfl | rfl | rfl <;> simp <;> omega
theorem sumT_all (l : List Win) : sumT l 7 = frameW l ∧ ticksW l (-1) = 0 ∧ ticksW l 7 = 0 := by
  obtain ⟨h1, h2, h3⟩ := count_sum (wholeW l) fun y hy => whole_mem hy
  rw [wholeW_length] at h1
  refine ⟨?_, h2, h3⟩
  show 0 + ticksW l ((0 : Nat) : Int) + ticksW l ((1 : Nat) : Int) + ticksW l ((2 : Nat) : Int) + ticksW l ((3 : Nat) : Int) + ticksW l ((4 : Nat) : Int) + ticksW l ((5 : Nat) : Int) + ticksW l ((6 : Nat) : Int) = frameW l
  rw [← h1]
  unfold ticksW
  simp
theorem ticksW_bd (l : List Win) (p : Int) : 0 ≤ ticksW l p ∧ ticksW l p ≤ 64 := by
  have h1 := countW_bd p (wholeW l)
  have h2 := wholeW_length l
  have h3 := frameW_bd l
  unfold ticksW
  omega
theorem sumT_bd (l : List Win) (n : Nat) : 0 ≤ sumT l n ∧ sumT l n ≤ 64 * n := by
  induction n with
  | zero => simp [sumT]
  | succ n ih => have := ticksW_bd l n; simp only [sumT]; omega
theorem frame_may (l : List Win) : decide (0 < frameW l) = mayW l := by
  cases hm : mayW l with
  | true => have := mayW_yes hm; simp only [decide_eq_true_eq]; unfold frameW; rw [hm]; simp; omega
  | false => unfold frameW; rw [hm]; simp
/-- Where the tick ahead of i stands; ahead of the first one: a mark. -/
def prevW (l : List Win) (i : Nat) : Int × Int × Int × Int := if i = 0 then (-1, 0, 0, 1) else atW l ((i : Int) - 1)
theorem prevW_step (l : List Win) (i : Nat) : prevW l (i + 1) = atW l i := by
  unfold prevW
  rw [if_neg (by omega), show ((i + 1 : Nat) : Int) - 1 = (i : Int) from by omega]
/-- From tick to tick. -/
theorem next_at {l : List Win} {i : Nat} (hf : (i : Int) < frameW l) :
    ∃ (k : Nat) (x y : Int), l[k]? = some (x, y) ∧ k < l.length ∧ (atW l i).1 = k ∧ (1 < (prevW l i).2.2.2 → atW l i = ((prevW l i).1, (prevW l i).2.1, (prevW l i).2.2.1, (prevW l i).2.2.2 - 1)) ∧
      ((prevW l i).2.2.2 ≤ 1 → (k : Int) = (prevW l i).1 + 1 ∧ atW l i = ((k : Int), y, (i : Int), x)) ∧ 1 ≤ (atW l i).2.2.2 ∧ (atW l i).2.2.2 ≤ 64 ∧ -1 ≤ (prevW l i).1 ∧ (prevW l i).1 ≤ 12 ∧ -64 ≤ (prevW l i).2.2.2 ∧ (prevW l i).2.2.2 ≤ 64 := by
  obtain ⟨hm, hs⟩ := may_of_frame (l := l) (by omega)
  obtain ⟨y1, y2, y3, y4, y5⟩ := mayW_yes hm
  obtain ⟨k, x, y, h1, hk, hx, h2, h3, h4, _⟩ := tick_at (t := i) (by omega) hf
  have hkb := sumW_bd (l.take k) (take_all y3 k)
  have hxo := (okW_iff _).1 (all_at y3 h1)
  simp only at hxo
  by_cases hi : i = 0
  · subst hi
    have hk0 : k = 0 := by
      rw [List.length_take] at hkb
      omega
    subst hk0
    refine ⟨0, x, y, h1, hk, by rw [h4], ?_, ?_, by rw [h4]; simp only; omega, by rw [h4]; simp only [List.take_zero, sumW]; omega, ?_⟩
    · intro h; simp [prevW] at h
    · intro _
      refine ⟨by simp [prevW], ?_⟩
      rw [h4]
      simp [sumW]
    · simp [prevW]
  · have hp : prevW l i = atW l ((i : Int) - 1) := by unfold prevW; rw [if_neg hi]
    obtain ⟨k', x', y', g1, gk, gx, g2, g3, g4, _⟩ := tick_at (l := l) (t := (i : Int) - 1) (by omega) (by omega)
    have gxo := (okW_iff _).1 (all_at y3 g1)
    have gkb := sumW_bd (l.take k') (take_all y3 k')
    simp only at gxo
    rw [hp, g4]
    simp only
    by_cases hsame : (i : Int) < sumW (l.take k') + x'
    · have e := atW_at hm g1 (by omega) hsame (by omega : (0 : Int) ≤ i) hf
      simp only at e
      rw [e] at h4 ⊢
      refine ⟨k', x', y', g1, gk, rfl, fun _ => ?_, fun h => ?_, by simp only; omega, by simp only; omega, by omega, by omega, by omega, by omega⟩
      · simp only [Prod.mk.injEq, true_and]; omega
      · omega
    · have hnext : (i : Int) = sumW (l.take (k' + 1)) := by rw [sumW_snoc g1]; simp only; omega
      have hk1 : k' + 1 < l.length := by
        rcases Nat.lt_or_ge (k' + 1) l.length with h | h
        · exact h
        · rw [List.take_of_length_le h] at hnext; omega
      obtain ⟨⟨x2, y2'⟩, hp2⟩ : ∃ p, l[k' + 1]? = some p := ⟨l[k' + 1], List.getElem?_eq_getElem hk1⟩
      have hxo2 := (okW_iff _).1 (all_at y3 hp2)
      simp only at hxo2
      have e := atW_at hm hp2 (by omega) (by simp only; omega) (by omega : (0 : Int) ≤ i) hf
      simp only at e
      rw [e]
      refine ⟨k' + 1, x2, y2', hp2, hk1, rfl, fun h => ?_, fun _ => ⟨by omega, ?_⟩, by simp only; omega, by simp only; omega, by omega, by omega, by omega, by omega⟩
      · omega
      · simp only [Prod.mk.injEq, true_and]; omega
/-- Behind the last tick. -/
theorem prev_end {l : List Win} (hm : mayW l = true) : prevW l (frameW l).toNat = ((l.length : Int) - 1, (prevW l (frameW l).toNat).2.1, (prevW l (frameW l).toNat).2.2.1, 1) := by
  obtain ⟨y1, y2, y3, y4, y5⟩ := mayW_yes hm
  have hs : frameW l = sumW l := by unfold frameW; rw [hm]; rfl
  have hp : prevW l (frameW l).toNat = atW l (frameW l - 1) := by
    unfold prevW
    rw [if_neg (by omega), Int.toNat_of_nonneg (by omega)]
  obtain ⟨k, x, y, h1, hk, hx, h2, h3, h4, _⟩ := tick_at (l := l) (t := frameW l - 1) (by omega) (by omega)
  have hk1 : k + 1 = l.length := by
    rcases Nat.lt_or_ge (k + 1) l.length with h | h
    · exfalso
      have hsp := sumW_split l (k + 1)
      have hd := sumW_bd (l.drop (k + 1)) (by rw [List.all_eq_true] at y3 ⊢; exact fun z hz => y3 z (List.mem_of_mem_drop hz))
      rw [sumW_snoc h1, List.length_drop] at *
      simp only at hsp
      omega
    · omega
  have hsum : sumW l = sumW (l.take k) + x := by
    have := sumW_snoc h1
    rw [hk1, List.take_length] at this
    exact this
  rw [hp, h4]
  simp only [Prod.mk.injEq, true_and]
  omega
/-- A window cut in two. -/
def splitW (l : List Win) (k : Nat) (n : Int) (x y : Int) : List Win := l.take k ++ [(n, y), (x - n, y)] ++ l.drop (k + 1)
theorem splitW_length {l : List Win} {k : Nat} (n x y : Int) (hk : k < l.length) : (splitW l k n x y).length = l.length + 1 := by
  simp only [splitW, List.length_append, List.length_take, List.length_drop, List.length_cons, List.length_nil]
  omega
theorem list_cut {l : List Win} {k : Nat} {p : Win} (h : l[k]? = some p) : l = l.take k ++ [p] ++ l.drop (k + 1) := by
  rw [← take_snoc h, List.take_append_drop]
theorem splitW_whole {l : List Win} {k : Nat} {n x y : Int} (hm : mayW l = true) (hl : l.length < 12) (hp : l[k]? = some (x, y)) (h1 : 1 ≤ n) (h2 : n < x) : wholeW (splitW l k n x y) = wholeW l ∧ 0 < (wholeW l).length := by
  obtain ⟨y1, y2, y3, y4, y5⟩ := mayW_yes hm
  have hk : k < l.length := (List.getElem?_eq_some_iff.1 hp).1
  have hok := (okW_iff _).1 (all_at y3 hp)
  simp only at hok
  have hcut := list_cut hp
  have hsum : sumW (splitW l k n x y) = sumW l := by
    have hc := congrArg sumW hcut
    simp only [sumW_append, sumW] at hc
    simp only [splitW, sumW_append, sumW]
    omega
  have hall : (splitW l k n x y).all okW = true := by
    rw [List.all_eq_true] at y3 ⊢
    intro z hz
    simp only [splitW, List.mem_append, List.mem_cons, List.not_mem_nil, or_false] at hz
    rcases hz with (hz | rfl | rfl) | hz
    · exact y3 z (List.mem_of_mem_take hz)
    · rw [okW_iff]; simp only; omega
    · rw [okW_iff]; simp only; omega
    · exact y3 z (List.mem_of_mem_drop hz)
  have hlen := splitW_length n x y hk
  have hm' : mayW (splitW l k n x y) = true := by
    rw [mayW_of (by omega) (by omega) hall, hsum]
    simpa using y4
  have ht : ticksOf (splitW l k n x y) = ticksOf l := by
    have e : List.replicate n.toNat y ++ List.replicate (x - n).toNat y = List.replicate x.toNat y := by
      rw [List.replicate_append_replicate]
      congr 1
      omega
    have e2 : ticksOf [(n, y), (x - n, y)] = ticksOf [(x, y)] := by simpa [ticksOf] using e
    have hc := congrArg ticksOf hcut
    rw [ticksOf_append, ticksOf_append] at hc
    rw [splitW, ticksOf_append, ticksOf_append, e2]
    exact hc.symm
  refine ⟨?_, ?_⟩
  · unfold wholeW
    rw [hm, hm', if_pos rfl, if_pos rfl, ht]
  · have h3 := wholeW_length l
    have h4 : frameW l = sumW l := by unfold frameW; rw [hm]; rfl
    omega
end Go.Proofs.Ytpdjjombdahpmaa
