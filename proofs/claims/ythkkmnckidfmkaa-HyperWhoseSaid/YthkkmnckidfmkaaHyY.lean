/- Calls of a partition: whose queues change, in plain terms; no condition. -/
import Derived.Test.YthkkmnckidfmkaaRows
import Derived.Test.YthkkmnckidfmkaaHyJ
namespace Go.Proofs.Ythkkmnckidfmkaa.hy
open Go Go.ChangeShapes Go.WideShapes Go.ChangeAt Go.RowKit Go.Proofs.Ythkkmnckidfmkaa.rows
/-- What a call changes, at most. -/
structure Changes (n : Int) (x p : Pt) (qs qs' : List Qu) (inp inp' : Msg) : Prop where
  queues : qs' = qs ∨ ∃ (i : Nat) (q q' : Qu), qs[i]? = some q ∧ qs' = qs.set i q' ∧ q'.ch = q.ch ∧ (n = 1 ∧ q.ch.fr = x.id ∨ n = 2 ∧ q.ch.to = x.id) ∧ p.st ≠ 4 ∧ q'.msgs.length ≤ q.msgs.length + 1
  input : inp' = inp ∨ n = 4 ∧ inp ≠ [] ∧ inp' = inp.drop 1
  bad : p.st = 4 → qs' = qs ∧ inp' = inp
  part : p.st = 4 ∨ n = 1 ∨ n = 0 ∨ n = 6 → p = { x with st := p.st }
  rest : ¬ (p.st = 4 ∨ n = 1 ∨ n = 0 ∨ n = 6) → p.pc = x.pc ∧ p.id = x.id ∧ p.st = x.st
theorem Changes.len {n : Int} {x p : Pt} {qs qs' : List Qu} {inp inp' : Msg} (h : Changes n x p qs qs' inp inp') : qs'.length = qs.length := by
  rcases h.queues with e | ⟨i, q, q', _, e, _⟩
  · rw [e]
  · rw [e, List.length_set]
theorem put_ch {c y : Ch} {ls l2 : List Msg} {m : Msg} (h : chan.putR c ls m = (y, l2, 0)) : y = c := by
  unfold chan.putR at h
  split at h
  · split at h
    · injection h with _ h; injection h with _ h; exact absurd h (by decide)
    · injection h with h _; exact h.symm
  · injection h with _ h; injection h with _ h; exact absurd h (by decide)
theorem take_ch {c y : Ch} {ls l2 : List Msg} {m : Msg} (h : chan.takeR c ls = (m, y, l2, 0)) : y = c := by
  unfold chan.takeR at h
  split at h
  · split at h
    · injection h with _ h; injection h with _ h; injection h with _ h; exact absurd h (by decide)
    · injection h with _ h; injection h with h _; exact h.symm
  · injection h with _ h; injection h with _ h; injection h with _ h; exact absurd h (by decide)
theorem put_len {c y : Ch} {ls l2 : List Msg} {m : Msg} {E : Int} (h : chan.putR c ls m = (y, l2, E)) : l2.length ≤ ls.length + 1 := by
  unfold chan.putR at h
  split at h
  · split at h
    · injection h with _ h; injection h with h _; subst h; exact Nat.zero_le _
    · injection h with _ h; injection h with h _; subst h
      unfold chan.room
      split
      · simp <;> omega
      · simp
  · injection h with _ h; injection h with h _; subst h; exact Nat.zero_le _
theorem take_len {c y : Ch} {ls l2 : List Msg} {m : Msg} {E : Int} (h : chan.takeR c ls = (m, y, l2, E)) : l2.length ≤ ls.length + 1 := by
  unfold chan.takeR at h
  split at h
  · split at h
    · injection h with _ h; injection h with _ h; injection h with h _; subst h; exact Nat.zero_le _
    · injection h with _ h; injection h with _ h; injection h with h _; subst h; simp <;> omega
  · injection h with _ h; injection h with _ h; injection h with h _; subst h; exact Nat.zero_le _
theorem bad_changes (n : Int) (x : Pt) (qs : List Qu) (inp : Msg) : Changes n x { x with st := 4 } qs qs inp inp :=
  ⟨.inl rfl, .inl rfl, fun _ => ⟨rfl, rfl⟩, fun _ => rfl, fun h => absurd (.inl rfl) h⟩
theorem doV_changes {n : Int} {x p : Pt} {fr tk ver : Int} {qs qs' : List Qu} {inp inp' : Msg} {y : Bool} (hx : x.st = 0) (h : doV n x fr tk ver qs inp = (p, qs', inp', y)) : Changes n x p qs qs' inp inp' := by
  have h04 : ¬ x.st = 4 := by omega
  by_cases h0 : n = 0
  · subst h0
    rw [doV_good (show doesV 0 x fr tk ver qs inp = (true, x, qs, inp, true) by unfold doesV; rw [if_pos rfl])] at h
    simp only [Prod.mk.injEq] at h
    obtain ⟨rfl, rfl, rfl, _⟩ := h
    exact ⟨.inl rfl, .inl rfl, fun _ => ⟨rfl, rfl⟩, fun _ => rfl, fun _ => ⟨rfl, rfl, rfl⟩⟩
  by_cases h1 : n = 1
  · subst h1
    have e : ∀ b r, sendV x qs = (b, r) → doesV 1 x fr tk ver qs inp = (b, x, r, inp, false) := fun b r hs => by unfold doesV; rw [if_neg (by decide), if_pos rfl, hs]
    have no : ∀ r, sendV x qs = (false, r) → r = qs → Changes 1 x p qs qs' inp inp' := fun r hs hr => by
      subst hr
      rw [doV_bad (e _ _ hs)] at h
      simp only [Prod.mk.injEq] at h
      obtain ⟨rfl, rfl, rfl, _⟩ := h
      exact bad_changes 1 x _ _
    rcases qat_spec qs x.r0 with ⟨k1, _⟩ | ⟨k, q, k1, _, k3, _⟩
    · exact no _ (sendV_no k1) rfl
    by_cases h2 : mem.thereE x.mem.length x.r1 x.r2 = 0 ∧ q.ch.fr = x.id
    · obtain ⟨c, l2, E, hr⟩ : ∃ c l2 E, chan.putR q.ch q.msgs (mem.part x.mem x.r1 x.r2) = (c, l2, E) := ⟨_, _, _, rfl⟩
      by_cases hE : E = 0
      · subst hE
        rw [doV_good (e _ _ (sendV_ok k1 h2 hr rfl))] at h
        simp only [Prod.mk.injEq] at h
        obtain ⟨rfl, rfl, rfl, _⟩ := h
        exact ⟨.inr ⟨k, q, ⟨c, l2⟩, k3, rfl, put_ch hr, .inl ⟨rfl, h2.2⟩, h04, put_len hr⟩, .inl rfl, fun h => absurd h h04, fun _ => rfl, fun h => absurd (.inr (.inl rfl)) h⟩
      · exact no _ (sendV_err k1 hr hE) rfl
    · exact no _ (sendV_bad k1 h2) rfl
  by_cases h2 : n = 2
  · subst h2
    have e : ∀ b z r, recvV x qs = (b, z, r) → doesV 2 x fr tk ver qs inp = (b, z, r, inp, false) := fun b z r hs => by unfold doesV; rw [if_neg (by decide), if_neg (by decide), if_pos rfl, hs]
    have no : ∀ z r, recvV x qs = (false, z, r) → r = qs → z = x → Changes 2 x p qs qs' inp inp' := fun z r hs hr hz => by
      subst hr; subst hz
      rw [doV_bad (e _ _ _ hs)] at h
      simp only [Prod.mk.injEq] at h
      obtain ⟨rfl, rfl, rfl, _⟩ := h
      exact bad_changes 2 _ _ _
    rcases qat_spec qs x.r0 with ⟨k1, _⟩ | ⟨k, q, k1, _, k3, _⟩
    · exact no _ _ (recvV_no k1) rfl rfl
    by_cases g2 : mem.thereE x.mem.length x.r1 x.r2 = 0 ∧ q.ch.to = x.id
    · obtain ⟨m, c, l2, E, hr⟩ : ∃ m c l2 E, chan.takeR q.ch q.msgs = (m, c, l2, E) := ⟨_, _, _, _, rfl⟩
      by_cases hE : E = 0
      · subst hE
        rw [doV_good (e _ _ _ (recvV_ok k1 g2 hr rfl))] at h
        simp only [Prod.mk.injEq] at h
        obtain ⟨rfl, rfl, rfl, _⟩ := h
        exact ⟨.inr ⟨k, q, ⟨c, l2⟩, k3, rfl, take_ch hr, .inr ⟨rfl, g2.2⟩, h04, take_len hr⟩, .inl rfl, fun h => absurd h h04, fun h => absurd h (by simp only; omega), fun _ => ⟨rfl, rfl, rfl⟩⟩
      · rw [doV_good (e _ _ _ (recvV_err k1 g2 hr hE))] at h
        simp only [Prod.mk.injEq] at h
        obtain ⟨rfl, rfl, rfl, _⟩ := h
        exact ⟨.inl rfl, .inl rfl, fun _ => ⟨rfl, rfl⟩, fun h => absurd h (by simp only; omega), fun _ => ⟨rfl, rfl, rfl⟩⟩
    · exact no _ _ (recvV_bad k1 g2) rfl rfl
  by_cases h3 : n = 3
  · subst h3
    rw [doV_good (show doesV 3 x fr tk ver qs inp = (true, { x with r0 := fr % 4294967296, r1 := tk % 4294967296 }, qs, inp, false) by unfold doesV; rw [if_neg (by decide), if_neg (by decide), if_neg (by decide), if_pos rfl])] at h
    simp only [Prod.mk.injEq] at h
    obtain ⟨rfl, rfl, rfl, _⟩ := h
    exact ⟨.inl rfl, .inl rfl, fun _ => ⟨rfl, rfl⟩, fun h => absurd h (by simp only; omega), fun _ => ⟨rfl, rfl, rfl⟩⟩
  by_cases h4 : n = 4
  · subst h4
    rw [doV_good (show doesV 4 x fr tk ver qs inp = (true, { x with r0 := inpR inp }, qs, inp.drop 1, false) by unfold doesV; rw [if_neg (by decide), if_neg (by decide), if_neg (by decide), if_neg (by decide), if_pos rfl])] at h
    simp only [Prod.mk.injEq] at h
    obtain ⟨rfl, rfl, rfl, _⟩ := h
    refine ⟨.inl rfl, ?_, fun h => absurd h h04, fun h => absurd h (by simp only; omega), fun _ => ⟨rfl, rfl, rfl⟩⟩
    cases inp with
    | nil => exact .inl rfl
    | cons a l => exact .inr ⟨rfl, by simp, rfl⟩
  by_cases h5 : n = 5
  · subst h5
    rw [doV_good (show doesV 5 x fr tk ver qs inp = (true, { x with r0 := x.id % 4294967296, r1 := ver % 4294967296 }, qs, inp, false) by unfold doesV; rw [if_neg (by decide), if_neg (by decide), if_neg (by decide), if_neg (by decide), if_neg (by decide), if_pos rfl])] at h
    simp only [Prod.mk.injEq] at h
    obtain ⟨rfl, rfl, rfl, _⟩ := h
    exact ⟨.inl rfl, .inl rfl, fun _ => ⟨rfl, rfl⟩, fun h => absurd h (by simp only; omega), fun _ => ⟨rfl, rfl, rfl⟩⟩
  by_cases h6 : n = 6
  · subst h6
    rw [doV_good (show doesV 6 x fr tk ver qs inp = (true, { x with st := 1 }, qs, inp, false) by unfold doesV; rw [if_neg (by decide), if_neg (by decide), if_neg (by decide), if_neg (by decide), if_neg (by decide), if_neg (by decide), if_pos rfl])] at h
    simp only [Prod.mk.injEq] at h
    obtain ⟨rfl, rfl, rfl, _⟩ := h
    exact ⟨.inl rfl, .inl rfl, fun _ => ⟨rfl, rfl⟩, fun _ => rfl, fun h => absurd (.inr (.inr (.inr rfl))) h⟩
  · rw [doV_bad (doesV_out (by omega))] at h
    simp only [Prod.mk.injEq] at h
    obtain ⟨rfl, rfl, rfl, _⟩ := h
    exact bad_changes n x _ _
theorem Changes.lens {n : Int} {x p : Pt} {qs qs' : List Qu} {inp inp' : Msg} (h : Changes n x p qs qs' inp inp') {N : Nat} (hN : ∀ q ∈ qs, q.msgs.length ≤ N) : ∀ q ∈ qs', q.msgs.length ≤ N + 1 := fun a ha => by
  rcases h.queues with e | ⟨i, q, q', hq, e, _, _, _, hl⟩
  · rw [e] at ha; exact Nat.le_succ_of_le (hN a ha)
  · rw [e] at ha
    rcases List.mem_or_eq_of_mem_set ha with ha | rfl
    · exact Nat.le_succ_of_le (hN a ha)
    · exact Nat.le_trans hl (Nat.succ_le_succ (hN q (List.mem_of_getElem? hq)))
/-- How many of the first k queues have changed. -/
def cnt (l m : List Qu) : Nat → Nat
  | 0 => 0
  | k + 1 => cnt l m k + if l[k]? = m[k]? then 0 else 1
theorem cnt_same (l : List Qu) : ∀ k, cnt l l k = 0
  | 0 => rfl
  | k + 1 => by simp [cnt, cnt_same l k]
theorem cnt_set (l : List Qu) (i : Nat) (q : Qu) : ∀ k, cnt (l.set i q) l k ≤ if i < k then 1 else 0
  | 0 => Nat.zero_le _
  | k + 1 => by
    have ih := cnt_set l i q k
    simp only [cnt]
    by_cases hik : i = k
    · subst hik
      rw [if_neg (Nat.lt_irrefl _)] at ih
      rw [if_pos (Nat.lt_succ_self _)]
      split <;> omega
    · have e : (l.set i q)[k]? = l[k]? := by rw [List.getElem?_set, if_neg hik]
      rw [if_pos e]
      by_cases h : i < k
      · rw [if_pos h] at ih; rw [if_pos (by omega)]; omega
      · rw [if_neg h] at ih; rw [if_neg (by omega)]; omega
theorem Changes.cnt_le {n : Int} {x p : Pt} {qs qs' : List Qu} {inp inp' : Msg} (h : Changes n x p qs qs' inp inp') (k : Nat) : cnt qs' qs k ≤ 1 := by
  rcases h.queues with e | ⟨i, q, q', _, e, _⟩
  · rw [e, cnt_same]; exact Nat.zero_le _
  · rw [e]; exact Nat.le_trans (cnt_set qs i q' k) (by split <;> decide)
theorem Changes.turned {n : Int} {x p : Pt} {qs qs' : List Qu} {inp inp' : Msg} (h : Changes n x p qs qs' inp inp') {k : Nat} {a b : Qu} (ha : qs'[k]? = some a) (hb : qs[k]? = some b) (hne : a ≠ b) : a.ch = b.ch ∧ (n = 1 ∧ b.ch.fr = x.id ∨ n = 2 ∧ b.ch.to = x.id) := by
  rcases h.queues with e | ⟨i, q, q', hq, e, hc, hn, _⟩
  · rw [e, hb] at ha; injection ha with ha; exact absurd ha.symm hne
  · by_cases hik : i = k
    · subst hik
      rw [hq] at hb; injection hb with hb; subst hb
      rw [e, List.getElem?_set, if_pos rfl] at ha
      split at ha
      · injection ha with ha; subst ha; exact ⟨hc, hn⟩
      · cases ha
    · rw [e, List.getElem?_set, if_neg hik, hb] at ha
      injection ha with ha; exact absurd ha.symm hne
end Go.Proofs.Ythkkmnckidfmkaa.hy
