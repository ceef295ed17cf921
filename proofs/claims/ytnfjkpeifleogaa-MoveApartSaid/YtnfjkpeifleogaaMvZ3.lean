/- Moves: who is not kept may differ: plain laws; no condition. -/
import Derived.Test.YtnfjkpeifleogaaRows
import Derived.Test.YtnfjkpeifleogaaMvZ
namespace Go.Proofs.Ytnfjkpeifleogaa.mv
open Go Go.ChangeShapes Go.WideShapes Go.ChangeAt Go.RowKit Go.Proofs.Ytnfjkpeifleogaa.rows
/-- The first k elements changed. -/
def touchL {α : Type} (f : α → α) (k : Nat) (l : List α) : List α := (l.take k).map f ++ l.drop k
theorem touchL_zero {α : Type} (f : α → α) (l : List α) : touchL f 0 l = l := by simp [touchL]
theorem touchL_all {α : Type} (f : α → α) (l : List α) {n : Nat} (h : l.length = n) : touchL f n l = l.map f := by subst h; simp [touchL]
theorem touchL_length {α : Type} (f : α → α) (k : Nat) (l : List α) : (touchL f k l).length = l.length := by
  simp [touchL]; omega
theorem touchL_at {α : Type} (f : α → α) {k : Nat} {l : List α} {x : α} (h : l[k]? = some x) : (touchL f k l)[k]? = some x := by
  have hk := (List.getElem?_eq_some_iff.1 h).1
  rw [touchL, List.getElem?_append_right (by simp; omega)]
  simp only [List.length_map, List.length_take, List.getElem?_drop]
  rw [show k + (k - min k l.length) = k by omega]; exact h
theorem touchL_set {α : Type} (f : α → α) {k : Nat} {l : List α} {x : α} (h : l[k]? = some x) : (touchL f k l).set k (f x) = touchL f (k + 1) l := by
  have hk := (List.getElem?_eq_some_iff.1 h).1
  have hl : ((l.take k).map f).length = k := by simp; omega
  have hd : l.drop k = x :: l.drop (k + 1) := by
    rw [List.drop_eq_getElem_cons hk, (List.getElem?_eq_some_iff.1 h).2]
  rw [touchL, touchL, List.set_append_right _ _ (by rw [hl]; exact Nat.le_refl _), hl, Nat.sub_self, hd, List.set_cons_zero, List.take_add_one, h]
  simp
theorem touchL_same {α : Type} (f : α → α) {k : Nat} {l : List α} {x : α} (h : l[k]? = some x) (he : f x = x) : touchL f (k + 1) l = touchL f k l := by
  rw [← touchL_set f h, he]
  apply List.ext_getElem?
  intro j
  rw [List.getElem?_set]
  by_cases hj : k = j
  · subst hj; rw [if_pos rfl, touchL_at f h, if_pos (by rw [touchL_length]; exact (List.getElem?_eq_some_iff.1 h).1)]
  · rw [if_neg hj]
/-- A queue of whose channel x is an end has a message more. -/
def touch (i : Int) (m : Msg) (q : Qu) : Qu := if q.ch.fr = i ∨ q.ch.to = i then { q with msgs := q.msgs ++ [m] } else q
theorem touch_ch (i : Int) (m : Msg) (q : Qu) : (touch i m q).ch = q.ch := by unfold touch; split <;> rfl
theorem touch_le {i : Int} {m : Msg} {q : Qu} {B : Nat} (h : q.msgs.length ≤ B ∧ ∀ m ∈ q.msgs, m.length ≤ B) (hm : m.length ≤ B + 1) : (touch i m q).msgs.length ≤ B + 1 ∧ ∀ y ∈ (touch i m q).msgs, y.length ≤ B + 1 := by
  unfold touch
  split
  · refine ⟨by simp; exact h.1, fun y hy => ?_⟩
    rcases List.mem_append.1 hy with hy | hy
    · exact Nat.le_succ_of_le (h.2 y hy)
    · have e : y = m := by simpa using hy
      exact e ▸ hm
  · exact ⟨Nat.le_succ_of_le h.1, fun y hy => Nat.le_succ_of_le (h.2 y hy)⟩
theorem find_set {α : Type} (f : α → Bool) : ∀ (l : List α) (i : Nat) (x x' : α), l[i]? = some x → f x = false → f x' = false → (l.set i x').find? f = l.find? f
  | [], i, x, x', h, _, _ => by simp at h
  | a :: l, 0, x, x', h, h1, h2 => by
    simp at h; subst h
    rw [List.set_cons_zero, List.find?_cons_of_neg (by simp [h2]), List.find?_cons_of_neg (by simp [h1])]
  | a :: l, i + 1, x, x', h, h1, h2 => by
    rw [List.set_cons_succ, List.find?_cons, List.find?_cons, find_set f l i x x' (by simpa using h) h1 h2]
theorem set_ids {ps : List Pt} {i : Nat} {x x' : Pt} (hx : ps[i]? = some x) (h1 : x'.id = x.id) : (ps.set i x').map (·.id) = ps.map (·.id) := by
  apply List.ext_getElem?
  intro j
  rw [List.getElem?_map, List.getElem?_map, List.getElem?_set]
  by_cases hj : i = j
  · subst hj; rw [if_pos rfl, if_pos (List.getElem?_eq_some_iff.1 hx).1, hx, Option.map_some, Option.map_some, h1]
  · rw [if_neg hj]
theorem keptP_apart {ps : List Pt} {pn : List Pn} {i : Nat} {x x' : Pt} (hu : uniq (ps.map (·.id))) (hx : ps[i]? = some x) (h1 : x'.id = x.id) (h2 : x'.keep = x.keep) (h3 : x'.size = x.size) (hn : x.id ∉ keptL ps pn) : ∀ p ∈ pn, keptP (ps.set i x') p = keptP ps p := by
  intro p hp
  by_cases hid : x.id = p.id
  · have h0 : keptP ps p = none := by
      cases hk : keptP ps p with
      | none => rfl
      | some y => exact absurd (mem_keptL.2 ⟨p, hp, by rw [hk]; rfl, hid.symm⟩) hn
    rw [h0]
    rw [keptP_uniq hu (List.mem_of_getElem? hx) hid] at h0
    have hlt := (List.getElem?_eq_some_iff.1 hx).1
    have hm : x' ∈ ps.set i x' := List.mem_of_getElem? (i := i) (by rw [List.getElem?_set, if_pos rfl, if_pos hlt])
    rw [keptP_uniq (by rw [set_ids hx h1]; exact hu) hm (h1.trans hid), h2, h3]
    split at h0
    · cases h0
    · rename_i hc; exact if_neg hc
  · unfold keptP
    rw [find_set _ ps i x x' hx (by simpa using hid) (by simpa [h1] using hid)]
theorem moveP_apart {ps : List Pt} {pn : List Pn} {i : Nat} {x x' : Pt} (hu : uniq (ps.map (·.id))) (hx : ps[i]? = some x) (h1 : x'.id = x.id) (h2 : x'.keep = x.keep) (h3 : x'.size = x.size) (hn : x.id ∉ keptL ps pn) : moveP (ps.set i x') pn = moveP ps pn := by
  unfold moveP
  exact List.map_congr_left fun p hp => by rw [keptP_apart hu hx h1 h2 h3 hn p hp]
theorem keepsP_apart {ps : List Pt} {pn : List Pn} {i : Nat} {x x' : Pt} (hu : uniq (ps.map (·.id))) (hx : ps[i]? = some x) (h1 : x'.id = x.id) (h2 : x'.keep = x.keep) (h3 : x'.size = x.size) (hn : x.id ∉ keptL ps pn) (c : Int) : keepsP (ps.set i x') pn c = keepsP ps pn c := by
  unfold keepsP
  split
  · rename_i p hp
    rw [keptP_apart hu hx h1 h2 h3 hn p (List.mem_of_find?_eq_some hp)]
  · rfl
theorem moveQ_apart {ps : List Pt} {pn : List Pn} {i : Nat} {x x' : Pt} {m : Msg} {qs : List Qu} {cs : List Ch} (hu : uniq (ps.map (·.id))) (hun : uniq (pn.map (·.id))) (hx : ps[i]? = some x) (h1 : x'.id = x.id) (h2 : x'.keep = x.keep) (h3 : x'.size = x.size) (hn : x.id ∉ keptL ps pn) :
    moveQ (ps.set i x') pn (qs.map (touch x.id m)) cs = moveQ ps pn qs cs := by
  unfold moveQ
  refine List.map_congr_left fun c _ => ?_
  have e : queueP (ps.set i x') pn (qs.map (touch x.id m)) c = queueP ps pn qs c := by
    unfold queueP
    rw [keepsP_apart hu hx h1 h2 h3 hn, keepsP_apart hu hx h1 h2 h3 hn, List.find?_map]
    have ef : ((fun q : Qu => decide (q.ch = c)) ∘ touch x.id m) = fun q : Qu => decide (q.ch = c) := by
      funext q; simp [touch_ch]
    rw [ef]
    cases hq : qs.find? (fun q : Qu => decide (q.ch = c)) with
    | none => rfl
    | some q =>
      have hc : q.ch = c := by simpa using List.find?_some hq
      simp only [Option.map_some]
      by_cases hk : keepsP ps pn c.fr = true ∧ keepsP ps pn c.to = true
      · rw [if_pos hk, if_pos hk]
        have k1 := (keepsP_iff hun c.fr).1 hk.1
        have k2 := (keepsP_iff hun c.to).1 hk.2
        have e2 : touch x.id m q = q := by
          unfold touch
          rw [if_neg]
          rintro (h | h)
          · rw [hc] at h; rw [h] at k1; exact hn k1
          · rw [hc] at h; rw [h] at k2; exact hn k2
        rw [e2]
      · rw [if_neg hk, if_neg hk]
  rw [e]
end Go.Proofs.Ytnfjkpeifleogaa.mv
