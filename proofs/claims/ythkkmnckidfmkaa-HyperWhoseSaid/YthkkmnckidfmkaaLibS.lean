/- Rows of messages that grow; no condition. -/
import Derived.Test.YthkkmnckidfmkaaLibR
namespace Go.Proofs.Ythkkmnckidfmkaa.rows
open Go Go.ChangeShapes Go.WideShapes Go.ChangeAt Go.RowKit
theorem RowIn.grown {T : TypeId} {lo hi : Nat} {w w' : World} {A : Option Addr} {xs : List Value} {row : Option Nat} (h : RowIn T lo hi w A xs) (hg : w.grownBy w' row) (hne : ∀ (g : Nat) (cs : Array Value), w.heap[g]? = some (.cells cs T (0, 0)) → some g ≠ row) : RowIn T lo hi w' A xs := by
  rcases h with h | ⟨g, off, cs, rfl, h1, h2, hc, hx⟩
  · exact .inl h
  · exact .inr ⟨g, off, cs, rfl, h1, h2, blk_grown hc hg (hne g cs hc), hx⟩
/-- One message's slice, in blocks of the call's own. -/
def MsgAt (lo hi : Nat) (w : World) (v : Value) (l : Msg) : Prop :=
  ∃ A c, v = .slice A l.length c ∧ l.length ≤ c ∧ (A = none → c = 0) ∧ ((∃ g, A = some ⟨g, 0, none⟩) ∨ l = []) ∧ RowIn 5 lo hi w A (bcs l)
theorem MsgAt.below {lo hi B : Nat} {w w' : World} {v : Value} {l : Msg} (h : MsgAt lo hi w v l) (hb : Below B w w') (hB : hi ≤ B) : MsgAt lo hi w' v l := by
  obtain ⟨A, c, e1, e2, e3, e4, e5⟩ := h
  exact ⟨A, c, e1, e2, e3, e4, e5.below hb hB⟩
theorem MsgAt.mono {lo hi lo' hi' : Nat} {w : World} {v : Value} {l : Msg} (h : MsgAt lo hi w v l) (h1 : lo' ≤ lo) (h2 : hi ≤ hi') : MsgAt lo' hi' w v l := by
  obtain ⟨A, c, e1, e2, e3, e4, e5⟩ := h
  exact ⟨A, c, e1, e2, e3, e4, e5.mono h1 h2⟩
theorem MsgAt.grown {lo hi : Nat} {w w' : World} {v : Value} {l : Msg} {row : Option Nat} (h : MsgAt lo hi w v l) (hg : w.grownBy w' row) (hne : ∀ (g : Nat) (cs : Array Value), w.heap[g]? = some (.cells cs 5 (0, 0)) → some g ≠ row) : MsgAt lo hi w' v l := by
  obtain ⟨A, c, e1, e2, e3, e4, e5⟩ := h
  exact ⟨A, c, e1, e2, e3, e4, e5.grown hg hne⟩
theorem CopyOf.msg {l : Msg} {w w' : World} {v : Value} (h : CopyOf l w v w') : MsgAt w.heap.size w'.heap.size w' v l := by
  obtain ⟨A, c, e1, e2, e3, e4, e5, _⟩ := h
  exact ⟨A, c, e1, e2, e3, e4, e5⟩
/-- A row of slices of the call's own that can grow: it reads as the messages ls, in blocks from lo on. -/
def Grow (lo : Nat) (w : World) (v : Value) (ls : List Msg) : Prop :=
  ∃ vs : List Value, vs.length = ls.length ∧ w.ownsRow lo 24 1 v ls.length vs ∧ ∀ (k : Nat) (l : Msg), ls[k]? = some l → ∃ u, vs[k]? = some u ∧ MsgAt lo w.heap.size w u l
theorem Grow.nil (lo : Nat) (w : World) : Grow lo w (.slice none 0 0) [] := ⟨[], rfl, World.ownsRow_nil _ _ _ _, fun k l h => by simp at h⟩
theorem Grow.below {lo : Nat} {w w' : World} {v : Value} {ls : List Msg} (h : Grow lo w v ls) (hb : Below w.heap.size w w') : Grow lo w' v ls := by
  obtain ⟨vs, h1, h2, h3⟩ := h
  refine ⟨vs, h1, own_below h2 hb, fun k l hk => ?_⟩
  obtain ⟨u, e1, e2⟩ := h3 k l hk
  exact ⟨u, e1, (e2.below hb (Nat.le_refl _)).mono (Nat.le_refl _) hb.size⟩
theorem Grow.alloc {lo : Nat} {w : World} {v : Value} {ls : List Msg} (h : Grow lo w v ls) (o : Obj) : Grow lo (w.alloc o) v ls := h.below ((Below.refl _ _).alloc (Nat.le_refl _) o)
theorem MsgAt.one {lo hi : Nat} {w : World} {v : Value} {l : Msg} (h : MsgAt lo hi w v l) : v.oneCell' = true := by
  obtain ⟨A, c, rfl, _⟩ := h; rfl
theorem Grow.own {lo : Nat} {w : World} {v : Value} {ls : List Msg} (h : Grow lo w v ls) : ∃ vs, w.ownsRow lo 24 1 v ls.length vs ∧ vs.length = ls.length ∧ ∀ (k : Nat) (l : Msg), ls[k]? = some l → ∃ u, vs[k]? = some u ∧ MsgAt lo w.heap.size w u l := by
  obtain ⟨vs, h1, h2, h3⟩ := h
  exact ⟨vs, h2, h1, h3⟩
/-- A message more: w is the world in which the append begins. -/
theorem Grow.snoc {lo : Nat} {w w' : World} {v v' u : Value} {ls : List Msg} {l : Msg} {vs : List Value} (ho : w.ownsRow lo 24 1 v ls.length vs) (hvl : vs.length = ls.length)
    (hm : ∀ (k : Nat) (l : Msg), ls[k]? = some l → ∃ u, vs[k]? = some u ∧ MsgAt lo w.heap.size w u l) (hu : MsgAt lo w.heap.size w u l)
    (ho' : w'.ownsRow lo 24 1 v' (ls.length + 1) (vs ++ [u])) (hg : w.grownBy w' v.ownBlock) : Grow lo w' v' (ls ++ [l]) := by
  have hne : ∀ (g : Nat) (cs : Array Value), w.heap[g]? = some (.cells cs 5 (0, 0)) → some g ≠ v.ownBlock := fun g cs hgc => own_ne ho hgc (by decide)
  refine ⟨vs ++ [u], by simp [hvl], by simpa using ho', fun k x hk => ?_⟩
  by_cases hkl : k < ls.length
  · rw [List.getElem?_append_left hkl] at hk
    obtain ⟨y, e1, e2⟩ := hm k x hk
    exact ⟨y, by rw [List.getElem?_append_left (by omega)]; exact e1, (e2.grown hg hne).mono (Nat.le_refl _) hg.size⟩
  · have hkl' : k = ls.length := by
      have := (List.getElem?_eq_some_iff.1 hk).1
      simp at this; omega
    subst hkl'
    rw [List.getElem?_append_right (Nat.le_refl _), Nat.sub_self] at hk
    simp at hk; subst hk
    exact ⟨u, by rw [← hvl, List.getElem?_append_right (Nat.le_refl _), Nat.sub_self]; rfl, (hu.grown hg hne).mono (Nat.le_refl _) hg.size⟩
theorem Grow.form {lo : Nat} {w : World} {v : Value} {ls : List Msg} (h : Grow lo w v ls) : ∃ A c, v = .slice A ls.length c ∧ ls.length ≤ c ∧ (A = none → c = 0) ∧ ((∃ g, A = some ⟨g, 0, none⟩) ∨ ls = []) ∧ Own2 lo w.heap.size w A ls := by
  obtain ⟨vs, h1, h2, h3⟩ := h
  obtain ⟨A, c, rfl, k1, k2, k3, k4⟩ := own_form3 h2
  refine ⟨A, c, rfl, k1, k2, k3.elim .inl (fun e => .inr (List.eq_nil_of_length_eq_zero (by rw [← h1, e]; rfl))), vs, h1, k4, fun k l hk => ?_⟩
  obtain ⟨u, e1, A', c', e2, e3, e4, e5, e6⟩ := h3 k l hk
  exact ⟨A', c', by rw [e1, e2], e3, e4, e5, e6⟩
theorem any_of {α β : Type} (f : α → Bool) (g : β → Bool) : ∀ (xs : List α) (ys : List β), xs.length = ys.length → (∀ (k : Nat) (x : α) (y : β), xs[k]? = some x → ys[k]? = some y → f x = g y) → xs.any f = ys.any g
  | [], [], _, _ => rfl
  | x :: xs, y :: ys, hl, h => by
    rw [List.any_cons, List.any_cons, h 0 x y rfl rfl, any_of f g xs ys (by simpa using hl) fun k a b ha hb => h (k + 1) a b (by simpa using ha) (by simpa using hb)]
  | [], _ :: _, hl, _ => by simp at hl
  | _ :: _, [], hl, _ => by simp at hl
end Go.Proofs.Ythkkmnckidfmkaa.rows
