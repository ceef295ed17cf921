/- Channels: queues with room behind their messages; no condition. -/
import Derived.Test.YtlmecndldclnnaaRows
import Derived.Test.YtlmecndldclnnaaChC
namespace Go.Proofs.Ytlmecndldclnnaa.chan
open Go Go.ChangeShapes Go.WideShapes Go.ChangeAt Go.RowKit Go.Proofs.Ytlmecndldclnnaa.rows
/-- One message's slice with 99 behind it, in a block of the call's own. -/
def MsgRoom (lo hi : Nat) (w : World) (v : Value) (l : Msg) : Prop :=
  ∃ g c, v = .slice (some ⟨g, 0, none⟩) l.length c ∧ l.length + 1 ≤ c ∧ RowIn 5 lo hi w (some ⟨g, 0, none⟩) (bcs (l ++ [99]))
theorem MsgRoom.below {lo hi B : Nat} {w w' : World} {v : Value} {l : Msg} (h : MsgRoom lo hi w v l) (hb : Below B w w') (hB : hi ≤ B) : MsgRoom lo hi w' v l := by
  obtain ⟨g, c, e1, e2, e5⟩ := h
  exact ⟨g, c, e1, e2, e5.below hb hB⟩
theorem MsgRoom.mono {lo hi lo' hi' : Nat} {w : World} {v : Value} {l : Msg} (h : MsgRoom lo hi w v l) (h1 : lo' ≤ lo) (h2 : hi ≤ hi') : MsgRoom lo' hi' w v l := by
  obtain ⟨g, c, e1, e2, e5⟩ := h
  exact ⟨g, c, e1, e2, e5.mono h1 h2⟩
theorem MsgRoom.grown {lo hi : Nat} {w w' : World} {v : Value} {l : Msg} {row : Option Nat} (h : MsgRoom lo hi w v l) (hg : w.grownBy w' row) (hne : ∀ (g : Nat) (cs : Array Value), w.heap[g]? = some (.cells cs 5 (0, 0)) → some g ≠ row) : MsgRoom lo hi w' v l := by
  obtain ⟨g, c, e1, e2, e5⟩ := h
  exact ⟨g, c, e1, e2, e5.grown hg hne⟩
theorem MsgRoom.far {U : TypeId} {lo hi : Nat} {w : World} {v : Value} {l : Msg} (h : MsgRoom lo hi w v l) {g k : Nat} {cs : Array Value} (hg : w.heap[g]? = some (.cells cs U (0, 0))) (h2 : 5 ≠ U) (u : Value) : MsgRoom lo hi (w.setCell ⟨g, k, none⟩ u) v l := by
  obtain ⟨A', c, k1, k2, k5⟩ := h
  exact ⟨A', c, k1, k2, k5.far hg h2 u⟩
theorem MsgRoom.at {lo hi : Nat} {w : World} {v : Value} {l : Msg} (h : MsgRoom lo hi w v l) : MsgAt lo hi w v l := by
  obtain ⟨g, c, rfl, h2, h3⟩ := h
  refine ⟨_, c, rfl, by omega, (fun h => by cases h), .inl ⟨g, rfl⟩, ?_⟩
  have := h3.take l.length
  rw [bcs_take, List.take_left] at this
  exact this
/-- A row of such slices of the call's own that can grow: it reads as the messages ls, in blocks from lo on. -/
def GrowR (lo : Nat) (w : World) (v : Value) (ls : List Msg) : Prop :=
  ∃ vs : List Value, vs.length = ls.length ∧ w.ownsRow lo 27 1 v ls.length vs ∧ ∀ (k : Nat) (l : Msg), ls[k]? = some l → ∃ u, vs[k]? = some u ∧ MsgRoom lo w.heap.size w u l
theorem GrowR.nil (lo : Nat) (w : World) : GrowR lo w (.slice none 0 0) [] := ⟨[], rfl, World.ownsRow_nil _ _ _ _, fun k l h => by simp at h⟩
theorem GrowR.below {lo : Nat} {w w' : World} {v : Value} {ls : List Msg} (h : GrowR lo w v ls) (hb : Below w.heap.size w w') : GrowR lo w' v ls := by
  obtain ⟨vs, h1, h2, h3⟩ := h
  refine ⟨vs, h1, own_below h2 hb, fun k l hk => ?_⟩
  obtain ⟨u, e1, e2⟩ := h3 k l hk
  exact ⟨u, e1, (e2.below hb (Nat.le_refl _)).mono (Nat.le_refl _) hb.size⟩
theorem GrowR.alloc {lo : Nat} {w : World} {v : Value} {ls : List Msg} (h : GrowR lo w v ls) (o : Obj) : GrowR lo (w.alloc o) v ls := h.below ((Below.refl _ _).alloc (Nat.le_refl _) o)
theorem GrowR.own {lo : Nat} {w : World} {v : Value} {ls : List Msg} (h : GrowR lo w v ls) : ∃ vs, w.ownsRow lo 27 1 v ls.length vs ∧ vs.length = ls.length ∧ ∀ (k : Nat) (l : Msg), ls[k]? = some l → ∃ u, vs[k]? = some u ∧ MsgRoom lo w.heap.size w u l := by
  obtain ⟨vs, h1, h2, h3⟩ := h
  exact ⟨vs, h2, h1, h3⟩
/-- A message more: w is the world in which the append begins. -/
theorem GrowR.snoc {lo : Nat} {w w' : World} {v v' u : Value} {ls : List Msg} {l : Msg} {vs : List Value} (ho : w.ownsRow lo 27 1 v ls.length vs) (hvl : vs.length = ls.length)
    (hm : ∀ (k : Nat) (l : Msg), ls[k]? = some l → ∃ u, vs[k]? = some u ∧ MsgRoom lo w.heap.size w u l) (hu : MsgRoom lo w.heap.size w u l)
    (ho' : w'.ownsRow lo 27 1 v' (ls.length + 1) (vs ++ [u])) (hg : w.grownBy w' v.ownBlock) : GrowR lo w' v' (ls ++ [l]) := by
  have hne : ∀ (g : Nat) (cs : Array Value), w.heap[g]? = some (.cells cs 5 (0, 0)) → some g ≠ v.ownBlock := fun g cs hgc => own_ne ho hgc (by decide)
  refine ⟨vs ++ [u], by simp [hvl], by simpa using ho', fun k x hk => ?_⟩
  by_cases hkl : k < ls.length
  · rw [List.getElem?_append_left hkl] at hk
    obtain ⟨y, e1, e2⟩ := hm k x hk
    exact ⟨y, by rw [List.getElem?_append_left (by omega)]; exact e1, (e2.grown hg hne).mono (Nat.le_refl _) hg.size⟩
  · have hkl' : k = ls.length := by
      have := (List.getElem?_eq_some_iff.1 hk).1
      simp at this; omega
    subst hkl'
    rw [List.getElem?_append_right (Nat.le_refl _), Nat.sub_self] at hk
    simp at hk; subst hk
    exact ⟨u, by rw [← hvl, List.getElem?_append_right (Nat.le_refl _), Nat.sub_self]; rfl, (hu.grown hg hne).mono (Nat.le_refl _) hg.size⟩
/-- The block g0 holds slices that read as the messages, each with 99 behind it, and one slice more that reads as [98]. -/
def Roomy (lo hi : Nat) (w : World) (g0 : Nat) (ls : List Msg) : Prop :=
  ∃ (vs : List Value) (g9 c9 : Nat), vs.length = ls.length ∧ RowIn 27 lo hi w (some ⟨g0, 0, none⟩) (vs ++ [.slice (some ⟨g9, 0, none⟩) 1 c9]) ∧ 1 ≤ c9 ∧ RowIn 5 lo hi w (some ⟨g9, 0, none⟩) (bcs [98]) ∧
    ∀ (k : Nat) (l : Msg), ls[k]? = some l → ∃ u, vs[k]? = some u ∧ MsgRoom lo hi w u l
theorem Roomy.below {lo hi B : Nat} {w w' : World} {g0 : Nat} {ls : List Msg} (h : Roomy lo hi w g0 ls) (hb : Below B w w') (hB : hi ≤ B) : Roomy lo hi w' g0 ls := by
  obtain ⟨vs, g9, c9, h1, h2, h3, h4, h5⟩ := h
  exact ⟨vs, g9, c9, h1, h2.below hb hB, h3, h4.below hb hB, fun k l hk => by obtain ⟨u, e1, e2⟩ := h5 k l hk; exact ⟨u, e1, e2.below hb hB⟩⟩
theorem Roomy.mono {lo hi lo' hi' : Nat} {w : World} {g0 : Nat} {ls : List Msg} (h : Roomy lo hi w g0 ls) (k1 : lo' ≤ lo) (k2 : hi ≤ hi') : Roomy lo' hi' w g0 ls := by
  obtain ⟨vs, g9, c9, h1, h2, h3, h4, h5⟩ := h
  exact ⟨vs, g9, c9, h1, h2.mono k1 k2, h3, h4.mono k1 k2, fun k l hk => by obtain ⟨u, e1, e2⟩ := h5 k l hk; exact ⟨u, e1, e2.mono k1 k2⟩⟩
theorem Roomy.far {U : TypeId} {lo hi : Nat} {w : World} {g0 : Nat} {ls : List Msg} (h : Roomy lo hi w g0 ls) {g k : Nat} {cs : Array Value} (hg : w.heap[g]? = some (.cells cs U (0, 0))) (k1 : 27 ≠ U) (k2 : 5 ≠ U) (u : Value) : Roomy lo hi (w.setCell ⟨g, k, none⟩ u) g0 ls := by
  obtain ⟨vs, g9, c9, h1, h2, h3, h4, h5⟩ := h
  exact ⟨vs, g9, c9, h1, h2.far hg k1 u, h3, h4.far hg k2 u, fun k l hk => by obtain ⟨u, e1, e2⟩ := h5 k l hk; exact ⟨u, e1, e2.far hg k2 _⟩⟩
theorem Roomy.far6 {lo hi : Nat} {w : World} {g0 : Nat} {ls : List Msg} (h : Roomy lo hi w g0 ls) {g : Nat} {cs : Array Value} (hg : w.heap[g]? = some (.cells cs 26 (0, 0))) (u0 u1 u2 u3 u4 u5 : Value) :
    Roomy lo hi ((((((w.setCell ⟨g, 0, none⟩ u0).setCell ⟨g, 1, none⟩ u1).setCell ⟨g, 2, none⟩ u2).setCell ⟨g, 3, none⟩ u3).setCell ⟨g, 4, none⟩ u4).setCell ⟨g, 5, none⟩ u5) g0 ls :=
  Roomy.far (Roomy.far (Roomy.far (Roomy.far (Roomy.far (Roomy.far h hg (by decide) (by decide) u0) (blk_set hg _ _) (by decide) (by decide) u1) (blk_set (blk_set hg _ _) _ _) (by decide) (by decide) u2) (blk_set (blk_set (blk_set hg _ _) _ _) _ _) (by decide) (by decide) u3) (blk_set (blk_set (blk_set (blk_set hg _ _) _ _) _ _) _ _) (by decide) (by decide) u4)
    (blk_set (blk_set (blk_set (blk_set (blk_set hg _ _) _ _) _ _) _ _) _ _) (by decide) (by decide) u5
theorem Roomy.own2 {lo hi : Nat} {w : World} {g0 : Nat} {ls : List Msg} (h : Roomy lo hi w g0 ls) : Own2 lo hi w (some ⟨g0, 0, none⟩) ls := by
  obtain ⟨vs, g9, c9, h1, h2, h3, h4, h5⟩ := h
  refine ⟨vs, h1, ?_, fun k l hk => ?_⟩
  · have := h2.take ls.length
    rw [← h1, List.take_left] at this
    exact this
  · obtain ⟨u, e1, e2⟩ := h5 k l hk
    obtain ⟨A', c', rfl, r1, r2, r3, r4⟩ := e2.at
    exact ⟨A', c', e1, r1, r2, r3, r4⟩
theorem Roomy.at {lo hi : Nat} {w : World} {g0 : Nat} {ls : List Msg} (h : Roomy lo hi w g0 ls) {k : Nat} {l : Msg} (hk : ls[k]? = some l) : ∃ g c, w.cell? ⟨g0, k, none⟩ = some (.slice (some ⟨g, 0, none⟩) l.length c) ∧ l.length + 1 ≤ c ∧ w.cell? ⟨g, l.length, none⟩ = some (.int .u8 99) := by
  obtain ⟨vs, g9, c9, h1, h2, h3, h4, h5⟩ := h
  obtain ⟨u, e1, g, c, rfl, e3, e4⟩ := h5 k l hk
  refine ⟨g, c, ?_, e3, ?_⟩
  · have := h2.rd.cell (j := k) (u := .slice (some ⟨g, 0, none⟩) l.length c) (by rw [List.getElem?_append_left (List.getElem?_eq_some_iff.1 e1).1]; exact e1)
    rwa [Nat.zero_add] at this
  · have := e4.rd.cell (j := l.length) (u := .int .u8 99) (bcs_at (x := 99) (by simp))
    rwa [Nat.zero_add] at this
theorem Roomy.last {lo hi : Nat} {w : World} {g0 : Nat} {ls : List Msg} (h : Roomy lo hi w g0 ls) : ∃ g9 c9, w.cell? ⟨g0, ls.length, none⟩ = some (.slice (some ⟨g9, 0, none⟩) 1 c9) ∧ 1 ≤ c9 ∧ w.cell? ⟨g9, 0, none⟩ = some (.int .u8 98) := by
  obtain ⟨vs, g9, c9, h1, h2, h3, h4, h5⟩ := h
  refine ⟨g9, c9, ?_, h3, ?_⟩
  · have := h2.rd.cell (j := ls.length) (u := .slice (some ⟨g9, 0, none⟩) 1 c9) (by rw [← h1]; simp)
    rwa [Nat.zero_add] at this
  · exact h4.rd.cell (j := 0) (u := .int .u8 98) rfl
end Go.Proofs.Ytlmecndldclnnaa.chan
