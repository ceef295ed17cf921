/- Moves: a message more in a queue of a state's own copy; no condition. -/
import Derived.Test.YtnfjkpeifleogaaRows
import Derived.Test.YtnfjkpeifleogaaMvZ
import Derived.Deep.AppendLies
namespace Go.Proofs.Ytnfjkpeifleogaa.mv
open Go Go.ChangeShapes Go.WideShapes Go.ChangeAt Go.RowKit Go.Proofs.Ytnfjkpeifleogaa.rows
theorem own_far {w w' : World} {base : Nat} {e : TypeId} {size n : Nat} {v : Value} {xs : List Value} {row : Option Nat} (h : w.ownsRow base e size v n xs) (hg : w.grownBy w' row) (hne : ∀ g : Nat, v = .slice (some ⟨g, 0, none⟩) n 0 ∨ v.ownBlock = some g → some g ≠ row) : w'.ownsRow base e size v n xs := by
  refine ⟨h.1, ?_⟩
  rcases h.2 with hn | ⟨g, cap, cur, rfl, hb0, hgg, rest⟩
  · exact .inl hn
  · exact .inr ⟨g, cap, cur, rfl, hb0, blk_grown hgg hg (hne g (.inr rfl)), rest⟩
theorem Grow.far {lo : Nat} {w w' : World} {v : Value} {ls : List Msg} {row : Option Nat} (h : Grow lo w v ls) (hg : w.grownBy w' row) (hne : ∀ g : Nat, v.ownBlock = some g → some g ≠ row) (h8 : ∀ (g : Nat) (cs : Array Value), w.heap[g]? = some (.cells cs 5 (0, 0)) → some g ≠ row) : Grow lo w' v ls := by
  obtain ⟨vs, h1, h2, h3⟩ := h
  refine ⟨vs, h1, own_far h2 hg (fun g hgv => ?_), fun k l hk => ?_⟩
  · rcases hgv with rfl | hgv
    · exact hne g rfl
    · exact hne g hgv
  · obtain ⟨u, e1, e2⟩ := h3 k l hk
    exact ⟨u, e1, (e2.grown hg h8).mono (Nat.le_refl _) hg.size⟩
/-- A queue of the copy: its cells, its row; a message appended and the row stored. -/
theorem GrowRS.open {lo lm n c : Nat} {w : World} {A : Option Addr} {xs : List Qu} (h : GrowRS lo lm w (.slice A n c) xs) {k : Nat} {q : Qu} (hq : xs[k]? = some q) :
    ∃ (g : Nat) (A' : Option Addr) (d : Nat) (vs : List Value), A = some ⟨g, 0, none⟩ ∧ lo ≤ g ∧ g < w.heap.size ∧ (∀ (j : Nat) (v : Value), (Qu.cells q A' d)[j]? = some v → w.cell? ⟨g, k * 6 + j, none⟩ = some v) ∧ (∃ cs, w.heap[g]? = some (.cells cs 53 (0, 0))) ∧ w.ownsRow lm 38 1 (.slice A' q.msgs.length d) q.msgs.length vs ∧ vs.length = q.msgs.length ∧
    (∀ (w1 w2 : World) (u : Value) (m : Msg) (g2 c2 : Nat), Below w.heap.size w w1 → MsgAt lm w1.heap.size w1 u m → w2.ownsRow lm 38 1 (.slice (some ⟨g2, 0, none⟩) (q.msgs.length + 1) c2) (q.msgs.length + 1) (vs ++ [u]) → w1.grownBy w2 (Value.ownBlock (.slice A' q.msgs.length d)) → (Value.ownBlock (.slice A' q.msgs.length d) = some g2 ∨ g2 = w1.heap.size) →
      KeptX 38 w1 w2 ∧ GrowRS lo lm (w2.setCell ⟨g, k * 6 + 5, none⟩ (.slice (some ⟨g2, 0, none⟩) (q.msgs.length + 1) c2)) (.slice A n c) (xs.set k { q with msgs := q.msgs ++ [m] })) := by
  obtain ⟨us, e1, e2, e3, e4⟩ := h
  obtain ⟨u0, hu0, rfl⟩ := map_at e1 hq
  have hlen : us.length = xs.length := by rw [← e1, List.length_map]
  have hk' : k < xs.length := (List.getElem?_eq_some_iff.1 hq).1
  have hown := e2
  rcases e2.2 with ⟨_, h0⟩ | ⟨g, cap, cur, hv, hb0, hg, hnc, hm, hs, hc⟩
  · omega
  injection hv with hA hn hcap
  subst hA
  obtain ⟨vs, g1, g2, g3⟩ := e3 u0 (List.mem_of_getElem? hu0)
  refine ⟨g, u0.2.1, u0.2.2, vs, rfl, hb0, blk_lt hg, fun j v hj => take_cell hg hc (flat_at Qu.cells 6 qu_len us k u0 hu0 j v hj), ⟨cur, hg⟩, g2, g1, fun w1 w2 u m gn c2 hb hu ho2 hgr hat => ?_⟩
  have r1 := own_below g2 hb
  have KX : KeptX 38 w1 w2 := KeptX.grown r1 hgr
  refine ⟨KX, ?_⟩
  have o1 := own_keptX (own_below hown hb) (by decide) KX
  have hg1 := KX.2 _ _ _ (by decide) (blk_below hg hb (blk_lt hg))
  have kx := KeptX.set hg1 (k * 6 + 5) (.slice (some ⟨gn, 0, none⟩) (u0.1.msgs.length + 1) c2)
  have h8 : ∀ (g : Nat) (cs : Array Value), w1.heap[g]? = some (.cells cs 5 (0, 0)) → some g ≠ Value.ownBlock (.slice u0.2.1 u0.1.msgs.length u0.2.2) := fun g cs hgc => own_ne r1 hgc (by decide)
  have hlt : ∀ (j : Nat) (y : Sl Qu) (g' : Nat), us[j]? = some y → y.2.1 = some ⟨g', 0, none⟩ → g' < w.heap.size := fun j y g' hy ey => by
    have := e3 y (List.mem_of_getElem? hy)
    rw [ey] at this
    exact (grow_block this).2
  refine ⟨us.set k ({ u0.1 with msgs := u0.1.msgs ++ [m] }, some ⟨gn, 0, none⟩, c2), by rw [List.map_set, e1], ?_, fun y hy => ?_, ?_⟩
  · have hf := flat_set qu_len us k 5 u0 ({ u0.1 with msgs := u0.1.msgs ++ [m] }, some ⟨gn, 0, none⟩, c2) (.slice (some ⟨gn, 0, none⟩) (u0.1.msgs.length + 1) c2) hu0 (by omega) (by simp [Qu.cells])
    refine ⟨?_, .inr ⟨g, cap, cur.setIfInBounds (k * 6 + 5) (.slice (some ⟨gn, 0, none⟩) (u0.1.msgs.length + 1) c2), by rw [List.length_set, hn, hcap], hb0, blk_set hg1 _ _, by rw [List.length_set]; exact hnc, hm, by simpa using hs, ?_⟩⟩
    · rw [← hf, List.length_set, List.length_set]; exact hown.1
    · rw [List.length_set, ← hf]; exact take_set hc
  · rcases mem_set hy with rfl | ⟨j, hj, hyj⟩
    · refine Grow.keptX (by decide) (by decide) ?_ kx
      refine Grow.snoc (w := w1) (v := .slice u0.2.1 u0.1.msgs.length u0.2.2) (u := u) r1 g1 (fun i l hi => ?_) hu ?_ hgr
      · obtain ⟨x, f1, f2⟩ := g3 i l hi
        exact ⟨x, f1, (f2.below hb (Nat.le_refl _)).mono (Nat.le_refl _) hb.size⟩
      · simpa using ho2
    · refine Grow.keptX (by decide) (by decide) (Grow.far ((e3 y (List.mem_of_getElem? hyj)).below hb) hgr (fun g' hg' hr => ?_) h8) kx
      rcases y with ⟨y1, yA, yc⟩
      rcases yA with _ | ⟨yb, yo, yp⟩
      · simp [Value.ownBlock] at hg'
      · rcases u0 with ⟨z1, zA, zc⟩
        rcases zA with _ | ⟨zb, zo, zp⟩
        · simp [Value.ownBlock] at hr
        · obtain ⟨_, _, fy, _⟩ := Grow.form (e3 _ (List.mem_of_getElem? hyj))
          have y0 : (⟨yb, yo, yp⟩ : Addr) = ⟨yb, 0, none⟩ := by
            obtain ⟨vs', _, q2, _⟩ := e3 _ (List.mem_of_getElem? hyj)
            rcases q2.2 with ⟨q3, _⟩ | ⟨g5, _, _, q3, _⟩
            · injection q3 with q3; cases q3
            · injection q3 with q3; injection q3 with q3; rw [q3]; injection q3 with q4; rw [q4]
          have z0 : (⟨zb, zo, zp⟩ : Addr) = ⟨zb, 0, none⟩ := by
            rcases g2.2 with ⟨q3, _⟩ | ⟨g5, _, _, q3, _⟩
            · injection q3 with q3; cases q3
            · injection q3 with q3; injection q3 with q3; rw [q3]; injection q3 with q4; rw [q4]
          have hyz : yb = zb := by
            simp [Value.ownBlock] at hg' hr
            omega
          refine e4 j k _ _ yb hyj hu0 hj (congrArg some y0) ?_
          rw [hyz]; exact congrArg some z0
  · intro i j ui uj g' hi hj hne h1 h2
    rcases set_at hi with ⟨ei, f1⟩ | ⟨ei, hi'⟩ <;> rcases set_at hj with ⟨ej, f2⟩ | ⟨ej, hj'⟩
    · omega
    · rw [f1] at h1
      injection h1 with h1; injection h1 with h1 _ _
      subst h1
      rcases hat with hat | hat
      · refine e4 k j u0 uj gn hu0 hj' (by omega) ?_ h2
        rcases u0 with ⟨z1, zA, zc⟩
        rcases g2.2 with ⟨q3, _⟩ | ⟨g5, _, _, q3, _⟩
        · injection q3 with q3
          rw [show zA = none from q3] at hat; simp [Value.ownBlock] at hat
        · injection q3 with q3
          rw [show zA = some ⟨g5, 0, none⟩ from q3] at hat ⊢
          have hat' : g5 = gn := by simpa [Value.ownBlock] using hat
          rw [hat']
      · have := hlt j uj gn hj' h2
        have := hb.size
        omega
    · rw [f2] at h2
      injection h2 with h2; injection h2 with h2 _ _
      subst h2
      rcases hat with hat | hat
      · refine e4 k i u0 ui gn hu0 hi' (by omega) ?_ h1
        rcases u0 with ⟨z1, zA, zc⟩
        rcases g2.2 with ⟨q3, _⟩ | ⟨g5, _, _, q3, _⟩
        · injection q3 with q3
          rw [show zA = none from q3] at hat; simp [Value.ownBlock] at hat
        · injection q3 with q3
          rw [show zA = some ⟨g5, 0, none⟩ from q3] at hat ⊢
          have hat' : g5 = gn := by simpa [Value.ownBlock] using hat
          rw [hat']
      · have := hlt i ui gn hi' h1
        have := hb.size
        omega
    · exact e4 i j ui uj g' hi' hj' hne h1 h2
end Go.Proofs.Ytnfjkpeifleogaa.mv
