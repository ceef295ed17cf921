/- Moves: what the laws' walks ask of plain lists: each number once; the queue that is kept; Move as rows that read; no condition. -/
import Derived.Test.YtnfjkpeifleogaaRows
import Derived.Test.YtnfjkpeifleogaaMvK
namespace Go.Proofs.Ytnfjkpeifleogaa.mv
open Go Go.ChangeShapes Go.WideShapes Go.ChangeAt Go.RowKit Go.Proofs.Ytnfjkpeifleogaa.rows
theorem xc {W : World} {b o : Nat} {v : Value} (h : W.cell? ⟨b, o, none⟩ = some v) (x : Ext W.heap.size W) : x.world.cell? ⟨b, o, none⟩ = some v := (x.cell _ _ (World.block_lt_of_cell? W _ h)).trans h
theorem belowD {a w : World} (h : Below a.heap.size a w) : Below a.heap.size a w.drew := h.drew
theorem belowA {a w : World} (h : Below a.heap.size a w) (o : Obj) : Below a.heap.size a (w.alloc o) := h.alloc h.size o
theorem belowS {a w : World} {g : Nat} (h : Below a.heap.size a w) (hg : a.heap.size ≤ g) (k : Nat) (u : Value) : Below a.heap.size a (w.setCell ⟨g, k, none⟩ u) := h.setCell (p := ⟨g, k, none⟩) hg u
/-- A state boxed, not yet written. -/
theorem zfacts {a b : World} {g : Nat} (h : a.heap[g]? = some (.cells #[.int .i64 0, .slice none 0 0, .slice none 0 0] 25 (0, 0))) (hb : Below a.heap.size a b) : b.heap[g]? = some (.cells #[.int .i64 0, .slice none 0 0, .slice none 0 0] 25 (0, 0)) ∧ (b.cell? ⟨g, 0, none⟩ = some (.int .i64 0) ∧ b.cell? ⟨g, 1, none⟩ = some (.slice none 0 0) ∧ b.cell? ⟨g, 2, none⟩ = some (.slice none 0 0) ∧ b.frozen? ⟨g, 0, none⟩ = false ∧ b.frozen? ⟨g, 1, none⟩ = false ∧ b.frozen? ⟨g, 2, none⟩ = false) ∧ ∀ o, ((b.alloc o).cell? ⟨g, 0, none⟩ = some (.int .i64 0) ∧ (b.alloc o).cell? ⟨g, 1, none⟩ = some (.slice none 0 0) ∧ (b.alloc o).cell? ⟨g, 2, none⟩ = some (.slice none 0 0) ∧ (b.alloc o).frozen? ⟨g, 0, none⟩ = false ∧ (b.alloc o).frozen? ⟨g, 1, none⟩ = false ∧ (b.alloc o).frozen? ⟨g, 2, none⟩ = false) := by
  have h1 := blk_below h hb (blk_lt h)
  exact ⟨h1, ⟨blk_cell h1 0, blk_cell h1 1, blk_cell h1 2, blk_frozen h1 0, blk_frozen h1 1, blk_frozen h1 2⟩, fun o => ⟨blk_cell (blk_alloc h1 o) 0, blk_cell (blk_alloc h1 o) 1, blk_cell (blk_alloc h1 o) 2, blk_frozen (blk_alloc h1 o) 0, blk_frozen (blk_alloc h1 o) 1, blk_frozen (blk_alloc h1 o) 2⟩⟩
theorem blk_new2 (w : World) (o : Obj) (cs : Array Value) (t : TypeId) : ((w.alloc o).alloc (.cells cs t)).heap[w.heap.size + 1]? = some (.cells cs t (0, 0)) := by
  have := blk_new (w.alloc o) cs t; simpa using this
theorem moveP_length (ps : List Pt) (pn : List Pn) : (moveP ps pn).length = pn.length := by simp [moveP]
theorem moveQ_length (ps : List Pt) (pn : List Pn) (qs : List Qu) (cs : List Ch) : (moveQ ps pn qs cs).length = cs.length := by simp [moveQ]
theorem slice_inj {A B : Option Addr} {n m c d : Nat} (h : Value.slice A n c = Value.slice B m d) : A = B ∧ c = d := by injection h with h1 _ h3; exact ⟨h1, h3⟩
/-- What Move answers, as rows that read. -/
def RdOut (fr : Int) (nn nc : Nat) (xs : List Pt) (ys : List Qu) (w : World) (e : Ending) (w' : World) : Prop :=
  Below w.heap.size w w' ∧ ∃ A c B d, e = .returned (.agg #[.int .i64 fr, .slice A nn c, .slice B nc d]) ∧ Pts w' A xs ∧ Qus w' B ys
theorem move_rd (fr : Int) (ps : List Pt) (pn : List Pn) (qs : List Qu) (cs : List Ch) (Ap Aq Aw An Ac : Option Addr) (np cp nq cq nw cw nn cn nc cc : Nat) (hnp : ps.length = np) (hnn : pn.length = nn) (hnq : qs.length = nq) (hnc : cs.length = nc) (h63 : np ≤ 1000000) (h632 : nn ≤ 1000000) (h633 : nq ≤ 1000000) (h634 : nc ≤ 1000000) (hml : ∀ x ∈ ps, x.mem.length ≤ 1000000) (hqm : ∀ q ∈ qs, q.msgs.length ≤ 1000000 ∧ ∀ m ∈ q.msgs, m.length ≤ 1000000) (w : World) (h : Pts w Ap ps) (h2 : Pns w An pn) (h3 : Qus w Aq qs) (h4 : Rd w Ac (chCells cs)) :
    Calls Try.prog 12 #[.agg #[.int .i64 fr, .slice Ap np cp, .slice Aq nq cq], .agg #[.slice Aw nw cw, .slice An nn cn, .slice Ac nc cc]] w (RdOut fr nn nc (moveP ps pn) (moveQ ps pn qs cs) w) := by
  refine (move fr ps pn qs cs Ap Aq Aw An Ac np cp nq cq nw cw nn cn nc cc hnp hnn hnq hnc h63 h632 h633 h634 hml hqm w h h2 h3 h4).mono ?_
  rintro e w' ⟨b, A, c, B, d, rfl, hp, hq⟩
  refine ⟨b, A, c, B, d, by rw [moveP_length, moveQ_length, hnn, hnc], ?_, ?_⟩
  · obtain ⟨A', c', e, _, _, k⟩ := GrowP.form hp
    rw [(slice_inj e).1]; exact k
  · obtain ⟨A', c', e, _, _, k⟩ := GrowQ.form hq
    rw [(slice_inj e).1]; exact k
/-- The first one of a list of which each number stands once. -/
theorem find_uniq {α : Type} (f : α → Int) : ∀ (l : List α), uniq (l.map f) → ∀ p ∈ l, l.find? (fun x => decide (f x = f p)) = some p
  | [], _, p, hp => by cases hp
  | a :: l, hu, p, hp => by
    by_cases e : f a = f p
    · rcases List.mem_cons.1 hp with rfl | hp'
      · simp
      · exfalso
        obtain ⟨j, hj⟩ := List.mem_iff_getElem?.1 hp'
        exact hu 0 (j + 1) (f a) (f p) (by omega) rfl (by simp [hj]) e
    · rw [List.find?_cons_of_neg (by simp [e])]
      rcases List.mem_cons.1 hp with rfl | hp'
      · exact absurd rfl e
      · exact find_uniq f l (fun j k x y hjk hx hy => hu (j + 1) (k + 1) x y (by omega) (by simpa using hx) (by simpa using hy)) p hp'
theorem mem_keptL {ps : List Pt} {pn : List Pn} {i : Int} : i ∈ keptL ps pn ↔ ∃ p ∈ pn, (keptP ps p).isSome = true ∧ p.id = i := by
  simp only [keptL, List.mem_map, List.mem_filter]
  exact ⟨fun ⟨p, ⟨h1, h2⟩, h3⟩ => ⟨p, h1, h2, h3⟩, fun ⟨p, h1, h2, h3⟩ => ⟨p, ⟨h1, h2⟩, h3⟩⟩
theorem keepsP_iff {ps : List Pt} {pn : List Pn} (hu : uniq (pn.map (·.id))) (i : Int) : keepsP ps pn i = true ↔ i ∈ keptL ps pn := by
  rw [mem_keptL]
  unfold keepsP
  constructor
  · intro h
    split at h
    · rename_i p hp
      exact ⟨p, List.mem_of_find?_eq_some hp, h, by simpa using List.find?_some hp⟩
    · cases h
  · rintro ⟨p, hp, hk, rfl⟩
    rw [find_uniq (·.id) pn hu p hp]
    exact hk
/-- What the law's search has found among the queues from k on. -/
def WasQ (qs : List Qu) (c : Ch) (ok : Prop) (k : Nat) (was : Int) : Prop :=
  (was = -1 ∧ ∀ (j : Nat) (q : Qu), k ≤ j → qs[j]? = some q → ¬(q.ch = c ∧ ok)) ∨ ∃ (j0 : Nat) (q0 : Qu), was = j0 ∧ k ≤ j0 ∧ qs[j0]? = some q0 ∧ (q0.ch = c ∧ ok) ∧ ∀ (j : Nat) (q : Qu), k ≤ j → j < j0 → qs[j]? = some q → ¬(q.ch = c ∧ ok)
theorem WasQ.start {qs : List Qu} {c : Ch} {ok : Prop} {n : Nat} (hn : qs.length = n) : WasQ qs c ok n (-1) :=
  .inl ⟨rfl, fun j q hj hq => absurd (List.getElem?_eq_some_iff.1 hq).1 (by omega)⟩
theorem WasQ.yes {qs : List Qu} {c : Ch} {ok : Prop} {k : Nat} {q : Qu} (hq : qs[k]? = some q) (h : q.ch = c ∧ ok) : WasQ qs c ok k k :=
  .inr ⟨k, q, rfl, Nat.le_refl _, hq, h, fun j x h1 h2 => absurd h2 (by omega)⟩
theorem WasQ.no {qs : List Qu} {c : Ch} {ok : Prop} {k : Nat} {was : Int} {q : Qu} (hw : WasQ qs c ok (k + 1) was) (hq : qs[k]? = some q) (h : ¬(q.ch = c ∧ ok)) : WasQ qs c ok k was := by
  rcases hw with ⟨rfl, hn⟩ | ⟨j0, q0, rfl, h1, h2, h3, h4⟩
  · refine .inl ⟨rfl, fun j x hj hx => ?_⟩
    rcases Nat.eq_or_lt_of_le hj with rfl | hj
    · rw [hq] at hx; injection hx with hx; subst hx; exact h
    · exact hn j x hj hx
  · refine .inr ⟨j0, q0, rfl, by omega, h2, h3, fun j x hj hjl hx => ?_⟩
    rcases Nat.eq_or_lt_of_le hj with rfl | hj
    · rw [hq] at hx; injection hx with hx; subst hx; exact h
    · exact h4 j x hj hjl hx
theorem find_at {α : Type} (f : α → Bool) : ∀ (l : List α) (k : Nat) (p : α), l[k]? = some p → f p = true → (∀ (j : Nat) (q : α), j < k → l[j]? = some q → f q = false) → l.find? f = some p
  | [], k, p, h, _, _ => by simp at h
  | x :: l, 0, p, h, hp, _ => by simp at h; subst h; simp [hp]
  | x :: l, k + 1, p, h, hp, hn => by
    rw [List.find?_cons_of_neg (by simp [hn 0 x (by omega) rfl])]
    exact find_at f l k p (by simpa using h) hp (fun j q hj hq => hn (j + 1) q (by omega) (by simpa using hq))
theorem find_none {α : Type} (f : α → Bool) (l : List α) (h : ∀ (j : Nat) (q : α), l[j]? = some q → f q = false) : l.find? f = none := by
  rw [List.find?_eq_none]
  intro x hx
  obtain ⟨j, hj⟩ := List.mem_iff_getElem?.1 hx
  simp [h j x hj]
/-- The search, ended: it has found the queue that is kept. -/
theorem WasQ.end {ps : List Pt} {pn : List Pn} {qs : List Qu} {c : Ch} {was : Int} (hu : uniq (pn.map (·.id))) (h : WasQ qs c (c.fr ∈ keptL ps pn ∧ c.to ∈ keptL ps pn) 0 was) :
    (was = -1 ∧ queueP ps pn qs c = none) ∨ ∃ (j0 : Nat) (q0 : Qu), was = j0 ∧ qs[j0]? = some q0 ∧ q0.ch = c ∧ queueP ps pn qs c = some q0.msgs := by
  have hk : (keepsP ps pn c.fr = true ∧ keepsP ps pn c.to = true) ↔ (c.fr ∈ keptL ps pn ∧ c.to ∈ keptL ps pn) := by rw [keepsP_iff hu, keepsP_iff hu]
  rcases h with ⟨rfl, hn⟩ | ⟨j0, q0, rfl, _, h2, h3, h4⟩
  · refine .inl ⟨rfl, ?_⟩
    unfold queueP
    split
    · rename_i q hq
      obtain ⟨j, hj⟩ := List.mem_iff_getElem?.1 (List.mem_of_find?_eq_some hq)
      have := hn j q (Nat.zero_le _) hj
      have hc : q.ch = c := by simpa using List.find?_some hq
      rw [if_neg fun h => this ⟨hc, hk.1 h⟩]
    · rfl
  · refine .inr ⟨j0, q0, rfl, h2, h3.1, ?_⟩
    unfold queueP
    rw [find_at (fun q => decide (q.ch = c)) qs j0 q0 h2 (by simp [h3.1]) (fun j q hj hq => by have := h4 j q (Nat.zero_le _) hj hq; simp only [decide_eq_false_iff_not]; exact fun e => this ⟨e, h3.2⟩)]
    exact if_pos (hk.2 h3.2)
theorem chanL_le (ps : List Pt) (pn : List Pn) (qs : List Qu) (cs : List Ch) : (chanL ps pn qs cs).length ≤ cs.length := by unfold chanL; rw [List.length_map]; exact List.length_filter_le _ _
theorem keptL_le (ps : List Pt) (pn : List Pn) : (keptL ps pn).length ≤ pn.length := by unfold keptL; rw [List.length_map]; exact List.length_filter_le _ _
theorem moveQ_at {ps : List Pt} {pn : List Pn} {qs : List Qu} {cs : List Ch} {k : Nat} {c : Ch} (h : cs[k]? = some c) : (moveQ ps pn qs cs)[k]? = some ⟨c, (queueP ps pn qs c).getD []⟩ := by simp [moveQ, h]
theorem moveP_at {ps : List Pt} {pn : List Pn} {k : Nat} {p : Pn} (h : pn[k]? = some p) : (moveP ps pn)[k]? = some ((keptP ps p).getD (freshP p)) := by simp [moveP, h]
theorem chanL_take {ps : List Pt} {pn : List Pn} {qs : List Qu} {cs : List Ch} {k : Nat} {c : Ch} (h : cs[k]? = some c) :
    (chanL ps pn qs (cs.take (k + 1))).length = (chanL ps pn qs (cs.take k)).length + (if (queueP ps pn qs c).isSome = true then 1 else 0) := by
  unfold chanL
  split
  · rename_i hs
    rw [filter_take_some (fun c => (queueP ps pn qs c).isSome) cs k c h hs]; simp
  · rename_i hs
    rw [filter_take_none (fun c => (queueP ps pn qs c).isSome) cs k c h (by simpa using hs)]; simp
end Go.Proofs.Ytnfjkpeifleogaa.mv
