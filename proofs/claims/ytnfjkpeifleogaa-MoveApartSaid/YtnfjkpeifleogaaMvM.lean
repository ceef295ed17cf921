/- Moves: two answers of Move, boxed in whatever order; no condition. -/
import Derived.Test.YtnfjkpeifleogaaRows
import Derived.Test.YtnfjkpeifleogaaMvN
namespace Go.Proofs.Ytnfjkpeifleogaa.mv
open Go Go.ChangeShapes Go.WideShapes Go.ChangeAt Go.RowKit Go.Proofs.Ytnfjkpeifleogaa.rows
theorem GrowP.lo {lo lo' : Nat} {w : World} {v : Value} {xs : List Pt} (h : GrowP lo w v xs) (hl : lo' ≤ lo) : GrowP lo' w v xs := by
  obtain ⟨us, e1, e2, e3⟩ := h
  exact ⟨us, e1, own_lo e2 hl, fun u hu => MsgAt.mono (e3 u hu) hl (Nat.le_refl _)⟩
theorem GrowP.pts {lo n c : Nat} {w : World} {A : Option Addr} {xs : List Pt} (h : GrowP lo w (.slice A n c) xs) : Pts w A xs := by
  obtain ⟨A', c', e, _, _, k⟩ := GrowP.form h
  injection e with e1 _ _
  rw [e1]; exact k
/-- What Move answers, as rows of its own. -/
def GrOut (fr : Int) (nn nc : Nat) (xs : List Pt) (w : World) (e : Ending) (w' : World) : Prop :=
  Below w.heap.size w w' ∧ ∃ A c B d, e = .returned (.agg #[.int .i64 fr, .slice A nn c, .slice B nc d]) ∧ GrowP 0 w' (.slice A nn c) xs
theorem move_gr (fr : Int) (ps : List Pt) (pn : List Pn) (qs : List Qu) (cs : List Ch) (Ap Aq Aw An Ac : Option Addr) (np cp nq cq nw cw nn cn nc cc : Nat) (hnp : ps.length = np) (hnn : pn.length = nn) (hnq : qs.length = nq) (hnc : cs.length = nc) (h63 : np ≤ 1000000) (h632 : nn ≤ 1000000) (h633 : nq ≤ 1000000) (h634 : nc ≤ 1000000) (hml : ∀ x ∈ ps, x.mem.length ≤ 1000000) (hqm : ∀ q ∈ qs, q.msgs.length ≤ 1000000 ∧ ∀ m ∈ q.msgs, m.length ≤ 1000000) (w : World) (h : Pts w Ap ps) (h2 : Pns w An pn) (h3 : Qus w Aq qs) (h4 : Rd w Ac (chCells cs)) :
    Calls Try.prog 12 #[.agg #[.int .i64 fr, .slice Ap np cp, .slice Aq nq cq], .agg #[.slice Aw nw cw, .slice An nn cn, .slice Ac nc cc]] w (GrOut fr nn nc (moveP ps pn) w) := by
  refine (move fr ps pn qs cs Ap Aq Aw An Ac np cp nq cq nw cw nn cn nc cc hnp hnn hnq hnc h63 h632 h633 h634 hml hqm w h h2 h3 h4).mono ?_
  rintro e w' ⟨b, A, c, B, d, rfl, hp, _⟩
  rw [moveP_length, hnn] at hp
  exact ⟨b, A, c, B, d, by rw [moveP_length, moveQ_length, hnn, hnc], hp.lo (Nat.zero_le _)⟩
abbrev stBlk (w : World) (g : Nat) (a b c : Value) : Prop := w.heap[g]? = some (.cells #[a, b, c] 25 (0, 0))
abbrev set3 (w : World) (g : Nat) (x y z : Value) : World := ((w.setCell ⟨g, 0, none⟩ x).setCell ⟨g, 1, none⟩ y).setCell ⟨g, 2, none⟩ z
theorem set3_here {w : World} {g : Nat} {a b c : Value} (h : stBlk w g a b c) (x y z : Value) : stBlk (set3 w g x y z) g x y z := blk_set (blk_set (blk_set h 0 x) 1 y) 2 z
theorem set3_far {w : World} {g g' : Nat} {o : Obj} (h : w.heap[g']? = some o) (hne : g' ≠ g) (x y z : Value) : (set3 w g x y z).heap[g']? = some o :=
  blk_far (blk_far (blk_far h (p := ⟨g, 0, none⟩) hne x) (p := ⟨g, 1, none⟩) hne y) (p := ⟨g, 2, none⟩) hne z
theorem set3_kept {w : World} {g : Nat} {a b c : Value} (h : stBlk w g a b c) (x y z : Value) : KeptX 25 w (set3 w g x y z) :=
  KeptX.trans (KeptX.trans (KeptX.set h 0 x) (KeptX.set (blk_set h 0 x) 1 y)) (KeptX.set (blk_set (blk_set h 0 x) 1 y) 2 z)
theorem set3_below {a w : World} {g : Nat} (h : Below a.heap.size a w) (hg : a.heap.size ≤ g) (x y z : Value) : Below a.heap.size a (set3 w g x y z) := belowS (belowS (belowS h hg 0 x) hg 1 y) hg 2 z
/-- Both answers boxed: the first one in block g, the second one in block g'. -/
def After (w4 : World) (v v' : Value) (xs xs' : List Pt) (a b c a' b' c' : Value) (g g' : Nat) (W : World) : Prop :=
  Below w4.heap.size w4 W ∧ stBlk W g a b c ∧ stBlk W g' a' b' c' ∧ GrowP 0 W v xs ∧ GrowP 0 W v' xs'
variable {w4 w6 : World} {v v' : Value} {xs xs' : List Pt}
theorem gr_alloc {w : World} {u : Value} {ys : List Pt} (h : GrowP 0 w u ys) (o : Obj) : GrowP 0 (w.alloc o) u ys := h.below (ext1 w o)
theorem after_a1 (hb : Below w4.heap.size w4 w6) (h1 : GrowP 0 w6 v xs) (h2 : GrowP 0 w6 v' xs') (a b c a' b' c' : Value) :
    After w4 v v' xs xs' a b c a' b' c' w6.heap.size (w6.heap.size + 1) ((w6.alloc (.cells #[a, b, c] 25)).alloc (.cells #[a', b', c'] 25)) :=
  ⟨belowA (belowA hb _) _, blk_alloc (blk_new _ _ _) _, blk_new2 _ _ _ _, gr_alloc (gr_alloc h1 _) _, gr_alloc (gr_alloc h2 _) _⟩
theorem after_a2 (hb : Below w4.heap.size w4 w6) (h1 : GrowP 0 w6 v xs) (h2 : GrowP 0 w6 v' xs') (a b c a' b' c' : Value) :
    After w4 v v' xs xs' a b c a' b' c' (w6.heap.size + 1) w6.heap.size ((w6.alloc (.cells #[a', b', c'] 25)).alloc (.cells #[a, b, c] 25)) :=
  ⟨belowA (belowA hb _) _, blk_new2 _ _ _ _, blk_alloc (blk_new _ _ _) _, gr_alloc (gr_alloc h1 _) _, gr_alloc (gr_alloc h2 _) _⟩
theorem after_b {g : Nat} {x y z : Value} (hb : Below w4.heap.size w4 w6) (h1 : GrowP 0 w6 v xs) (h2 : GrowP 0 w6 v' xs') (hg : stBlk w6 g x y z) (hl : w4.heap.size ≤ g) (a b c a' b' c' : Value) :
    After w4 v v' xs xs' a b c a' b' c' w6.heap.size g (set3 (w6.alloc (.cells #[a, b, c] 25)) g a' b' c') :=
  have k := set3_kept (blk_alloc hg (.cells #[a, b, c] 25)) a' b' c'
  ⟨set3_below (belowA hb _) hl _ _ _, set3_far (blk_new _ _ _) (Nat.ne_of_gt (blk_lt hg)) _ _ _, set3_here (blk_alloc hg _) _ _ _, (gr_alloc h1 _).keptX (by decide) (by decide) k, (gr_alloc h2 _).keptX (by decide) (by decide) k⟩
theorem after_d {g g' : Nat} {x y z x' y' z' : Value} (hb : Below w4.heap.size w4 w6) (h1 : GrowP 0 w6 v xs) (h2 : GrowP 0 w6 v' xs') (hg : stBlk w6 g x y z) (hl : w4.heap.size ≤ g) (hg' : stBlk w6 g' x' y' z') (hl' : w4.heap.size ≤ g') (hne : g ≠ g') (a b c a' b' c' : Value) :
    After w4 v v' xs xs' a b c a' b' c' g g' (set3 (set3 w6 g a b c) g' a' b' c') :=
  have k1 := set3_kept hg a b c
  have hf := set3_far hg' hne.symm a b c
  have k2 := set3_kept hf a' b' c'
  ⟨set3_below (set3_below hb hl _ _ _) hl' _ _ _, set3_far (set3_here hg _ _ _) hne _ _ _, set3_here hf _ _ _, (h1.keptX (by decide) (by decide) k1).keptX (by decide) (by decide) k2, (h2.keptX (by decide) (by decide) k1).keptX (by decide) (by decide) k2⟩
theorem after_c {g : Nat} {x y z x' y' z' : Value} (hb : Below w4.heap.size w4 w6) (h1 : GrowP 0 w6 v xs) (h2 : GrowP 0 w6 v' xs') (hg : stBlk w6 g x y z) (hl : w4.heap.size ≤ g) (a b c a' b' c' : Value) :
    After w4 v v' xs xs' a b c a' b' c' g w6.heap.size (set3 (set3 (w6.alloc (.cells #[x', y', z'] 25)) g a b c) w6.heap.size a' b' c') :=
  after_d (belowA hb _) (gr_alloc h1 _) (gr_alloc h2 _) (blk_alloc hg _) hl (blk_new _ _ _) hb.size (Nat.ne_of_lt (blk_lt hg)) _ _ _ _ _ _
/-- Is this part kept as that partition? -/
def Fits (x : Pt) (p : Pn) : Prop := x.id = p.id ∧ x.keep = true ∧ p.keep = true ∧ x.size = p.size
def WasP (ps : List Pt) (p : Pn) (k : Nat) (was : Int) : Prop :=
  (was = -1 ∧ ∀ (j : Nat) (x : Pt), j < k → ps[j]? = some x → ¬ Fits x p) ∨ ∃ (j0 : Nat) (x0 : Pt), was = j0 ∧ ps[j0]? = some x0 ∧ Fits x0 p
theorem WasP.start {ps : List Pt} {p : Pn} : WasP ps p 0 (-1) := .inl ⟨rfl, fun _ _ hj => absurd hj (Nat.not_lt_zero _)⟩
theorem WasP.yes {ps : List Pt} {p : Pn} {k : Nat} {x : Pt} (hx : ps[k]? = some x) (h : Fits x p) : WasP ps p (k + 1) k := .inr ⟨k, x, rfl, hx, h⟩
theorem WasP.no {ps : List Pt} {p : Pn} {k : Nat} {was : Int} {x : Pt} (hw : WasP ps p k was) (hx : ps[k]? = some x) (h : ¬ Fits x p) : WasP ps p (k + 1) was := by
  rcases hw with ⟨rfl, hn⟩ | ⟨j0, x0, rfl, h2, h3⟩
  · refine .inl ⟨rfl, fun j y hj hy => ?_⟩
    rcases Nat.lt_or_eq_of_le (Nat.lt_succ_iff.1 hj) with hj | rfl
    · exact hn j y hj hy
    · rw [hx] at hy; injection hy with hy; subst hy; exact h
  · exact .inr ⟨j0, x0, rfl, h2, h3⟩
theorem WasP.end {ps : List Pt} {pn : List Pn} {p : Pn} {n : Nat} {was : Int} (hu : uniq (ps.map (·.id))) (hu2 : uniq (pn.map (·.id))) (hp : p ∈ pn) (hn : ps.length = n) (h : WasP ps p n was) :
    (was = -1 ∧ keptP ps p = none ∧ p.id ∉ keptL ps pn) ∨ ∃ (j0 : Nat) (x0 : Pt), was = j0 ∧ j0 < n ∧ ps[j0]? = some x0 ∧ keptP ps p = some x0 ∧ p.id ∈ keptL ps pn := by
  rcases h with ⟨rfl, hno⟩ | ⟨j0, x0, rfl, h2, h3⟩
  · have hk : keptP ps p = none := by
      cases hk : keptP ps p with
      | none => rfl
      | some x =>
        obtain ⟨hm, h1, h2, h3, h4⟩ := keptP_some hk
        obtain ⟨j, hj⟩ := List.mem_iff_getElem?.1 hm
        exact absurd ⟨h1, h3, h2, h4⟩ (hno j x (by rw [← hn]; exact (List.getElem?_eq_some_iff.1 hj).1) hj)
    refine .inl ⟨rfl, hk, fun hm => ?_⟩
    obtain ⟨p', hp', hk', hid⟩ := mem_keptL.1 hm
    obtain rfl : p' = p := uniq_mem (·.id) hu2 hp' hp hid
    rw [hk] at hk'; cases hk'
  · have hk : keptP ps p = some x0 := by rw [keptP_uniq hu (List.mem_of_getElem? h2) h3.1, if_pos ⟨h3.2.2.1, h3.2.1, h3.2.2.2⟩]
    exact .inr ⟨j0, x0, rfl, by rw [← hn]; exact (List.getElem?_eq_some_iff.1 h2).1, h2, hk, mem_keptL.2 ⟨p, hp, by rw [hk]; rfl, rfl⟩⟩
end Go.Proofs.Ytnfjkpeifleogaa.mv
