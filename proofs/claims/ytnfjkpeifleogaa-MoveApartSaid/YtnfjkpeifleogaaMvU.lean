/- Moves: the reference's Move; no condition. -/
import Derived.Test.YtnfjkpeifleogaaRows
import Derived.Test.YtnfjkpeifleogaaMvT
import Derived.Deep.RegionHeld3
import Derived.Deep.Cut
namespace Go.Proofs.Ytnfjkpeifleogaa.mv
open Go Go.ChangeShapes Go.WideShapes Go.ChangeAt Go.RowKit Go.Proofs.Ytnfjkpeifleogaa.rows
theorem belowG {B : Nat} {a w : World} {g : Nat} (h : Below B a w) (hg : B ≤ g) (k : Nat) (u : Value) : Below B a (w.setCell ⟨g, k, none⟩ u) := h.setCell (p := ⟨g, k, none⟩) hg u
theorem KeptX.refl (T : TypeId) (w : World) : KeptX T w w := ⟨Nat.le_refl _, fun _ _ _ _ h => h⟩
abbrev set14w (w : World) (g : Nat) (v0 v1 v2 v3 v4 v5 v6 v7 v8 v9 v10 v11 v12 v13 : Value) : World := ((((((((((((((w.setCell ⟨g, 0, none⟩ v0).setCell ⟨g, 1, none⟩ v1).setCell ⟨g, 2, none⟩ v2).setCell ⟨g, 3, none⟩ v3).setCell ⟨g, 4, none⟩ v4).setCell ⟨g, 5, none⟩ v5).setCell ⟨g, 6, none⟩ v6).setCell ⟨g, 7, none⟩ v7).setCell ⟨g, 8, none⟩ v8).setCell ⟨g, 9, none⟩ v9).setCell ⟨g, 10, none⟩ v10).setCell ⟨g, 11, none⟩ v11).setCell ⟨g, 12, none⟩ v12).setCell ⟨g, 13, none⟩ v13)
theorem set14 {T : TypeId} {w : World} {g : Nat} {u0 u1 u2 u3 u4 u5 u6 u7 u8 u9 u10 u11 u12 u13 v0 v1 v2 v3 v4 v5 v6 v7 v8 v9 v10 v11 v12 v13 : Value} (h : w.heap[g]? = some (.cells #[u0, u1, u2, u3, u4, u5, u6, u7, u8, u9, u10, u11, u12, u13] T (0, 0))) : (set14w w g v0 v1 v2 v3 v4 v5 v6 v7 v8 v9 v10 v11 v12 v13).heap[g]? = some (.cells #[v0, v1, v2, v3, v4, v5, v6, v7, v8, v9, v10, v11, v12, v13] T (0, 0)) ∧ KeptX T w (set14w w g v0 v1 v2 v3 v4 v5 v6 v7 v8 v9 v10 v11 v12 v13) ∧ ∀ (B : Nat) (a : World), Below B a w → B ≤ g → Below B a (set14w w g v0 v1 v2 v3 v4 v5 v6 v7 v8 v9 v10 v11 v12 v13) := by
  have h0 : (w.setCell ⟨g, 0, none⟩ v0).heap[g]? = some (.cells #[v0, u1, u2, u3, u4, u5, u6, u7, u8, u9, u10, u11, u12, u13] T (0, 0)) := blk_set h 0 v0
  have k0 : KeptX T w (w.setCell ⟨g, 0, none⟩ v0) := KeptX.trans (KeptX.refl T w) (KeptX.set h 0 v0)
  have h1 : ((w.setCell ⟨g, 0, none⟩ v0).setCell ⟨g, 1, none⟩ v1).heap[g]? = some (.cells #[v0, v1, u2, u3, u4, u5, u6, u7, u8, u9, u10, u11, u12, u13] T (0, 0)) := blk_set h0 1 v1
  have k1 : KeptX T w ((w.setCell ⟨g, 0, none⟩ v0).setCell ⟨g, 1, none⟩ v1) := KeptX.trans k0 (KeptX.set h0 1 v1)
  have h2 : (((w.setCell ⟨g, 0, none⟩ v0).setCell ⟨g, 1, none⟩ v1).setCell ⟨g, 2, none⟩ v2).heap[g]? = some (.cells #[v0, v1, v2, u3, u4, u5, u6, u7, u8, u9, u10, u11, u12, u13] T (0, 0)) := blk_set h1 2 v2
  have k2 : KeptX T w (((w.setCell ⟨g, 0, none⟩ v0).setCell ⟨g, 1, none⟩ v1).setCell ⟨g, 2, none⟩ v2) := KeptX.trans k1 (KeptX.set h1 2 v2)
  have h3 : ((((w.setCell ⟨g, 0, none⟩ v0).setCell ⟨g, 1, none⟩ v1).setCell ⟨g, 2, none⟩ v2).setCell ⟨g, 3, none⟩ v3).heap[g]? = some (.cells #[v0, v1, v2, v3, u4, u5, u6, u7, u8, u9, u10, u11, u12, u13] T (0, 0)) := blk_set h2 3 v3
  have k3 : KeptX T w ((((w.setCell ⟨g, 0, none⟩ v0).setCell ⟨g, 1, none⟩ v1).setCell ⟨g, 2, none⟩ v2).setCell ⟨g, 3, none⟩ v3) := KeptX.trans k2 (KeptX.set h2 3 v3)
  have h4 : (((((w.setCell ⟨g, 0, none⟩ v0).setCell ⟨g, 1, none⟩ v1).setCell ⟨g, 2, none⟩ v2).setCell ⟨g, 3, none⟩ v3).setCell ⟨g, 4, none⟩ v4).heap[g]? = some (.cells #[v0, v1, v2, v3, v4, u5, u6, u7, u8, u9, u10, u11, u12, u13] T (0, 0)) := blk_set h3 4 v4
  have k4 : KeptX T w (((((w.setCell ⟨g, 0, none⟩ v0).setCell ⟨g, 1, none⟩ v1).setCell ⟨g, 2, none⟩ v2).setCell ⟨g, 3, none⟩ v3).setCell ⟨g, 4, none⟩ v4) := KeptX.trans k3 (KeptX.set h3 4 v4)
  have h5 : ((((((w.setCell ⟨g, 0, none⟩ v0).setCell ⟨g, 1, none⟩ v1).setCell ⟨g, 2, none⟩ v2).setCell ⟨g, 3, none⟩ v3).setCell ⟨g, 4, none⟩ v4).setCell ⟨g, 5, none⟩ v5).heap[g]? = some (.cells #[v0, v1, v2, v3, v4, v5, u6, u7, u8, u9, u10, u11, u12, u13] T (0, 0)) := blk_set h4 5 v5
  have k5 : KeptX T w ((((((w.setCell ⟨g, 0, none⟩ v0).setCell ⟨g, 1, none⟩ v1).setCell ⟨g, 2, none⟩ v2).setCell ⟨g, 3, none⟩ v3).setCell ⟨g, 4, none⟩ v4).setCell ⟨g, 5, none⟩ v5) := KeptX.trans k4 (KeptX.set h4 5 v5)
  have h6 : (((((((w.setCell ⟨g, 0, none⟩ v0).setCell ⟨g, 1, none⟩ v1).setCell ⟨g, 2, none⟩ v2).setCell ⟨g, 3, none⟩ v3).setCell ⟨g, 4, none⟩ v4).setCell ⟨g, 5, none⟩ v5).setCell ⟨g, 6, none⟩ v6).heap[g]? = some (.cells #[v0, v1, v2, v3, v4, v5, v6, u7, u8, u9, u10, u11, u12, u13] T (0, 0)) := blk_set h5 6 v6
  have k6 : KeptX T w (((((((w.setCell ⟨g, 0, none⟩ v0).setCell ⟨g, 1, none⟩ v1).setCell ⟨g, 2, none⟩ v2).setCell ⟨g, 3, none⟩ v3).setCell ⟨g, 4, none⟩ v4).setCell ⟨g, 5, none⟩ v5).setCell ⟨g, 6, none⟩ v6) := KeptX.trans k5 (KeptX.set h5 6 v6)
  have h7 : ((((((((w.setCell ⟨g, 0, none⟩ v0).setCell ⟨g, 1, none⟩ v1).setCell ⟨g, 2, none⟩ v2).setCell ⟨g, 3, none⟩ v3).setCell ⟨g, 4, none⟩ v4).setCell ⟨g, 5, none⟩ v5).setCell ⟨g, 6, none⟩ v6).setCell ⟨g, 7, none⟩ v7).heap[g]? = some (.cells #[v0, v1, v2, v3, v4, v5, v6, v7, u8, u9, u10, u11, u12, u13] T (0, 0)) := blk_set h6 7 v7
  have k7 : KeptX T w ((((((((w.setCell ⟨g, 0, none⟩ v0).setCell ⟨g, 1, none⟩ v1).setCell ⟨g, 2, none⟩ v2).setCell ⟨g, 3, none⟩ v3).setCell ⟨g, 4, none⟩ v4).setCell ⟨g, 5, none⟩ v5).setCell ⟨g, 6, none⟩ v6).setCell ⟨g, 7, none⟩ v7) := KeptX.trans k6 (KeptX.set h6 7 v7)
  have h8 : (((((((((w.setCell ⟨g, 0, none⟩ v0).setCell ⟨g, 1, none⟩ v1).setCell ⟨g, 2, none⟩ v2).setCell ⟨g, 3, none⟩ v3).setCell ⟨g, 4, none⟩ v4).setCell ⟨g, 5, none⟩ v5).setCell ⟨g, 6, none⟩ v6).setCell ⟨g, 7, none⟩ v7).setCell ⟨g, 8, none⟩ v8).heap[g]? = some (.cells #[v0, v1, v2, v3, v4, v5, v6, v7, v8, u9, u10, u11, u12, u13] T (0, 0)) := blk_set h7 8 v8
  have k8 : KeptX T w (((((((((w.setCell ⟨g, 0, none⟩ v0).setCell ⟨g, 1, none⟩ v1).setCell ⟨g, 2, none⟩ v2).setCell ⟨g, 3, none⟩ v3).setCell ⟨g, 4, none⟩ v4).setCell ⟨g, 5, none⟩ v5).setCell ⟨g, 6, none⟩ v6).setCell ⟨g, 7, none⟩ v7).setCell ⟨g, 8, none⟩ v8) := KeptX.trans k7 (KeptX.set h7 8 v8)
  have h9 : ((((((((((w.setCell ⟨g, 0, none⟩ v0).setCell ⟨g, 1, none⟩ v1).setCell ⟨g, 2, none⟩ v2).setCell ⟨g, 3, none⟩ v3).setCell ⟨g, 4, none⟩ v4).setCell ⟨g, 5, none⟩ v5).setCell ⟨g, 6, none⟩ v6).setCell ⟨g, 7, none⟩ v7).setCell ⟨g, 8, none⟩ v8).setCell ⟨g, 9, none⟩ v9).heap[g]? = some (.cells #[v0, v1, v2, v3, v4, v5, v6, v7, v8, v9, u10, u11, u12, u13] T (0, 0)) := blk_set h8 9 v9
  have k9 : KeptX T w ((((((((((w.setCell ⟨g, 0, none⟩ v0).setCell ⟨g, 1, none⟩ v1).setCell ⟨g, 2, none⟩ v2).setCell ⟨g, 3, none⟩ v3).setCell ⟨g, 4, none⟩ v4).setCell ⟨g, 5, none⟩ v5).setCell ⟨g, 6, none⟩ v6).setCell ⟨g, 7, none⟩ v7).setCell ⟨g, 8, none⟩ v8).setCell ⟨g, 9, none⟩ v9) := KeptX.trans k8 (KeptX.set h8 9 v9)
  have h10 : (((((((((((w.setCell ⟨g, 0, none⟩ v0).setCell ⟨g, 1, none⟩ v1).setCell ⟨g, 2, none⟩ v2).setCell ⟨g, 3, none⟩ v3).setCell ⟨g, 4, none⟩ v4).setCell ⟨g, 5, none⟩ v5).setCell ⟨g, 6, none⟩ v6).setCell ⟨g, 7, none⟩ v7).setCell ⟨g, 8, none⟩ v8).setCell ⟨g, 9, none⟩ v9).setCell ⟨g, 10, none⟩ v10).heap[g]? = some (.cells #[v0, v1, v2, v3, v4, v5, v6, v7, v8, v9, v10, u11, u12, u13] T (0, 0)) := blk_set h9 10 v10
  have k10 : KeptX T w (((((((((((w.setCell ⟨g, 0, none⟩ v0).setCell ⟨g, 1, none⟩ v1).setCell ⟨g, 2, none⟩ v2).setCell ⟨g, 3, none⟩ v3).setCell ⟨g, 4, none⟩ v4).setCell ⟨g, 5, none⟩ v5).setCell ⟨g, 6, none⟩ v6).setCell ⟨g, 7, none⟩ v7).setCell ⟨g, 8, none⟩ v8).setCell ⟨g, 9, none⟩ v9).setCell ⟨g, 10, none⟩ v10) := KeptX.trans k9 (KeptX.set h9 10 v10)
  have h11 : ((((((((((((w.setCell ⟨g, 0, none⟩ v0).setCell ⟨g, 1, none⟩ v1).setCell ⟨g, 2, none⟩ v2).setCell ⟨g, 3, none⟩ v3).setCell ⟨g, 4, none⟩ v4).setCell ⟨g, 5, none⟩ v5).setCell ⟨g, 6, none⟩ v6).setCell ⟨g, 7, none⟩ v7).setCell ⟨g, 8, none⟩ v8).setCell ⟨g, 9, none⟩ v9).setCell ⟨g, 10, none⟩ v10).setCell ⟨g, 11, none⟩ v11).heap[g]? = some (.cells #[v0, v1, v2, v3, v4, v5, v6, v7, v8, v9, v10, v11, u12, u13] T (0, 0)) := blk_set h10 11 v11
  have k11 : KeptX T w ((((((((((((w.setCell ⟨g, 0, none⟩ v0).setCell ⟨g, 1, none⟩ v1).setCell ⟨g, 2, none⟩ v2).setCell ⟨g, 3, none⟩ v3).setCell ⟨g, 4, none⟩ v4).setCell ⟨g, 5, none⟩ v5).setCell ⟨g, 6, none⟩ v6).setCell ⟨g, 7, none⟩ v7).setCell ⟨g, 8, none⟩ v8).setCell ⟨g, 9, none⟩ v9).setCell ⟨g, 10, none⟩ v10).setCell ⟨g, 11, none⟩ v11) := KeptX.trans k10 (KeptX.set h10 11 v11)
  have h12 : (((((((((((((w.setCell ⟨g, 0, none⟩ v0).setCell ⟨g, 1, none⟩ v1).setCell ⟨g, 2, none⟩ v2).setCell ⟨g, 3, none⟩ v3).setCell ⟨g, 4, none⟩ v4).setCell ⟨g, 5, none⟩ v5).setCell ⟨g, 6, none⟩ v6).setCell ⟨g, 7, none⟩ v7).setCell ⟨g, 8, none⟩ v8).setCell ⟨g, 9, none⟩ v9).setCell ⟨g, 10, none⟩ v10).setCell ⟨g, 11, none⟩ v11).setCell ⟨g, 12, none⟩ v12).heap[g]? = some (.cells #[v0, v1, v2, v3, v4, v5, v6, v7, v8, v9, v10, v11, v12, u13] T (0, 0)) := blk_set h11 12 v12
  have k12 : KeptX T w (((((((((((((w.setCell ⟨g, 0, none⟩ v0).setCell ⟨g, 1, none⟩ v1).setCell ⟨g, 2, none⟩ v2).setCell ⟨g, 3, none⟩ v3).setCell ⟨g, 4, none⟩ v4).setCell ⟨g, 5, none⟩ v5).setCell ⟨g, 6, none⟩ v6).setCell ⟨g, 7, none⟩ v7).setCell ⟨g, 8, none⟩ v8).setCell ⟨g, 9, none⟩ v9).setCell ⟨g, 10, none⟩ v10).setCell ⟨g, 11, none⟩ v11).setCell ⟨g, 12, none⟩ v12) := KeptX.trans k11 (KeptX.set h11 12 v12)
  have h13 : ((((((((((((((w.setCell ⟨g, 0, none⟩ v0).setCell ⟨g, 1, none⟩ v1).setCell ⟨g, 2, none⟩ v2).setCell ⟨g, 3, none⟩ v3).setCell ⟨g, 4, none⟩ v4).setCell ⟨g, 5, none⟩ v5).setCell ⟨g, 6, none⟩ v6).setCell ⟨g, 7, none⟩ v7).setCell ⟨g, 8, none⟩ v8).setCell ⟨g, 9, none⟩ v9).setCell ⟨g, 10, none⟩ v10).setCell ⟨g, 11, none⟩ v11).setCell ⟨g, 12, none⟩ v12).setCell ⟨g, 13, none⟩ v13).heap[g]? = some (.cells #[v0, v1, v2, v3, v4, v5, v6, v7, v8, v9, v10, v11, v12, v13] T (0, 0)) := blk_set h12 13 v13
  have k13 : KeptX T w ((((((((((((((w.setCell ⟨g, 0, none⟩ v0).setCell ⟨g, 1, none⟩ v1).setCell ⟨g, 2, none⟩ v2).setCell ⟨g, 3, none⟩ v3).setCell ⟨g, 4, none⟩ v4).setCell ⟨g, 5, none⟩ v5).setCell ⟨g, 6, none⟩ v6).setCell ⟨g, 7, none⟩ v7).setCell ⟨g, 8, none⟩ v8).setCell ⟨g, 9, none⟩ v9).setCell ⟨g, 10, none⟩ v10).setCell ⟨g, 11, none⟩ v11).setCell ⟨g, 12, none⟩ v12).setCell ⟨g, 13, none⟩ v13) := KeptX.trans k12 (KeptX.set h12 13 v13)
  exact ⟨h13, k13, fun B a hb hg => (belowG (belowG (belowG (belowG (belowG (belowG (belowG (belowG (belowG (belowG (belowG (belowG (belowG (belowG hb hg 0 v0) hg 1 v1) hg 2 v2) hg 3 v3) hg 4 v4) hg 5 v5) hg 6 v6) hg 7 v7) hg 8 v8) hg 9 v9) hg 10 v10) hg 11 v11) hg 12 v12) hg 13 v13)⟩
theorem partI_of {ps : List Pt} {p : Pn} {x : Pt} (h : keptP ps p = some x) : ∃ k : Nat, partI ps p.id = (k : Int) ∧ ps[k]? = some x := by
  rcases firstI_spec (fun y : Pt => decide (y.id = p.id)) ps with ⟨_, hall⟩ | ⟨k, y, hf, hy, hfy, hlt⟩
  · have := hall x (keptP_some h).1
    simp [(keptP_some h).2.1] at this
  · refine ⟨k, hf, ?_⟩
    unfold keptP at h
    rw [find_at (fun y : Pt => decide (y.id = p.id)) ps k y hy hfy hlt] at h
    dsimp only at h
    split at h
    · injection h with h; rw [← h]; exact hy
    · cases h
set_option maxRecDepth 100000 in
set_option maxHeartbeats 8000000 in
theorem rmove (fr : Int) (ps : List Pt) (pn : List Pn) (qs : List Qu) (cs : List Ch) (Ap Aq Aw An Ac : Option Addr) (np cp nq cq nw cw nn cn nc cc : Nat) (hnp : ps.length = np) (hnn : pn.length = nn) (hnq : qs.length = nq) (hnc : cs.length = nc) (h63 : np ≤ 1000000) (h632 : nn ≤ 1000000) (h633 : nq ≤ 1000000) (h634 : nc ≤ 1000000) (hml : ∀ x ∈ ps, x.mem.length ≤ 1000000) (hqm : ∀ q ∈ qs, q.msgs.length ≤ 1000000 ∧ ∀ m ∈ q.msgs, m.length ≤ 1000000) (hil : ∀ y ∈ pn, y.img.length ≤ 1000000) (w : World) (h : Pts w Ap ps) (h2 : Pns w An pn) (h3 : Qus w Aq qs) (h4 : Rd w Ac (chCells cs)) :
    Calls Try.prog 17 #[.agg #[.int .i64 fr, .slice Ap np cp, .slice Aq nq cq], .agg #[.slice Aw nw cw, .slice An nn cn, .slice Ac nc cc]] w (RdOut fr nn nc (moveP ps pn) (moveQ ps pn qs cs) w) := by
  obtain ⟨i0, hi, hz0, hz1, hz2⟩ := info_parts info_ptz
  obtain ⟨j0, ji, jz0, jz1, jz2⟩ := info_parts info_quz
  obtain ⟨l0, li, lz0, lz1, lz2⟩ := info_parts info_row
  have g0 := blk_alloc (blk_alloc (blk_new w #[.int .i64 fr, .slice Ap np cp, .slice Aq nq cq] 25) (.cells #[.slice Aw nw cw, .slice An nn cn, .slice Ac nc cc] 30)) (.cells #[.int .i64 0, .slice none 0 0, .slice none 0 0] 25)
  have a0 := blk_cell g0 0
  have hB2 := (((((Below.refl w.heap.size w).alloc (Nat.le_refl _) (.cells #[.int .i64 fr, .slice Ap np cp, .slice Aq nq cq] 25)).alloc (by simp) (.cells #[.slice Aw nw cw, .slice An nn cn, .slice Ac nc cc] 30)).alloc (by simp; omega) (.cells #[.int .i64 0, .slice none 0 0, .slice none 0 0] 25)).alloc (by simp; omega) (.cells #[.int .i64 fr, .slice none 0 0, .slice none 0 0] 25))
  have G0 := Lib.hid (blk_alloc (blk_alloc (blk_alloc (blk_new w #[.int .i64 fr, .slice Ap np cp, .slice Aq nq cq] 25) (.cells #[.slice Aw nw cw, .slice An nn cn, .slice Ac nc cc] 30)) (.cells #[.int .i64 0, .slice none 0 0, .slice none 0 0] 25)) (.cells #[.int .i64 fr, .slice none 0 0, .slice none 0 0] 25))
  have G1 := Lib.hid (blk_alloc (blk_alloc (show ((w.alloc (.cells #[.int .i64 fr, .slice Ap np cp, .slice Aq nq cq] 25)).alloc (.cells #[.slice Aw nw cw, .slice An nn cn, .slice Ac nc cc] 30)).heap[w.heap.size + 1]? = some (.cells #[.slice Aw nw cw, .slice An nn cn, .slice Ac nc cc] 30 (0, 0)) by have := blk_new (w.alloc (.cells #[.int .i64 fr, .slice Ap np cp, .slice Aq nq cq] 25)) #[.slice Aw nw cw, .slice An nn cn, .slice Ac nc cc] 30; simpa using this) (.cells #[.int .i64 0, .slice none 0 0, .slice none 0 0] 25)) (.cells #[.int .i64 fr, .slice none 0 0, .slice none 0 0] 25))
  have G2 := Lib.hid (blk_alloc (show (((w.alloc (.cells #[.int .i64 fr, .slice Ap np cp, .slice Aq nq cq] 25)).alloc (.cells #[.slice Aw nw cw, .slice An nn cn, .slice Ac nc cc] 30)).alloc (.cells #[.int .i64 0, .slice none 0 0, .slice none 0 0] 25)).heap[w.heap.size + 2]? = some (.cells #[.int .i64 0, .slice none 0 0, .slice none 0 0] 25 (0, 0)) by have := blk_new ((w.alloc (.cells #[.int .i64 fr, .slice Ap np cp, .slice Aq nq cq] 25)).alloc (.cells #[.slice Aw nw cw, .slice An nn cn, .slice Ac nc cc] 30)) #[.int .i64 0, .slice none 0 0, .slice none 0 0] 25; simpa using this) (.cells #[.int .i64 fr, .slice none 0 0, .slice none 0 0] 25))
  have G3 := Lib.hid (show ((((w.alloc (.cells #[.int .i64 fr, .slice Ap np cp, .slice Aq nq cq] 25)).alloc (.cells #[.slice Aw nw cw, .slice An nn cn, .slice Ac nc cc] 30)).alloc (.cells #[.int .i64 0, .slice none 0 0, .slice none 0 0] 25)).alloc (.cells #[.int .i64 fr, .slice none 0 0, .slice none 0 0] 25)).heap[w.heap.size + 3]? = some (.cells #[.int .i64 fr, .slice none 0 0, .slice none 0 0] 25 (0, 0)) by have := blk_new (((w.alloc (.cells #[.int .i64 fr, .slice Ap np cp, .slice Aq nq cq] 25)).alloc (.cells #[.slice Aw nw cw, .slice An nn cn, .slice Ac nc cc] 30)).alloc (.cells #[.int .i64 0, .slice none 0 0, .slice none 0 0] 25)) #[.int .i64 fr, .slice none 0 0, .slice none 0 0] 25; simpa using this)
  have HB := Lib.hid hB2
  have HS := Lib.hid (show ((((w.alloc (.cells #[.int .i64 fr, .slice Ap np cp, .slice Aq nq cq] 25)).alloc (.cells #[.slice Aw nw cw, .slice An nn cn, .slice Ac nc cc] 30)).alloc (.cells #[.int .i64 0, .slice none 0 0, .slice none 0 0] 25)).alloc (.cells #[.int .i64 fr, .slice none 0 0, .slice none 0 0] 25)).heap.size = w.heap.size + 4 by simp)
  have H1 := Lib.hid h; have H2 := Lib.hid h2; have H3 := Lib.hid h3; have H4 := Lib.hid h4
  have HNP := Lib.hid hnp; have HNN := Lib.hid hnn; have HNQ := Lib.hid hnq; have HNC := Lib.hid hnc
  have ML := Lib.hid hml; have QM := Lib.hid hqm; have IL := Lib.hid hil
  have hnpi : (np : Int) ≤ 1000000 := by omega
  have hnni : (nn : Int) ≤ 1000000 := by omega
  have hnqi : (nq : Int) ≤ 1000000 := by omega
  have hnci : (nc : Int) ≤ 1000000 := by omega
  have LP := Lib.hid (show (moveP ps pn).length = nn by rw [moveP_length]; exact hnn); have LQ := Lib.hid (show (moveQ ps pn qs cs).length = nc by rw [moveQ_length]; exact hnc)
  clear h h2 h3 h4 hnp hnn hnq hnc hml hqm hil hB2 g0
  go_enter Try.func17, Try.ntmps17
  go_wp2_with fail
  clear a0
  generalize ((((w.alloc (.cells #[.int .i64 fr, .slice Ap np cp, .slice Aq nq cq] 25)).alloc (.cells #[.slice Aw nw cw, .slice An nn cn, .slice Ac nc cc] 30)).alloc (.cells #[.int .i64 0, .slice none 0 0, .slice none 0 0] 25)).alloc (.cells #[.int .i64 fr, .slice none 0 0, .slice none 0 0] 25)) = wb at *
  go_loopw [6] (fun iv wr => ∃ k : Nat, k ≤ nn ∧ iv = .int .i64 k ∧ ∃ v, wr.heap[w.heap.size + 3]? = some (.cells #[.int .i64 fr, v, .slice none 0 0] 25 (0, 0)) ∧ GrowP (w.heap.size + 4) wr v ((moveP ps pn).take k) ∧ Below (w.heap.size + 3) wb wr) (fun iv _ => nn - (intOf iv).toNat)
  case atStart => exact ⟨0, Nat.zero_le _, rfl, _, G3.out, by rw [List.take_zero]; exact GrowX.nil _ _, Below.refl _ _⟩
  case round =>
    obtain ⟨k, hk, rfl, v, ho, hg, hb⟩ := hrel
    have HO := Lib.hid ho; have BR := Lib.hid hb; have hz := hb.size
    have hzw : w.heap.size + 4 ≤ wr.heap.size := by rw [← HS.out]; exact hz
    have HBR := Lib.hid (HB.out.trans (BR.out.mono (Nat.le_add_right _ 3)))
    have SR := Lib.hid (blk_below G0.out BR.out (by omega)); have KR := Lib.hid (blk_below G1.out BR.out (by omega))
    have HQL := Lib.hid (show ((moveP ps pn).take k).length = k by rw [List.length_take, LP.out]; omega)
    obtain ⟨Av, cv, rfl, _, _, _⟩ := hg.form
    have HG := Lib.hid hg
    clear ho hb hg
    rw [HQL.out] at HG HO
    have c1 := blk_cell KR.out 1
    by_cases hkl : k < nn
    · have hki : (k : Int) < (nn : Int) := by omega
      obtain ⟨y, hy⟩ : ∃ y, pn[k]? = some y := ⟨_, List.getElem?_eq_getElem (by rw [HNN.out]; exact hkl)⟩
      obtain ⟨b, off, rfl, _⟩ := Rws.addr pn_len (by decide) H2.out (by rw [HNN.out]; omega)
      obtain ⟨Ai, ci, hin, hc⟩ := Rws.at pn_len (Pns.below H2.out HBR.out) hy
      have y0 := hc 0 _ rfl
      have y1 := hc 1 _ rfl
      have y2 := hc 2 _ rfl
      have y3 := hc 3 _ rfl
      have y4 := hc 4 _ rfl
      simp only [Nat.add_zero] at y0
      have HPK := Lib.hid (moveP_at (ps := ps) hy)
      obtain ⟨f, hf⟩ : ∃ f, freshP y = f := ⟨_, rfl⟩
      have T := rfresh y Ai y.img.length ci rfl (IL.out y (List.mem_of_getElem? hy)) (wr.alloc (.cells #[.int .i64 y.id, .int .i64 y.base, .int .i64 y.size, .bool y.keep, .slice Ai y.img.length ci] 40)) (hin.2.2.below (ext1 wr (.cells #[.int .i64 y.id, .int .i64 y.base, .int .i64 y.size, .bool y.keep, .slice Ai y.img.length ci] 40)))
      rw [hf] at T
      have HT := Lib.hid T
      have HFR := Lib.hid hf
      clear T hy hc hin hf
      have PA := Lib.hid (blk_new wr #[.int .i64 y.id, .int .i64 y.base, .int .i64 y.size, .bool y.keep, .slice Ai y.img.length ci] 40)
      have p0 := blk_cell PA.out 0
      have p1 := blk_cell PA.out 1
      have p2 := blk_cell PA.out 2
      have p3 := blk_cell PA.out 3
      have p4 := blk_cell PA.out 4
      go_wp2_with fail
      refine HT.out.mono ?_
      rintro e w4 ⟨b4, A9, c9, rfl, hmsg⟩
      clear HT c1 y0 p0 y1 p1 y2 p2 y3 p3 y4 p4
      have z4 : wr.heap.size + 1 ≤ w4.heap.size := by have := b4.size; simpa using this
      have B4 := Lib.hid ((ext1 wr (.cells #[.int .i64 y.id, .int .i64 y.base, .int .i64 y.size, .bool y.keep, .slice Ai y.img.length ci] 40)).trans (b4.mono (ext1 wr (.cells #[.int .i64 y.id, .int .i64 y.base, .int .i64 y.size, .bool y.keep, .slice Ai y.img.length ci] 40)).size))
      have PB := Lib.hid (blk_alloc (blk_below PA.out b4 (blk_lt PA.out)) (.cells #[.int .i64 f.id, .int .i64 f.size, .bool f.keep, .int .u32 f.r0, .int .u32 f.r1, .int .u32 f.r2, .int .u32 f.r3, .int .u32 f.r4, .int .u32 f.r5, .int .u32 f.r6, .int .u32 f.r7, .int .u32 f.pc, .int .u8 f.st, .slice A9 f.mem.length c9] 44))
      have XA := Lib.hid (blk_new w4 #[.int .i64 f.id, .int .i64 f.size, .bool f.keep, .int .u32 f.r0, .int .u32 f.r1, .int .u32 f.r2, .int .u32 f.r3, .int .u32 f.r4, .int .u32 f.r5, .int .u32 f.r6, .int .u32 f.r7, .int .u32 f.pc, .int .u8 f.st, .slice A9 f.mem.length c9] 44)
      have HMA := Lib.hid (msg_below (hmsg.mono (Nat.le_trans hzw (ext1 wr (.cells #[.int .i64 y.id, .int .i64 y.base, .int .i64 y.size, .bool y.keep, .slice Ai y.img.length ci] 40)).size) (Nat.le_refl _)) (ext1 w4 (.cells #[.int .i64 f.id, .int .i64 f.size, .bool f.keep, .int .u32 f.r0, .int .u32 f.r1, .int .u32 f.r2, .int .u32 f.r3, .int .u32 f.r4, .int .u32 f.r5, .int .u32 f.r6, .int .u32 f.r7, .int .u32 f.pc, .int .u8 f.st, .slice A9 f.mem.length c9] 44)))
      have BX := Lib.hid (B4.out.alloc B4.out.size (.cells #[.int .i64 f.id, .int .i64 f.size, .bool f.keep, .int .u32 f.r0, .int .u32 f.r1, .int .u32 f.r2, .int .u32 f.r3, .int .u32 f.r4, .int .u32 f.r5, .int .u32 f.r6, .int .u32 f.r7, .int .u32 f.pc, .int .u8 f.st, .slice A9 f.mem.length c9] 44))
      clear b4 hmsg PA
      have SX := Lib.hid (blk_below SR.out BX.out (blk_lt SR.out))
      have s0 := blk_cell SX.out 0
      have s1 := blk_cell SX.out 1
      have s2 := blk_cell SX.out 2
      have p0 := blk_cell PB.out 0
      have p1 := blk_cell PB.out 1
      have p2 := blk_cell PB.out 2
      have p3 := blk_cell PB.out 3
      have p4 := blk_cell PB.out 4
      have TK := Lib.hid (rkept fr ps y Ap Aq Ai np cp nq cq y.img.length ci HNP.out h63 (w4.alloc (.cells #[.int .i64 f.id, .int .i64 f.size, .bool f.keep, .int .u32 f.r0, .int .u32 f.r1, .int .u32 f.r2, .int .u32 f.r3, .int .u32 f.r4, .int .u32 f.r5, .int .u32 f.r6, .int .u32 f.r7, .int .u32 f.pc, .int .u8 f.st, .slice A9 f.mem.length c9] 44)) (Pts.below (Pts.below H1.out HBR.out) BX.out))
      go_wp2_with fail
      refine TK.out.mono ?_
      rintro e w5 ⟨rfl, b5⟩
      have B5 := Lib.hid (BX.out.trans (b5.mono BX.out.size))
      have XB := Lib.hid (blk_below XA.out b5 (blk_lt XA.out)); have HMB := Lib.hid (msg_below HMA.out b5); have PC := Lib.hid (blk_below PB.out b5 (blk_lt PB.out))
      have z5 : w4.heap.size + 1 ≤ w5.heap.size := by have := b5.size; simpa using this
      clear TK b5 XA HMA PB BX SX s0 s1 s2 p0 p1 p2 p3 p4
      cases hkp : keptP ps y with
      | none =>
        have HTK := Lib.hid (show (moveP ps pn).take (k + 1) = (moveP ps pn).take k ++ [f] by rw [List.take_add_one, HPK.out, hkp]; exact congrArg (fun z => _ ++ [z]) HFR.out)
        clear hkp
        have OUTW := Lib.hid (blk_below HO.out B5.out (blk_lt HO.out)); have BW := B5; have XC := XB
        have HMSG := Lib.hid (show ownB (w.heap.size + 4) w5.heap.size w5 A9 c9 f from HMB.out)
        go_upto_region 10 with fail
        have o1 := blk_cell OUTW.out 1
        have x0 := blk_cell XC.out 0
        have x1 := blk_cell XC.out 1
        have x2 := blk_cell XC.out 2
        have x3 := blk_cell XC.out 3
        have x4 := blk_cell XC.out 4
        have x5 := blk_cell XC.out 5
        have x6 := blk_cell XC.out 6
        have x7 := blk_cell XC.out 7
        have x8 := blk_cell XC.out 8
        have x9 := blk_cell XC.out 9
        have x10 := blk_cell XC.out 10
        have x11 := blk_cell XC.out 11
        have x12 := blk_cell XC.out 12
        have x13 := blk_cell XC.out 13
        have hgw := HG.out.below BW.out
        obtain ⟨us, hus, hown, hms⟩ := hgw
        rw [HQL.out] at hown
        have HUS := Lib.hid hus; have HOWN := Lib.hid hown; have HMS := Lib.hid hms
        have hsz := Nat.le_trans hz BW.out.size
        have hwz := Nat.le_trans hzw BW.out.size
        have HUL := Lib.hid (show us.length = k by rw [← HQL.out, ← hus, List.length_map])
        clear hus hown hms
        go_wp2_with (at_builtin; refine wpList_append_rd _ rfl (.tmp 46) (.tmp 48) 22 rfl (w.heap.size + 4) 44 i0 (.agg #[.int .i64 0, .int .i64 0, .bool false, .int .u32 0, .int .u32 0, .int .u32 0, .int .u32 0, .int .u32 0, .int .u32 0, .int .u32 0, .int .u32 0, .int .u32 0, .int .u8 0, .slice none 0 0]) 14 88 Try.underlying22 hi hz0 hz1 hz2 rfl (by decide) _ k (flat Pt.cells us) rfl (HOWN.out.alloc _) _ 1 _ #[.int .i64 f.id, .int .i64 f.size, .bool f.keep, .int .u32 f.r0, .int .u32 f.r1, .int .u32 f.r2, .int .u32 f.r3, .int .u32 f.r4, .int .u32 f.r5, .int .u32 f.r6, .int .u32 f.r7, .int .u32 f.pc, .int .u8 f.st, .slice A9 f.mem.length c9].toList rfl rfl (Rd.new _ _ _) ?d2 ?d3 ?d4 ?d5 ?_)
        case d2 => simp [Value.oneCell']
        case d3 => unfold maxLen; omega
        case d4 => omega
        case d5 => first | omega | (simp; omega)
        intro v5 w9 hown5 hg5
        have BA9 := Lib.hid (ext1 w5 (.cells #[.int .i64 f.id, .int .i64 f.size, .bool f.keep, .int .u32 f.r0, .int .u32 f.r1, .int .u32 f.r2, .int .u32 f.r3, .int .u32 f.r4, .int .u32 f.r5, .int .u32 f.r6, .int .u32 f.r7, .int .u32 f.pc, .int .u8 f.st, .slice A9 f.mem.length c9] 44))
        have KX := Lib.hid (KeptX.grown (HOWN.out.alloc (.cells #[.int .i64 f.id, .int .i64 f.size, .bool f.keep, .int .u32 f.r0, .int .u32 f.r1, .int .u32 f.r2, .int .u32 f.r3, .int .u32 f.r4, .int .u32 f.r5, .int .u32 f.r6, .int .u32 f.r7, .int .u32 f.pc, .int .u8 f.st, .slice A9 f.mem.length c9] 44)) hg5)
        have O5 := Lib.hid (KX.out.2 _ _ _ (by decide) (blk_alloc OUTW.out (.cells #[.int .i64 f.id, .int .i64 f.size, .bool f.keep, .int .u32 f.r0, .int .u32 f.r1, .int .u32 f.r2, .int .u32 f.r3, .int .u32 f.r4, .int .u32 f.r5, .int .u32 f.r6, .int .u32 f.r7, .int .u32 f.pc, .int .u8 f.st, .slice A9 f.mem.length c9] 44)))
        have hb5 := below_own (B := w.heap.size + 3) ((BR.out.trans (BW.out.mono (by omega))).alloc (by omega) (.cells #[.int .i64 f.id, .int .i64 f.size, .bool f.keep, .int .u32 f.r0, .int .u32 f.r1, .int .u32 f.r2, .int .u32 f.r3, .int .u32 f.r4, .int .u32 f.r5, .int .u32 f.r6, .int .u32 f.r7, .int .u32 f.pc, .int .u8 f.st, .slice A9 f.mem.length c9] 44)) (own_lo (HOWN.out.alloc _) (Nat.le_succ _)) hg5 (by first | omega | (simp; omega))
        have HG5 := Lib.hid (show GrowP (w.heap.size + 4) w9 v5 ((moveP ps pn).take (k + 1)) from by
          have h := GrowX.snoc (cs := Pt.cells) (own := ownB) (us := us) (u := (f, A9, c9)) (by rw [HUL.out]; exact HOWN.out.alloc (.cells #[.int .i64 f.id, .int .i64 f.size, .bool f.keep, .int .u32 f.r0, .int .u32 f.r1, .int .u32 f.r2, .int .u32 f.r3, .int .u32 f.r4, .int .u32 f.r5, .int .u32 f.r6, .int .u32 f.r7, .int .u32 f.pc, .int .u8 f.st, .slice A9 f.mem.length c9] 44)) (ownB_below _ _ _ _ _ _ HMSG.out BA9.out) (fun y hy => ownB_below _ _ _ _ _ _ (HMS.out y hy) BA9.out) (fun A c y hy => ownB_keptX (by decide) hy KX.out) (by rw [HUL.out]; exact hown5)
          rw [HUS.out] at h
          rw [HTK.out]
          exact h)
        have HB5 := Lib.hid hb5
        obtain ⟨A5, c5, hv5, _, _, _, _⟩ := own_form3s hown5
        subst hv5
        have o5 := blk_cell O5.out 1; have of5 := blk_frozen O5.out 1
        clear hown5 hg5 hb5 o1 x0 x1 x2 x3 x4 x5 x6 x7 x8 x9 x10 x11 x12 x13
        go_wp2_with fail
        go_roundw
        case rel => exact ⟨k + 1, by omega, by go_num, _, blk_set O5.out 1 _, HG5.out.keptX (by decide) (by decide) (KeptX.set O5.out 1 _), HB5.out.setCell (p := ⟨w.heap.size + 3, 1, none⟩) (Nat.le_refl _) _⟩
        case measure => simp [intOf] <;> omega
      | some x =>
        have HTK := Lib.hid (show (moveP ps pn).take (k + 1) = (moveP ps pn).take k ++ [x] by rw [List.take_add_one, HPK.out, hkp]; rfl)
        obtain ⟨k0, hpi, hx0⟩ := partI_of hkp
        clear hkp HMB
        have hk0 : k0 < np := by have := (List.getElem?_eq_some_iff.1 hx0).1; rw [HNP.out] at this; exact this
        have hk0i : (k0 : Int) < (np : Int) := by omega
        have hk00 : (0 : Int) ≤ (k0 : Int) := by omega
        obtain ⟨bs, os, rfl, _⟩ := Rws.addr pt_len (by decide) H1.out (by rw [HNP.out]; omega)
        obtain ⟨A1, c1x, hin, hc⟩ := Rws.at pt_len H1.out hx0
        have BW5 := Lib.hid (HBR.out.trans (B5.out.mono HBR.out.size))
        have y0 := (BW5.out.cell (p := ⟨_, _, none⟩) (World.block_lt_of_cell? w _ (hc 0 _ rfl))).trans (hc 0 _ rfl)
        have y1 := (BW5.out.cell (p := ⟨_, _, none⟩) (World.block_lt_of_cell? w _ (hc 1 _ rfl))).trans (hc 1 _ rfl)
        have y2 := (BW5.out.cell (p := ⟨_, _, none⟩) (World.block_lt_of_cell? w _ (hc 2 _ rfl))).trans (hc 2 _ rfl)
        have y3 := (BW5.out.cell (p := ⟨_, _, none⟩) (World.block_lt_of_cell? w _ (hc 3 _ rfl))).trans (hc 3 _ rfl)
        have y4 := (BW5.out.cell (p := ⟨_, _, none⟩) (World.block_lt_of_cell? w _ (hc 4 _ rfl))).trans (hc 4 _ rfl)
        have y5 := (BW5.out.cell (p := ⟨_, _, none⟩) (World.block_lt_of_cell? w _ (hc 5 _ rfl))).trans (hc 5 _ rfl)
        have y6 := (BW5.out.cell (p := ⟨_, _, none⟩) (World.block_lt_of_cell? w _ (hc 6 _ rfl))).trans (hc 6 _ rfl)
        have y7 := (BW5.out.cell (p := ⟨_, _, none⟩) (World.block_lt_of_cell? w _ (hc 7 _ rfl))).trans (hc 7 _ rfl)
        have y8 := (BW5.out.cell (p := ⟨_, _, none⟩) (World.block_lt_of_cell? w _ (hc 8 _ rfl))).trans (hc 8 _ rfl)
        have y9 := (BW5.out.cell (p := ⟨_, _, none⟩) (World.block_lt_of_cell? w _ (hc 9 _ rfl))).trans (hc 9 _ rfl)
        have y10 := (BW5.out.cell (p := ⟨_, _, none⟩) (World.block_lt_of_cell? w _ (hc 10 _ rfl))).trans (hc 10 _ rfl)
        have y11 := (BW5.out.cell (p := ⟨_, _, none⟩) (World.block_lt_of_cell? w _ (hc 11 _ rfl))).trans (hc 11 _ rfl)
        have y12 := (BW5.out.cell (p := ⟨_, _, none⟩) (World.block_lt_of_cell? w _ (hc 12 _ rfl))).trans (hc 12 _ rfl)
        have y13 := (BW5.out.cell (p := ⟨_, _, none⟩) (World.block_lt_of_cell? w _ (hc 13 _ rfl))).trans (hc 13 _ rfl)
        dsimp only [Pt.cells, Nat.add_zero] at y0 y1 y2 y3 y4 y5 y6 y7 y8 y9 y10 y11 y12 y13
        have SX := Lib.hid (blk_below SR.out B5.out (blk_lt SR.out))
        have HIN := Lib.hid hin.2.2
        have HMX := Lib.hid (ML.out x (List.mem_of_getElem? hx0))
        skip
        have HBS := Lib.hid (show bs < w4.heap.size from Nat.lt_of_lt_of_le (Nat.lt_of_lt_of_le ‹bs < w.heap.size› HBR.out.size) B4.out.size)
        have HSALL := Lib.hid (show ∀ w', Below w4.heap.size w5 w' → (Below w4.heap.size w5 w' ∧ w'.cell? ⟨w.heap.size, 0, none⟩ = some (.int .i64 fr) ∧ w'.cell? ⟨w.heap.size, 1, none⟩ = some (.slice (some ⟨bs, os, none⟩) np cp) ∧ w'.cell? ⟨w.heap.size, 2, none⟩ = some (.slice Aq nq cq) ∧ w'.cell? ⟨wr.heap.size, 0, none⟩ = some (.int .i64 y.id) ∧ w'.cell? ⟨bs, os + k0 * 14, none⟩ = some (.int .i64 x.id) ∧ w'.cell? ⟨bs, os + k0 * 14 + 1, none⟩ = some (.int .i64 x.size) ∧ w'.cell? ⟨bs, os + k0 * 14 + 2, none⟩ = some (.bool x.keep) ∧ w'.cell? ⟨bs, os + k0 * 14 + 3, none⟩ = some (.int .u32 x.r0) ∧ w'.cell? ⟨bs, os + k0 * 14 + 4, none⟩ = some (.int .u32 x.r1) ∧ w'.cell? ⟨bs, os + k0 * 14 + 5, none⟩ = some (.int .u32 x.r2) ∧ w'.cell? ⟨bs, os + k0 * 14 + 6, none⟩ = some (.int .u32 x.r3) ∧ w'.cell? ⟨bs, os + k0 * 14 + 7, none⟩ = some (.int .u32 x.r4) ∧ w'.cell? ⟨bs, os + k0 * 14 + 8, none⟩ = some (.int .u32 x.r5) ∧ w'.cell? ⟨bs, os + k0 * 14 + 9, none⟩ = some (.int .u32 x.r6) ∧ w'.cell? ⟨bs, os + k0 * 14 + 10, none⟩ = some (.int .u32 x.r7) ∧ w'.cell? ⟨bs, os + k0 * 14 + 11, none⟩ = some (.int .u32 x.pc) ∧ w'.cell? ⟨bs, os + k0 * 14 + 12, none⟩ = some (.int .u8 x.st) ∧ w'.cell? ⟨bs, os + k0 * 14 + 13, none⟩ = some (.slice A1 x.mem.length c1x)) from fun w' hb => ⟨hb, blk_cell (blk_below SX.out hb (Nat.lt_of_lt_of_le (blk_lt SR.out) B4.out.size)) 0, blk_cell (blk_below SX.out hb (Nat.lt_of_lt_of_le (blk_lt SR.out) B4.out.size)) 1, blk_cell (blk_below SX.out hb (Nat.lt_of_lt_of_le (blk_lt SR.out) B4.out.size)) 2, blk_cell (blk_below PC.out hb (Nat.lt_of_lt_of_le (Nat.lt_succ_self _) z4)) 0, (hb.cell (p := ⟨bs, _, none⟩) HBS.out).trans y0, (hb.cell (p := ⟨bs, _, none⟩) HBS.out).trans y1, (hb.cell (p := ⟨bs, _, none⟩) HBS.out).trans y2, (hb.cell (p := ⟨bs, _, none⟩) HBS.out).trans y3, (hb.cell (p := ⟨bs, _, none⟩) HBS.out).trans y4, (hb.cell (p := ⟨bs, _, none⟩) HBS.out).trans y5, (hb.cell (p := ⟨bs, _, none⟩) HBS.out).trans y6, (hb.cell (p := ⟨bs, _, none⟩) HBS.out).trans y7, (hb.cell (p := ⟨bs, _, none⟩) HBS.out).trans y8, (hb.cell (p := ⟨bs, _, none⟩) HBS.out).trans y9, (hb.cell (p := ⟨bs, _, none⟩) HBS.out).trans y10, (hb.cell (p := ⟨bs, _, none⟩) HBS.out).trans y11, (hb.cell (p := ⟨bs, _, none⟩) HBS.out).trans y12, (hb.cell (p := ⟨bs, _, none⟩) HBS.out).trans y13⟩)
        have HTP := Lib.hid (fun W (hW : Below w4.heap.size w5 W) => (rpart fr ps y.id (some ⟨bs, os, none⟩) Aq np cp nq cq HNP.out h63 W (Pts.below H1.out ((HBR.out.trans (B5.out.mono HBR.out.size)).trans (hW.mono (Nat.le_trans HBR.out.size B4.out.size))))))
        simp only [hpi] at HTP
        have hk5 : Below w4.heap.size w5 w5.drew := (Below.refl w4.heap.size w5).drew
        clear hx0 hpi hc hin y0 y1 y2 y3 y4 y5 y6 y7 y8 y9 y10 y11 y12 y13
        go_wp2_with fail
        go_region_held3 (fun w' => Below w4.heap.size w5 w' ∧ w'.cell? ⟨w.heap.size, 0, none⟩ = some (.int .i64 fr) ∧ w'.cell? ⟨w.heap.size, 1, none⟩ = some (.slice (some ⟨bs, os, none⟩) np cp) ∧ w'.cell? ⟨w.heap.size, 2, none⟩ = some (.slice Aq nq cq) ∧ w'.cell? ⟨wr.heap.size, 0, none⟩ = some (.int .i64 y.id) ∧ w'.cell? ⟨bs, os + k0 * 14, none⟩ = some (.int .i64 x.id) ∧ w'.cell? ⟨bs, os + k0 * 14 + 1, none⟩ = some (.int .i64 x.size) ∧ w'.cell? ⟨bs, os + k0 * 14 + 2, none⟩ = some (.bool x.keep) ∧ w'.cell? ⟨bs, os + k0 * 14 + 3, none⟩ = some (.int .u32 x.r0) ∧ w'.cell? ⟨bs, os + k0 * 14 + 4, none⟩ = some (.int .u32 x.r1) ∧ w'.cell? ⟨bs, os + k0 * 14 + 5, none⟩ = some (.int .u32 x.r2) ∧ w'.cell? ⟨bs, os + k0 * 14 + 6, none⟩ = some (.int .u32 x.r3) ∧ w'.cell? ⟨bs, os + k0 * 14 + 7, none⟩ = some (.int .u32 x.r4) ∧ w'.cell? ⟨bs, os + k0 * 14 + 8, none⟩ = some (.int .u32 x.r5) ∧ w'.cell? ⟨bs, os + k0 * 14 + 9, none⟩ = some (.int .u32 x.r6) ∧ w'.cell? ⟨bs, os + k0 * 14 + 10, none⟩ = some (.int .u32 x.r7) ∧ w'.cell? ⟨bs, os + k0 * 14 + 11, none⟩ = some (.int .u32 x.pc) ∧ w'.cell? ⟨bs, os + k0 * 14 + 12, none⟩ = some (.int .u8 x.st) ∧ w'.cell? ⟨bs, os + k0 * 14 + 13, none⟩ = some (.slice A1 x.mem.length c1x))
          (first | (with_reducible exact HSALL.out _ hk5) | (with_reducible exact HSALL.out _ (by assumption)) | (refine HSALL.out _ ?_; repeat' (first | (with_reducible assumption) | (with_reducible refine belowG ?_ (Nat.le_refl _) _ _))))
          (first
            | ((with_reducible refine (HTP.out _ (And.left (by assumption))).mono ?_); rintro e w6 ⟨rfl, b6⟩; have hk6 : Below w4.heap.size w5 w6 := Below.trans (And.left (by assumption)) (Below.mono b6 (Below.size (And.left (by assumption)) |> Nat.le_trans (Nat.le_trans (Nat.le_succ _) z5))); have X6 := Lib.hid (blk_below XB.out (show Below w5.heap.size w5 w6 from ⟨b6.os, b6.tape, b6.output, b6.size, b6.block⟩) (Nat.lt_of_lt_of_le (Nat.lt_succ_self _) z5)); have x0 := blk_cell X6.out 0; have f0 := blk_frozen X6.out 0; have x1 := blk_cell X6.out 1; have f1 := blk_frozen X6.out 1; have x2 := blk_cell X6.out 2; have f2 := blk_frozen X6.out 2; have x3 := blk_cell X6.out 3; have f3 := blk_frozen X6.out 3; have x4 := blk_cell X6.out 4; have f4 := blk_frozen X6.out 4; have x5 := blk_cell X6.out 5; have f5 := blk_frozen X6.out 5; have x6 := blk_cell X6.out 6; have f6 := blk_frozen X6.out 6; have x7 := blk_cell X6.out 7; have f7 := blk_frozen X6.out 7; have x8 := blk_cell X6.out 8; have f8 := blk_frozen X6.out 8; have x9 := blk_cell X6.out 9; have f9 := blk_frozen X6.out 9; have x10 := blk_cell X6.out 10; have f10 := blk_frozen X6.out 10; have x11 := blk_cell X6.out 11; have f11 := blk_frozen X6.out 11; have x12 := blk_cell X6.out 12; have f12 := blk_frozen X6.out 12; have x13 := blk_cell X6.out 13; have f13 := blk_frozen X6.out 13))
        have X14 := Lib.hid (show ((((((((((((((w6.setCell ⟨w4.heap.size, 0, none⟩ (.int .i64 x.id)).setCell ⟨w4.heap.size, 1, none⟩ (.int .i64 x.size)).setCell ⟨w4.heap.size, 2, none⟩ (.bool x.keep)).setCell ⟨w4.heap.size, 3, none⟩ (.int .u32 x.r0)).setCell ⟨w4.heap.size, 4, none⟩ (.int .u32 x.r1)).setCell ⟨w4.heap.size, 5, none⟩ (.int .u32 x.r2)).setCell ⟨w4.heap.size, 6, none⟩ (.int .u32 x.r3)).setCell ⟨w4.heap.size, 7, none⟩ (.int .u32 x.r4)).setCell ⟨w4.heap.size, 8, none⟩ (.int .u32 x.r5)).setCell ⟨w4.heap.size, 9, none⟩ (.int .u32 x.r6)).setCell ⟨w4.heap.size, 10, none⟩ (.int .u32 x.r7)).setCell ⟨w4.heap.size, 11, none⟩ (.int .u32 x.pc)).setCell ⟨w4.heap.size, 12, none⟩ (.int .u8 x.st)).setCell ⟨w4.heap.size, 13, none⟩ (.slice A1 x.mem.length c1x)).heap[w4.heap.size]? = some (.cells #[.int .i64 x.id, .int .i64 x.size, .bool x.keep, .int .u32 x.r0, .int .u32 x.r1, .int .u32 x.r2, .int .u32 x.r3, .int .u32 x.r4, .int .u32 x.r5, .int .u32 x.r6, .int .u32 x.r7, .int .u32 x.pc, .int .u8 x.st, .slice A1 x.mem.length c1x] 44 (0, 0)) from (set14 X6.out).1)
        have K14 := Lib.hid (show KeptX 44 w6 ((((((((((((((w6.setCell ⟨w4.heap.size, 0, none⟩ (.int .i64 x.id)).setCell ⟨w4.heap.size, 1, none⟩ (.int .i64 x.size)).setCell ⟨w4.heap.size, 2, none⟩ (.bool x.keep)).setCell ⟨w4.heap.size, 3, none⟩ (.int .u32 x.r0)).setCell ⟨w4.heap.size, 4, none⟩ (.int .u32 x.r1)).setCell ⟨w4.heap.size, 5, none⟩ (.int .u32 x.r2)).setCell ⟨w4.heap.size, 6, none⟩ (.int .u32 x.r3)).setCell ⟨w4.heap.size, 7, none⟩ (.int .u32 x.r4)).setCell ⟨w4.heap.size, 8, none⟩ (.int .u32 x.r5)).setCell ⟨w4.heap.size, 9, none⟩ (.int .u32 x.r6)).setCell ⟨w4.heap.size, 10, none⟩ (.int .u32 x.r7)).setCell ⟨w4.heap.size, 11, none⟩ (.int .u32 x.pc)).setCell ⟨w4.heap.size, 12, none⟩ (.int .u8 x.st)).setCell ⟨w4.heap.size, 13, none⟩ (.slice A1 x.mem.length c1x)) from (set14 X6.out).2.1)
        have B7 := Lib.hid (show Below wr.heap.size wr ((((((((((((((w6.setCell ⟨w4.heap.size, 0, none⟩ (.int .i64 x.id)).setCell ⟨w4.heap.size, 1, none⟩ (.int .i64 x.size)).setCell ⟨w4.heap.size, 2, none⟩ (.bool x.keep)).setCell ⟨w4.heap.size, 3, none⟩ (.int .u32 x.r0)).setCell ⟨w4.heap.size, 4, none⟩ (.int .u32 x.r1)).setCell ⟨w4.heap.size, 5, none⟩ (.int .u32 x.r2)).setCell ⟨w4.heap.size, 6, none⟩ (.int .u32 x.r3)).setCell ⟨w4.heap.size, 7, none⟩ (.int .u32 x.r4)).setCell ⟨w4.heap.size, 8, none⟩ (.int .u32 x.r5)).setCell ⟨w4.heap.size, 9, none⟩ (.int .u32 x.r6)).setCell ⟨w4.heap.size, 10, none⟩ (.int .u32 x.r7)).setCell ⟨w4.heap.size, 11, none⟩ (.int .u32 x.pc)).setCell ⟨w4.heap.size, 12, none⟩ (.int .u8 x.st)).setCell ⟨w4.heap.size, 13, none⟩ (.slice A1 x.mem.length c1x)) from (set14 X6.out).2.2 _ _ (B5.out.trans (Below.mono (show Below w5.heap.size w5 w6 from ⟨b6.os, b6.tape, b6.output, b6.size, b6.block⟩) B5.out.size)) (by omega))
        have OU6 := Lib.hid (blk_below (blk_below HO.out B5.out (blk_lt HO.out)) (show Below w5.heap.size w5 w6 from ⟨b6.os, b6.tape, b6.output, b6.size, b6.block⟩) (blk_lt (blk_below HO.out B5.out (blk_lt HO.out))))
        have OU7 := Lib.hid (K14.out.2 _ _ _ (by decide) OU6.out)
        clear K14 OU6 X6 HSALL HTP x0 f0 x1 f1 x2 f2 x3 f3 x4 f4 x5 f5 x6 f6 x7 f7 x8 f8 x9 f9 x10 f10 x11 f11 x12 f12 x13 f13
        generalize ((((((((((((((w6.setCell ⟨w4.heap.size, 0, none⟩ (.int .i64 x.id)).setCell ⟨w4.heap.size, 1, none⟩ (.int .i64 x.size)).setCell ⟨w4.heap.size, 2, none⟩ (.bool x.keep)).setCell ⟨w4.heap.size, 3, none⟩ (.int .u32 x.r0)).setCell ⟨w4.heap.size, 4, none⟩ (.int .u32 x.r1)).setCell ⟨w4.heap.size, 5, none⟩ (.int .u32 x.r2)).setCell ⟨w4.heap.size, 6, none⟩ (.int .u32 x.r3)).setCell ⟨w4.heap.size, 7, none⟩ (.int .u32 x.r4)).setCell ⟨w4.heap.size, 8, none⟩ (.int .u32 x.r5)).setCell ⟨w4.heap.size, 9, none⟩ (.int .u32 x.r6)).setCell ⟨w4.heap.size, 10, none⟩ (.int .u32 x.r7)).setCell ⟨w4.heap.size, 11, none⟩ (.int .u32 x.pc)).setCell ⟨w4.heap.size, 12, none⟩ (.int .u8 x.st)).setCell ⟨w4.heap.size, 13, none⟩ (.slice A1 x.mem.length c1x)) = w7 at X14 B7 OU7 ⊢
        have T := Lib.hid (ref_copy x.mem A1 x.mem.length c1x rfl HMX.out w7 (HIN.out.below (HBR.out.trans (B7.out.mono HBR.out.size))))
        have x13 := blk_cell X14.out 13
        go_wp2_with fail
        refine T.out.mono ?_
        rintro e w8 ⟨b8, A8, c8, rfl, hmsg⟩
        have X8 := Lib.hid (blk_below X14.out b8 (blk_lt X14.out)); have OU8 := Lib.hid (blk_below OU7.out b8 (blk_lt OU7.out))
        clear T x13 X14 OU7
        have x13 := blk_cell X8.out 13; have f13 := blk_frozen X8.out 13
        go_upto_region 10 with fail
        have KX4 := Lib.hid (show KeptX 44 w8 (w8.setCell ⟨w4.heap.size, 13, none⟩ (.slice A8 x.mem.length c8)) from KeptX.set X8.out 13 _)
        have XC := Lib.hid (show (w8.setCell ⟨w4.heap.size, 13, none⟩ (.slice A8 x.mem.length c8)).heap[w4.heap.size]? = some (.cells #[.int .i64 x.id, .int .i64 x.size, .bool x.keep, .int .u32 x.r0, .int .u32 x.r1, .int .u32 x.r2, .int .u32 x.r3, .int .u32 x.r4, .int .u32 x.r5, .int .u32 x.r6, .int .u32 x.r7, .int .u32 x.pc, .int .u8 x.st, .slice A8 x.mem.length c8] 44 (0, 0)) from blk_set X8.out 13 _)
        have OUTW := Lib.hid (KX4.out.2 _ _ _ (by decide) OU8.out)
        have BW := Lib.hid ((B7.out.trans (b8.mono B7.out.size)).setCell (p := ⟨w4.heap.size, 13, none⟩) (show wr.heap.size ≤ w4.heap.size by omega) (.slice A8 x.mem.length c8))
        have HMSG := Lib.hid (show ownB (w.heap.size + 4) (w8.setCell ⟨w4.heap.size, 13, none⟩ (.slice A8 x.mem.length c8)).heap.size (w8.setCell ⟨w4.heap.size, 13, none⟩ (.slice A8 x.mem.length c8)) A8 c8 x from msg_keptX (hmsg.mono (Nat.le_trans hzw B7.out.size) (Nat.le_refl _)) (by decide) KX4.out)
        clear KX4 OU8 b8 hmsg x13 f13 X8 B7
        generalize (w8.setCell ⟨w4.heap.size, 13, none⟩ (.slice A8 x.mem.length c8)) = w11 at XC OUTW BW HMSG ⊢
        have o1 := blk_cell OUTW.out 1
        have x0 := blk_cell XC.out 0
        have x1 := blk_cell XC.out 1
        have x2 := blk_cell XC.out 2
        have x3 := blk_cell XC.out 3
        have x4 := blk_cell XC.out 4
        have x5 := blk_cell XC.out 5
        have x6 := blk_cell XC.out 6
        have x7 := blk_cell XC.out 7
        have x8 := blk_cell XC.out 8
        have x9 := blk_cell XC.out 9
        have x10 := blk_cell XC.out 10
        have x11 := blk_cell XC.out 11
        have x12 := blk_cell XC.out 12
        have x13 := blk_cell XC.out 13
        have hgw := HG.out.below BW.out
        obtain ⟨us, hus, hown, hms⟩ := hgw
        rw [HQL.out] at hown
        have HUS := Lib.hid hus; have HOWN := Lib.hid hown; have HMS := Lib.hid hms
        have hsz := Nat.le_trans hz BW.out.size
        have hwz := Nat.le_trans hzw BW.out.size
        have HUL := Lib.hid (show us.length = k by rw [← HQL.out, ← hus, List.length_map])
        clear hus hown hms
        go_wp2_with (at_builtin; refine wpList_append_rd _ rfl (.tmp 46) (.tmp 48) 22 rfl (w.heap.size + 4) 44 i0 (.agg #[.int .i64 0, .int .i64 0, .bool false, .int .u32 0, .int .u32 0, .int .u32 0, .int .u32 0, .int .u32 0, .int .u32 0, .int .u32 0, .int .u32 0, .int .u32 0, .int .u8 0, .slice none 0 0]) 14 88 Try.underlying22 hi hz0 hz1 hz2 rfl (by decide) _ k (flat Pt.cells us) rfl (HOWN.out.alloc _) _ 1 _ #[.int .i64 x.id, .int .i64 x.size, .bool x.keep, .int .u32 x.r0, .int .u32 x.r1, .int .u32 x.r2, .int .u32 x.r3, .int .u32 x.r4, .int .u32 x.r5, .int .u32 x.r6, .int .u32 x.r7, .int .u32 x.pc, .int .u8 x.st, .slice A8 x.mem.length c8].toList rfl rfl (Rd.new _ _ _) ?d2 ?d3 ?d4 ?d5 ?_)
        case d2 => simp [Value.oneCell']
        case d3 => unfold maxLen; omega
        case d4 => omega
        case d5 => first | omega | (simp; omega)
        intro v5 w9 hown5 hg5
        have BA9 := Lib.hid (ext1 w11 (.cells #[.int .i64 x.id, .int .i64 x.size, .bool x.keep, .int .u32 x.r0, .int .u32 x.r1, .int .u32 x.r2, .int .u32 x.r3, .int .u32 x.r4, .int .u32 x.r5, .int .u32 x.r6, .int .u32 x.r7, .int .u32 x.pc, .int .u8 x.st, .slice A8 x.mem.length c8] 44))
        have KX := Lib.hid (KeptX.grown (HOWN.out.alloc (.cells #[.int .i64 x.id, .int .i64 x.size, .bool x.keep, .int .u32 x.r0, .int .u32 x.r1, .int .u32 x.r2, .int .u32 x.r3, .int .u32 x.r4, .int .u32 x.r5, .int .u32 x.r6, .int .u32 x.r7, .int .u32 x.pc, .int .u8 x.st, .slice A8 x.mem.length c8] 44)) hg5)
        have O5 := Lib.hid (KX.out.2 _ _ _ (by decide) (blk_alloc OUTW.out (.cells #[.int .i64 x.id, .int .i64 x.size, .bool x.keep, .int .u32 x.r0, .int .u32 x.r1, .int .u32 x.r2, .int .u32 x.r3, .int .u32 x.r4, .int .u32 x.r5, .int .u32 x.r6, .int .u32 x.r7, .int .u32 x.pc, .int .u8 x.st, .slice A8 x.mem.length c8] 44)))
        have hb5 := below_own (B := w.heap.size + 3) ((BR.out.trans (BW.out.mono (by omega))).alloc (by omega) (.cells #[.int .i64 x.id, .int .i64 x.size, .bool x.keep, .int .u32 x.r0, .int .u32 x.r1, .int .u32 x.r2, .int .u32 x.r3, .int .u32 x.r4, .int .u32 x.r5, .int .u32 x.r6, .int .u32 x.r7, .int .u32 x.pc, .int .u8 x.st, .slice A8 x.mem.length c8] 44)) (own_lo (HOWN.out.alloc _) (Nat.le_succ _)) hg5 (by first | omega | (simp; omega))
        have HG5 := Lib.hid (show GrowP (w.heap.size + 4) w9 v5 ((moveP ps pn).take (k + 1)) from by
          have h := GrowX.snoc (cs := Pt.cells) (own := ownB) (us := us) (u := (x, A8, c8)) (by rw [HUL.out]; exact HOWN.out.alloc (.cells #[.int .i64 x.id, .int .i64 x.size, .bool x.keep, .int .u32 x.r0, .int .u32 x.r1, .int .u32 x.r2, .int .u32 x.r3, .int .u32 x.r4, .int .u32 x.r5, .int .u32 x.r6, .int .u32 x.r7, .int .u32 x.pc, .int .u8 x.st, .slice A8 x.mem.length c8] 44)) (ownB_below _ _ _ _ _ _ HMSG.out BA9.out) (fun y hy => ownB_below _ _ _ _ _ _ (HMS.out y hy) BA9.out) (fun A c y hy => ownB_keptX (by decide) hy KX.out) (by rw [HUL.out]; exact hown5)
          rw [HUS.out] at h
          rw [HTK.out]
          exact h)
        have HB5 := Lib.hid hb5
        obtain ⟨A5, c5, hv5, _, _, _, _⟩ := own_form3s hown5
        subst hv5
        have o5 := blk_cell O5.out 1; have of5 := blk_frozen O5.out 1
        clear hown5 hg5 hb5 o1 x0 x1 x2 x3 x4 x5 x6 x7 x8 x9 x10 x11 x12 x13
        go_wp2_with fail
        go_roundw
        case rel => exact ⟨k + 1, by omega, by go_num, _, blk_set O5.out 1 _, HG5.out.keptX (by decide) (by decide) (KeptX.set O5.out 1 _), HB5.out.setCell (p := ⟨w.heap.size + 3, 1, none⟩) (Nat.le_refl _) _⟩
        case measure => simp [intOf] <;> omega
    · have hkn : nn = k := by omega
      subst hkn
      have HGP := Lib.hid (show GrowP (w.heap.size + 4) wr (.slice Av nn cv) (moveP ps pn) by have h := HG.out; rwa [List.take_of_length_le (by rw [LP.out]; exact Nat.le_refl _)] at h)
      have HOP := HO; have BP := BR
      clear HG HO BR HBR hz hzw HQL hkl SR KR
      go_wp2_with fail
      clear c1
      obtain ⟨wp, hwp⟩ : ∃ x : World, x = wr := ⟨_, rfl⟩
      subst hwp
      go_loopw [9] (fun iv wr => ∃ k : Nat, k ≤ nc ∧ iv = .int .i64 k ∧ ∃ v, wr.heap[w.heap.size + 3]? = some (.cells #[.int .i64 fr, .slice Av nn cv, v] 25 (0, 0)) ∧ GrowP (w.heap.size + 4) wr (.slice Av nn cv) (moveP ps pn) ∧ GrowR (w.heap.size + 4) wr v ((moveQ ps pn qs cs).take k) ∧ Below (w.heap.size + 3) wb wr) (fun iv _ => nc - (intOf iv).toNat)
      case atStart => exact ⟨0, Nat.zero_le _, rfl, _, HOP.out, HGP.out, by rw [List.take_zero]; exact GrowX.nil _ _, BP.out⟩
      case round =>
        clear HGP HOP BP
        obtain ⟨k, hk, rfl, v, ho, hgp, hg, hb⟩ := hrel
        have HO := Lib.hid ho; have BR := Lib.hid hb; have hz := hb.size
        have hzw : w.heap.size + 4 ≤ wr.heap.size := by rw [← HS.out]; exact hz
        have HBR := Lib.hid (HB.out.trans (BR.out.mono (Nat.le_add_right _ 3)))
        have SR := Lib.hid (blk_below G0.out BR.out (by omega)); have KR := Lib.hid (blk_below G1.out BR.out (by omega))
        have HGP := Lib.hid hgp
        have HQL := Lib.hid (show ((moveQ ps pn qs cs).take k).length = k by rw [List.length_take, LQ.out]; omega)
        obtain ⟨Bv, dv, rfl, _, _, _⟩ := hg.form
        have HG := Lib.hid hg
        clear ho hb hg hgp
        rw [HQL.out] at HG HO
        have c2 := blk_cell KR.out 2
        by_cases hkl : k < nc
        · have hki : (k : Int) < (nc : Int) := by omega
          obtain ⟨ch, hch⟩ : ∃ ch, cs[k]? = some ch := ⟨_, List.getElem?_eq_getElem (by rw [HNC.out]; exact hkl)⟩
          obtain ⟨bc, oc, rfl, _⟩ := H4.out.addr (by rw [chCells_length, HNC.out]; omega)
          obtain ⟨y0, y1, y2, y3, y4⟩ := chCells_at cs k ch hch
          skip
          replace y0 := (H4.out.below HBR.out).cell y0
          replace y1 := (H4.out.below HBR.out).cell y1
          replace y2 := (H4.out.below HBR.out).cell y2
          replace y3 := (H4.out.below HBR.out).cell y3
          replace y4 := (H4.out.below HBR.out).cell y4
          rw [← Nat.add_assoc] at y1 y2 y3 y4
          have HPK := Lib.hid (moveQ_at (ps := ps) (pn := pn) (qs := qs) hch)
          clear hch
          obtain ⟨wo, hwo⟩ : ∃ x : World, x = wr := ⟨_, rfl⟩
          subst hwo
          have QA := Lib.hid (blk_new wo #[.int .i64 ch.id, .int .i64 ch.fr, .int .i64 ch.to, .int .i64 ch.cap, .int .i64 ch.sz, .slice none 0 0] 53)
          have SA := Lib.hid (blk_alloc SR.out (.cells #[.int .i64 ch.id, .int .i64 ch.fr, .int .i64 ch.to, .int .i64 ch.cap, .int .i64 ch.sz, .slice none 0 0] 53)); have KA := Lib.hid (blk_alloc KR.out (.cells #[.int .i64 ch.id, .int .i64 ch.fr, .int .i64 ch.to, .int .i64 ch.cap, .int .i64 ch.sz, .slice none 0 0] 53)); have OA := Lib.hid (blk_alloc HO.out (.cells #[.int .i64 ch.id, .int .i64 ch.fr, .int .i64 ch.to, .int .i64 ch.cap, .int .i64 ch.sz, .slice none 0 0] 53))
          have hza : wo.heap.size + 1 = (wo.alloc (.cells #[.int .i64 ch.id, .int .i64 ch.fr, .int .i64 ch.to, .int .i64 ch.cap, .int .i64 ch.sz, .slice none 0 0] 53)).heap.size := by simp
          have HZA := Lib.hid hza
          clear hza
          have u0x := ((ext1 wo (.cells #[.int .i64 ch.id, .int .i64 ch.fr, .int .i64 ch.to, .int .i64 ch.cap, .int .i64 ch.sz, .slice none 0 0] 53)).cell (p := ⟨bc, _, none⟩) (World.block_lt_of_cell? wo _ y0)).trans y0
          have u1x := ((ext1 wo (.cells #[.int .i64 ch.id, .int .i64 ch.fr, .int .i64 ch.to, .int .i64 ch.cap, .int .i64 ch.sz, .slice none 0 0] 53)).cell (p := ⟨bc, _, none⟩) (World.block_lt_of_cell? wo _ y1)).trans y1
          have u2x := ((ext1 wo (.cells #[.int .i64 ch.id, .int .i64 ch.fr, .int .i64 ch.to, .int .i64 ch.cap, .int .i64 ch.sz, .slice none 0 0] 53)).cell (p := ⟨bc, _, none⟩) (World.block_lt_of_cell? wo _ y2)).trans y2
          have u3x := ((ext1 wo (.cells #[.int .i64 ch.id, .int .i64 ch.fr, .int .i64 ch.to, .int .i64 ch.cap, .int .i64 ch.sz, .slice none 0 0] 53)).cell (p := ⟨bc, _, none⟩) (World.block_lt_of_cell? wo _ y3)).trans y3
          have u4x := ((ext1 wo (.cells #[.int .i64 ch.id, .int .i64 ch.fr, .int .i64 ch.to, .int .i64 ch.cap, .int .i64 ch.sz, .slice none 0 0] 53)).cell (p := ⟨bc, _, none⟩) (World.block_lt_of_cell? wo _ y4)).trans y4
          have s0 := xc (blk_cell SA.out 0); have c0x := xc (blk_cell KA.out 0)
          have s1 := xc (blk_cell SA.out 1); have c1x := xc (blk_cell KA.out 1)
          have s2 := xc (blk_cell SA.out 2); have c2x := xc (blk_cell KA.out 2)
          have z0 := xc u0x
          have z1 := xc u1x
          have z2 := xc u2x
          have z3 := xc u3x
          have z4 := xc u4x
          clear u0x u1x u2x u3x u4x
          have TK := fun v : Ext (wo.alloc (.cells #[.int .i64 ch.id, .int .i64 ch.fr, .int .i64 ch.to, .int .i64 ch.cap, .int .i64 ch.sz, .slice none 0 0] 53)).heap.size (wo.alloc (.cells #[.int .i64 ch.id, .int .i64 ch.fr, .int .i64 ch.to, .int .i64 ch.cap, .int .i64 ch.sz, .slice none 0 0] 53)) => rqueue fr ps pn qs ch Ap Aq Aw An (some ⟨bc, oc, none⟩) np cp nq cq nw cw nn cn nc cc HNP.out HNN.out HNQ.out h63 h632 h633 v.world (Pts.below (Pts.below H1.out HBR.out) ((ext1 wo (.cells #[.int .i64 ch.id, .int .i64 ch.fr, .int .i64 ch.to, .int .i64 ch.cap, .int .i64 ch.sz, .slice none 0 0] 53)).trans (v.below.mono (ext1 wo (.cells #[.int .i64 ch.id, .int .i64 ch.fr, .int .i64 ch.to, .int .i64 ch.cap, .int .i64 ch.sz, .slice none 0 0] 53)).size))) (Pns.below (Pns.below H2.out HBR.out) ((ext1 wo (.cells #[.int .i64 ch.id, .int .i64 ch.fr, .int .i64 ch.to, .int .i64 ch.cap, .int .i64 ch.sz, .slice none 0 0] 53)).trans (v.below.mono (ext1 wo (.cells #[.int .i64 ch.id, .int .i64 ch.fr, .int .i64 ch.to, .int .i64 ch.cap, .int .i64 ch.sz, .slice none 0 0] 53)).size))) (Qus.below (Qus.below H3.out HBR.out) ((ext1 wo (.cells #[.int .i64 ch.id, .int .i64 ch.fr, .int .i64 ch.to, .int .i64 ch.cap, .int .i64 ch.sz, .slice none 0 0] 53)).trans (v.below.mono (ext1 wo (.cells #[.int .i64 ch.id, .int .i64 ch.fr, .int .i64 ch.to, .int .i64 ch.cap, .int .i64 ch.sz, .slice none 0 0] 53)).size)))
          rcases queueI_cases ps pn qs ch with ⟨hqp, hqi⟩ | ⟨l, jq, q, hqp, hqi, hq0, hqc, hql⟩
          · simp only [hqi] at TK
            have HTK := Lib.hid (show (moveQ ps pn qs cs).take (k + 1) = (moveQ ps pn qs cs).take k ++ [⟨ch, []⟩] by rw [List.take_add_one, HPK.out, hqp]; rfl)
            clear hqp hqi
            go_wp2_with fail
            refine region_ext (by kernel_rfl) (by kernel_rfl) ?_
            try simp only [List.append_eq, List.cons_append, List.nil_append]
            repeat (go_big_quiet_step (with_reducible exact calls_ext (Nat.le_refl _) (TK _)))
            refine wpQuiet_nil ?_
            intro v
            clear TK c2 s0 c0x s1 c1x s2 c2x z0 y0 z1 y1 z2 y2 z3 y3 z4 y4
            have BV := Lib.hid v.below
            have EA := Lib.hid (ext1 wo (.cells #[.int .i64 ch.id, .int .i64 ch.fr, .int .i64 ch.to, .int .i64 ch.cap, .int .i64 ch.sz, .slice none 0 0] 53))
            generalize v.world = wv at *
            generalize (wo.alloc (.cells #[.int .i64 ch.id, .int .i64 ch.fr, .int .i64 ch.to, .int .i64 ch.cap, .int .i64 ch.sz, .slice none 0 0] 53)) = wa at *
            have BWV := Lib.hid (EA.out.trans (BV.out.mono EA.out.size))
            have QB := Lib.hid (blk_below QA.out BV.out (blk_lt QA.out))
            have zv : wo.heap.size + 1 ≤ wv.heap.size := by rw [HZA.out]; exact BV.out.size
            go_wp2_with fail
            go_loopw [12] (fun jv wr => jv = .int .i64 0 ∧ wr = wv) (fun _ _ => 0)
            case atStart => exact ⟨rfl, rfl⟩
            case round =>
              obtain ⟨rfl, hwr⟩ := hrel
              have hw0 : wr = wv := hwr
              clear hwr
              obtain rfl := hw0
              have BW := BWV
              have OUTW := Lib.hid (blk_below HO.out BWV.out (blk_lt HO.out))
              have HMSG := Lib.hid (show ownG (w.heap.size + 4) wr.heap.size wr none 0 ⟨ch, []⟩ from Grow.nil _ _)
              have o2 := blk_cell OUTW.out 2
              have y0q := blk_cell QB.out 0
              have y1q := blk_cell QB.out 1
              have y2q := blk_cell QB.out 2
              have y3q := blk_cell QB.out 3
              have y4q := blk_cell QB.out 4
              have y5q := blk_cell QB.out 5
              go_upto_region 20 with fail
              have hgw := HG.out.below BW.out
              obtain ⟨us, hus, hown, hms⟩ := hgw
              rw [HQL.out] at hown
              have HUS := Lib.hid hus; have HOWN := Lib.hid hown; have HMS := Lib.hid hms
              have hsz := Nat.le_trans hz BW.out.size
              have hwz := Nat.le_trans hzw BW.out.size
              have HUL := Lib.hid (show us.length = k by rw [← HQL.out, ← hus, List.length_map])
              clear hus hown hms
              go_wp2_with (at_builtin; refine wpList_append_rd _ rfl (.tmp 103) (.tmp 105) 23 rfl (w.heap.size + 4) 53 j0 (.agg #[.int .i64 0, .int .i64 0, .int .i64 0, .int .i64 0, .int .i64 0, .slice none 0 0]) 6 64 Try.underlying23 ji jz0 jz1 jz2 rfl (by decide) _ k (flat Qu.cells us) rfl (HOWN.out.alloc _) _ 1 _ #[.int .i64 ch.id, .int .i64 ch.fr, .int .i64 ch.to, .int .i64 ch.cap, .int .i64 ch.sz, .slice none 0 0].toList rfl rfl (Rd.new _ _ _) ?d2 ?d3 ?d4 ?d5 ?_)
              case d2 => simp [Value.oneCell']
              case d3 => unfold maxLen; omega
              case d4 => omega
              case d5 => first | omega | (simp; omega)
              intro v5 w9 hown5 hg5
              have BA9 := Lib.hid (ext1 wr (.cells #[.int .i64 ch.id, .int .i64 ch.fr, .int .i64 ch.to, .int .i64 ch.cap, .int .i64 ch.sz, .slice none 0 0] 53))
              have KX := Lib.hid (KeptX.grown (HOWN.out.alloc (.cells #[.int .i64 ch.id, .int .i64 ch.fr, .int .i64 ch.to, .int .i64 ch.cap, .int .i64 ch.sz, .slice none 0 0] 53)) hg5)
              have O5 := Lib.hid (KX.out.2 _ _ _ (by decide) (blk_alloc OUTW.out (.cells #[.int .i64 ch.id, .int .i64 ch.fr, .int .i64 ch.to, .int .i64 ch.cap, .int .i64 ch.sz, .slice none 0 0] 53)))
              have hb5 := below_own (B := w.heap.size + 3) ((BR.out.trans (BW.out.mono (by omega))).alloc (by omega) (.cells #[.int .i64 ch.id, .int .i64 ch.fr, .int .i64 ch.to, .int .i64 ch.cap, .int .i64 ch.sz, .slice none 0 0] 53)) (own_lo (HOWN.out.alloc _) (Nat.le_succ _)) hg5 (by first | omega | (simp; omega))
              have HG5 := Lib.hid (show GrowR (w.heap.size + 4) w9 v5 ((moveQ ps pn qs cs).take (k + 1)) from by
                have h := GrowX.snoc (cs := Qu.cells) (own := ownG) (us := us) (u := (⟨ch, []⟩, none, 0)) (by rw [HUL.out]; exact HOWN.out.alloc (.cells #[.int .i64 ch.id, .int .i64 ch.fr, .int .i64 ch.to, .int .i64 ch.cap, .int .i64 ch.sz, .slice none 0 0] 53)) (ownG_below _ _ _ _ _ _ HMSG.out BA9.out) (fun y hy => ownG_below _ _ _ _ _ _ (HMS.out y hy) BA9.out) (fun A c y hy => ownG_keptX (by decide) (by decide) hy KX.out) (by rw [HUL.out]; exact hown5)
                rw [HUS.out] at h
                rw [HTK.out]
                exact h)
              have HB5 := Lib.hid hb5
              obtain ⟨A5, c5, hv5, _, _, _, _⟩ := own_form3s hown5
              subst hv5
              have HP5 := Lib.hid (((HGP.out.below BW.out).below BA9.out).keptX (by decide) (by decide) KX.out)
              have o5 := blk_cell O5.out 2; have of5 := blk_frozen O5.out 2
              clear hown5 hg5 hb5 o2 y0q y1q y2q y3q y4q y5q
              go_wp2_with fail
              go_roundw
              case rel => exact ⟨k + 1, by omega, by go_num, _, blk_set O5.out 2 _, HP5.out.keptX (by decide) (by decide) (KeptX.set O5.out 2 _), HG5.out.keptX (by decide) (by decide) (by decide) (KeptX.set O5.out 2 _), HB5.out.setCell (p := ⟨w.heap.size + 3, 2, none⟩) (Nat.le_refl _) _⟩
              case measure => simp [intOf] <;> omega
          · simp only [hqi] at TK
            obtain rfl := hql
            skip
            have HTK := Lib.hid (show (moveQ ps pn qs cs).take (k + 1) = (moveQ ps pn qs cs).take k ++ [⟨ch, q.msgs⟩] by rw [List.take_add_one, HPK.out, hqp]; rfl)
            have hjq : jq < nq := by have := (List.getElem?_eq_some_iff.1 hq0).1; rw [HNQ.out] at this; exact this
            have hjq1 : (jq : Int) < (nq : Int) := by omega
            have hjq0 : (0 : Int) ≤ (jq : Int) := by omega
            obtain ⟨bs, os, rfl, _⟩ := Rws.addr qu_len (by decide) H3.out (by rw [HNQ.out]; omega)
            obtain ⟨A1, c1, hin, hc⟩ := Rws.at qu_len H3.out hq0
            have HQM := Lib.hid (QM.out q (List.mem_of_getElem? hq0))
            obtain ⟨nm, hnm⟩ : ∃ nm, q.msgs.length = nm := ⟨_, rfl⟩
            have HNM := Lib.hid hnm
            have hnmi : (nm : Int) ≤ 1000000 := by have := HQM.out.1; rw [hnm] at this; omega
            have HC := Lib.hid hc; have HIN := Lib.hid hin.2.2
            clear hc hin hnm hqp hqi hq0 hqc
            go_wp2_with fail
            refine region_ext (by kernel_rfl) (by kernel_rfl) ?_
            try simp only [List.append_eq, List.cons_append, List.nil_append]
            repeat (go_big_quiet_step (with_reducible exact calls_ext (Nat.le_refl _) (TK _)))
            refine wpQuiet_nil ?_
            intro v
            clear TK c2 s0 c0x s1 c1x s2 c2x z0 y0 z1 y1 z2 y2 z3 y3 z4 y4
            have BV := Lib.hid v.below
            have EA := Lib.hid (ext1 wo (.cells #[.int .i64 ch.id, .int .i64 ch.fr, .int .i64 ch.to, .int .i64 ch.cap, .int .i64 ch.sz, .slice none 0 0] 53))
            generalize v.world = wv at *
            generalize (wo.alloc (.cells #[.int .i64 ch.id, .int .i64 ch.fr, .int .i64 ch.to, .int .i64 ch.cap, .int .i64 ch.sz, .slice none 0 0] 53)) = wa at *
            have BWV := Lib.hid (EA.out.trans (BV.out.mono EA.out.size))
            have QB := Lib.hid (blk_below QA.out BV.out (blk_lt QA.out))
            have zv : wo.heap.size + 1 ≤ wv.heap.size := by rw [HZA.out]; exact BV.out.size
            go_wp2_with fail
            go_loopw [12] (fun jv wr => ∃ j : Nat, j ≤ nm ∧ jv = .int .i64 j ∧ ∃ u, wr.heap[wo.heap.size]? = some (.cells #[.int .i64 ch.id, .int .i64 ch.fr, .int .i64 ch.to, .int .i64 ch.cap, .int .i64 ch.sz, u] 53 (0, 0)) ∧ Grow (wo.heap.size + 1) wr u (q.msgs.take j) ∧ Below wo.heap.size wo wr ∧ wo.heap.size + 1 ≤ wr.heap.size) (fun jv _ => nm - (intOf jv).toNat)
            case atStart => exact ⟨0, Nat.zero_le _, rfl, _, QB.out, by rw [List.take_zero]; exact Grow.nil _ _, BWV.out, zv⟩
            case round =>
              obtain ⟨j, hj, rfl, u, hqb, hgu, hbi, hzi⟩ := hrel
              have HJL := Lib.hid (show (q.msgs.take j).length = j by rw [List.length_take, HNM.out]; omega)
              obtain ⟨Au, cu, rfl, hcu, hAu, _, _⟩ := hgu.form
              have HQB := Lib.hid hqb; have HGU := Lib.hid hgu; have BI := Lib.hid hbi
              have HAU := Lib.hid hAu
              clear hqb hgu hbi hAu
              rw [HJL.out] at HQB HGU hcu
              have BWI := Lib.hid (HBR.out.trans (BI.out.mono HBR.out.size))
              have SI := Lib.hid (blk_below SR.out BI.out (blk_lt SR.out))
              have s2 := blk_cell SI.out 2
              have y5 := (BWI.out.cell (p := ⟨_, _, none⟩) (World.block_lt_of_cell? w _ (HC.out 5 _ rfl))).trans (HC.out 5 _ rfl)
              rw [HNM.out] at y5
              by_cases hjl : j < nm
              · have hji : (j : Int) < (nm : Int) := by omega
                obtain ⟨mg, hmg⟩ : ∃ mg, q.msgs[j]? = some mg := ⟨_, List.getElem?_eq_getElem (by rw [HNM.out]; exact hjl)⟩
                obtain ⟨b1, o1, rfl⟩ := HIN.out.addr (by rw [HNM.out]; omega)
                obtain ⟨Ax, cx, cxc, _, _, hrx⟩ := (HIN.out.below BWI.out).at hmg
                have HTJ := Lib.hid (show q.msgs.take (j + 1) = q.msgs.take j ++ [mg] by rw [List.take_add_one, hmg]; rfl)
                have HML := Lib.hid (HQM.out.2 mg (List.mem_of_getElem? hmg))
                have HTC := Lib.hid (fun W (hW : Below wr.heap.size wr W) => ref_copy mg Ax mg.length cx rfl HML.out W (hrx.below hW))
                clear hmg hrx
                obtain ⟨vs, hown, hvl, hms⟩ := HGU.out.own
                rw [HJL.out] at hown hvl
                have HOWN := Lib.hid hown; have HVL := Lib.hid hvl; have HMS := Lib.hid hms
                clear hown hvl hms
                have q5 := blk_cell HQB.out 5
                have LTQ := Lib.hid (blk_lt HQB.out)
                go_wp2_with fail
                go_region_law (first
                  | (refine step_append_rd rfl (.tmp 88) (.tmp 99) 51 rfl (wo.heap.size + 1) 38 l0 (.slice none 0 0) 1 24 Try.underlying51 li lz0 lz1 lz2 rfl (by decide) _ j vs rfl (HOW5.out.alloc _) _ 1 _ [.slice A9 mg.length c9] rfl rfl (Rd.new _ _ _) (by intro u hu; simp at hu; subst hu; rfl) (by unfold maxLen; omega) (by omega) (by simp; omega) ?_; intro v6 w6 hown6 hg6; obtain ⟨A6, c6, rfl, hc6, hA6, hf6, hr6⟩ := own_form3 hown6; have KX6 := Lib.hid (KeptX.grown (HOW5.out.alloc (.cells #[.slice A9 mg.length c9] 38)) hg6); have O6 := Lib.hid (KX6.out.2 _ _ _ (by decide) (blk_alloc QB5.out (.cells #[.slice A9 mg.length c9] 38))); have hb6 := below_own ((B5.out.mono (show wo.heap.size + 1 ≤ wr.heap.size from hzi)).alloc (by omega) (.cells #[.slice A9 mg.length c9] 38)) (HOW5.out.alloc _) hg6 (by simp; omega); have q5d := blk_cell O6.out 5; have f5d := blk_frozen O6.out 5)
                  | (go_simp; go_at_call 28; refine (HTC.out _ (Below.refl _ _).drew).mono ?_; rintro e w5 ⟨b5, A9, c9, rfl, hm5⟩; have B5 := Lib.hid (show Below wr.heap.size wr w5 from ⟨b5.os, b5.tape, b5.output, b5.size, b5.block⟩); have z5 := B5.out.size; have QB5 := Lib.hid (blk_below HQB.out B5.out LTQ.out); have HOW5 := Lib.hid (own_below HOWN.out B5.out); have q5b := blk_cell QB5.out 5; have q5c : ∀ o, (w5.alloc o).cell? ⟨wo.heap.size, 5, none⟩ = some (.slice Au j cu) := fun o => blk_cell (blk_alloc QB5.out o) 5))
                all_goals (go_wp2_with fail; go_roundw)
                all_goals first
                  | (simp [intOf]; omega)
                  | exact ⟨j + 1, by omega, by go_num, .slice A6 (j + 1) c6, blk_set O6.out 5 _, by rw [HTJ.out]; exact Grow.keptX (by decide) (by decide) (Grow.snoc (vs := vs) (by rw [HJL.out]; exact HOW5.out.alloc (.cells #[.slice A9 mg.length c9] 38)) (by rw [HJL.out]; exact HVL.out) (fun i l hi => by obtain ⟨u, e1, e2⟩ := HMS.out i l hi; exact ⟨u, e1, msg_below (msg_below e2 B5.out) (ext1 w5 (.cells #[.slice A9 mg.length c9] 38))⟩) (msg_below (MsgAt.mono hm5 (show wo.heap.size + 1 ≤ wr.drew.heap.size from hzi) (Nat.le_refl _)) (ext1 w5 (.cells #[.slice A9 mg.length c9] 38))) (by rw [HJL.out]; exact hown6) hg6) (KeptX.set O6.out 5 _), (BI.out.trans (hb6.mono (Nat.le_succ _))).setCell (p := ⟨wo.heap.size, 5, none⟩) (Nat.le_refl _) _, by have := hb6.size; simp; omega⟩
              · have hjn : nm = j := by omega
                subst hjn
                have HGM := Lib.hid (show Grow (wo.heap.size + 1) wr (.slice Au nm cu) q.msgs by have h := HGU.out; rwa [List.take_of_length_le (by rw [HNM.out]; exact Nat.le_refl _)] at h)
                clear HGU
                have BW := BI
                have OUTW := Lib.hid (blk_below HO.out BI.out (blk_lt HO.out))
                have HMSG := Lib.hid (show ownG (w.heap.size + 4) wr.heap.size wr Au cu ⟨ch, q.msgs⟩ by unfold ownG; rw [HNM.out]; exact Grow.lo HGM.out (by omega))
                have o2 := blk_cell OUTW.out 2
                have y0q := blk_cell HQB.out 0
                have y1q := blk_cell HQB.out 1
                have y2q := blk_cell HQB.out 2
                have y3q := blk_cell HQB.out 3
                have y4q := blk_cell HQB.out 4
                have y5q := blk_cell HQB.out 5
                go_upto_region 20 with fail
                have hgw := HG.out.below BW.out
                obtain ⟨us, hus, hown, hms⟩ := hgw
                rw [HQL.out] at hown
                have HUS := Lib.hid hus; have HOWN := Lib.hid hown; have HMS := Lib.hid hms
                have hsz := Nat.le_trans hz BW.out.size
                have hwz := Nat.le_trans hzw BW.out.size
                have HUL := Lib.hid (show us.length = k by rw [← HQL.out, ← hus, List.length_map])
                clear hus hown hms
                go_wp2_with (at_builtin; refine wpList_append_rd _ rfl (.tmp 103) (.tmp 105) 23 rfl (w.heap.size + 4) 53 j0 (.agg #[.int .i64 0, .int .i64 0, .int .i64 0, .int .i64 0, .int .i64 0, .slice none 0 0]) 6 64 Try.underlying23 ji jz0 jz1 jz2 rfl (by decide) _ k (flat Qu.cells us) rfl (HOWN.out.alloc _) _ 1 _ #[.int .i64 ch.id, .int .i64 ch.fr, .int .i64 ch.to, .int .i64 ch.cap, .int .i64 ch.sz, .slice Au nm cu].toList rfl rfl (Rd.new _ _ _) ?d2 ?d3 ?d4 ?d5 ?_)
                case d2 => simp [Value.oneCell']
                case d3 => unfold maxLen; omega
                case d4 => omega
                case d5 => first | omega | (simp; omega)
                intro v5 w9 hown5 hg5
                have BA9 := Lib.hid (ext1 wr (.cells #[.int .i64 ch.id, .int .i64 ch.fr, .int .i64 ch.to, .int .i64 ch.cap, .int .i64 ch.sz, .slice Au nm cu] 53))
                have KX := Lib.hid (KeptX.grown (HOWN.out.alloc (.cells #[.int .i64 ch.id, .int .i64 ch.fr, .int .i64 ch.to, .int .i64 ch.cap, .int .i64 ch.sz, .slice Au nm cu] 53)) hg5)
                have O5 := Lib.hid (KX.out.2 _ _ _ (by decide) (blk_alloc OUTW.out (.cells #[.int .i64 ch.id, .int .i64 ch.fr, .int .i64 ch.to, .int .i64 ch.cap, .int .i64 ch.sz, .slice Au nm cu] 53)))
                have hb5 := below_own (B := w.heap.size + 3) ((BR.out.trans (BW.out.mono (by omega))).alloc (by omega) (.cells #[.int .i64 ch.id, .int .i64 ch.fr, .int .i64 ch.to, .int .i64 ch.cap, .int .i64 ch.sz, .slice Au nm cu] 53)) (own_lo (HOWN.out.alloc _) (Nat.le_succ _)) hg5 (by first | omega | (simp; omega))
                have HG5 := Lib.hid (show GrowR (w.heap.size + 4) w9 v5 ((moveQ ps pn qs cs).take (k + 1)) from by
                  have h := GrowX.snoc (cs := Qu.cells) (own := ownG) (us := us) (u := (⟨ch, q.msgs⟩, Au, cu)) (by rw [HUL.out]; exact HOWN.out.alloc (.cells #[.int .i64 ch.id, .int .i64 ch.fr, .int .i64 ch.to, .int .i64 ch.cap, .int .i64 ch.sz, .slice Au nm cu] 53)) (ownG_below _ _ _ _ _ _ HMSG.out BA9.out) (fun y hy => ownG_below _ _ _ _ _ _ (HMS.out y hy) BA9.out) (fun A c y hy => ownG_keptX (by decide) (by decide) hy KX.out) (by rw [HUL.out]; rw [← HNM.out] at hown5; exact hown5)
                  rw [HUS.out] at h
                  rw [HTK.out]
                  exact h)
                have HB5 := Lib.hid hb5
                obtain ⟨A5, c5, hv5, _, _, _, _⟩ := own_form3s hown5
                subst hv5
                have HP5 := Lib.hid (((HGP.out.below BW.out).below BA9.out).keptX (by decide) (by decide) KX.out)
                have o5 := blk_cell O5.out 2; have of5 := blk_frozen O5.out 2
                clear hown5 hg5 hb5 o2 y0q y1q y2q y3q y4q y5q
                go_wp2_with fail
                go_roundw
                case rel => exact ⟨k + 1, by omega, by go_num, _, blk_set O5.out 2 _, HP5.out.keptX (by decide) (by decide) (KeptX.set O5.out 2 _), HG5.out.keptX (by decide) (by decide) (by decide) (KeptX.set O5.out 2 _), HB5.out.setCell (p := ⟨w.heap.size + 3, 2, none⟩) (Nat.le_refl _) _⟩
                case measure => simp [intOf] <;> omega
        · have hkn : nc = k := by omega
          subst hkn
          have HGQ := Lib.hid (show GrowR (w.heap.size + 4) wr (.slice Bv nc dv) (moveQ ps pn qs cs) by have h := HG.out; rwa [List.take_of_length_le (by rw [LQ.out]; exact Nat.le_refl _)] at h)
          have ZR := Lib.hid (blk_below G2.out BR.out (by omega))
          have o0 := blk_cell HO.out 0; have o1 := blk_cell HO.out 1; have o2 := blk_cell HO.out 2
          go_wp2_with (refine wpList_store_at rfl 25 (.tmp 4) (.tmp 108) rfl (w.heap.size + 2) #[.int .i64 fr, .slice Av nn cv, .slice Bv nc dv] rfl rfl 25 _ ZR.out info_st rfl (by simp [Value.oneCell']) ?_)
          intro w8 hw8
          have KX := Lib.hid (KeptX.row ZR.out #[.int .i64 fr, .slice Av nn cv, .slice Bv nc dv])
          have B8 := Lib.hid (below_row HBR.out (show w.heap.size ≤ w.heap.size + 2 by omega) #[.int .i64 fr, .slice Av nn cv, .slice Bv nc dv])
          have R8 := Lib.hid (blk_row ZR.out #[.int .i64 fr, .slice Av nn cv, .slice Bv nc dv])
          have GP8 := Lib.hid (HGP.out.keptX (by decide) (by decide) KX.out)
          have GQ8 := Lib.hid (HGQ.out.keptX (by decide) (by decide) (by decide) KX.out)
          rw [← hw8.out] at B8 R8 GP8 GQ8
          clear hw8 KX
          go_wp2
          refine ret_row rfl (w.heap.size + 2) 25 _ _ rfl R8.out Try.underlying25 rfl info_st rfl ?_
          obtain ⟨Q1, q2, qe, _, _, qq⟩ := GrowR.form GQ8.out
          rw [← (slice_inj qe).1] at qq
          exact ⟨B8.out, Av, cv, Bv, dv, rfl, GP8.out.pts, qq⟩
end Go.Proofs.Ytnfjkpeifleogaa.mv
