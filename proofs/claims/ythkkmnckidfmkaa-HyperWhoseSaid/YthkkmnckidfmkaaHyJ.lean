/- Calls of a partition: what Do does; no condition. -/
import Derived.Test.YthkkmnckidfmkaaRows
import Derived.Test.YthkkmnckidfmkaaHyI
import Derived.Test.YthkkmnckidfmkaaHyE
import Derived.Deep.CutRange
import Derived.Deep.RegionHeld3
import Derived.BigRegion
namespace Go.Proofs.Ythkkmnckidfmkaa.hy
open Go Go.ChangeShapes Go.WideShapes Go.ChangeAt Go.RowKit Go.Proofs.Ythkkmnckidfmkaa.rows
/-- What a call does: was it a good one, the part, the queues, the input; does it yield? -/
def doesV (n : Int) (x : Pt) (fr tk ver : Int) (qs : List Qu) (inp : Msg) : Bool × Pt × List Qu × Msg × Bool :=
  if n = 0 then (true, x, qs, inp, true) else if n = 1 then ((sendV x qs).1, x, (sendV x qs).2, inp, false) else if n = 2 then ((recvV x qs).1, (recvV x qs).2.1, (recvV x qs).2.2, inp, false)
  else if n = 3 then (true, { x with r0 := fr % 4294967296, r1 := tk % 4294967296 }, qs, inp, false) else if n = 4 then (true, { x with r0 := inpR inp }, qs, inp.drop 1, false)
  else if n = 5 then (true, { x with r0 := x.id % 4294967296, r1 := ver % 4294967296 }, qs, inp, false) else if n = 6 then (true, { x with st := 1 }, qs, inp, false) else (false, x, qs, inp, false)
/-- What Do makes of a part, of queues, of input; does it yield? -/
def doV (n : Int) (x : Pt) (fr tk ver : Int) (qs : List Qu) (inp : Msg) : Pt × List Qu × Msg × Bool :=
  ((if (doesV n x fr tk ver qs inp).1 = true then (doesV n x fr tk ver qs inp).2.1 else { (doesV n x fr tk ver qs inp).2.1 with st := 4 }), (doesV n x fr tk ver qs inp).2.2.1, (doesV n x fr tk ver qs inp).2.2.2.1, (doesV n x fr tk ver qs inp).2.2.2.2)
theorem doV_good {n : Int} {x p : Pt} {fr tk ver : Int} {qs q : List Qu} {inp i : Msg} {y : Bool} (h : doesV n x fr tk ver qs inp = (true, p, q, i, y)) : doV n x fr tk ver qs inp = (p, q, i, y) := by unfold doV; rw [h]; rfl
theorem doV_bad {n : Int} {x p : Pt} {fr tk ver : Int} {qs q : List Qu} {inp i : Msg} {y : Bool} (h : doesV n x fr tk ver qs inp = (false, p, q, i, y)) : doV n x fr tk ver qs inp = ({ p with st := 4 }, q, i, y) := by unfold doV; rw [h]; rfl
theorem doesV_out {n : Int} {x : Pt} {fr tk ver : Int} {qs : List Qu} {inp : Msg} (h : n < 0 ∨ 7 ≤ n) : doesV n x fr tk ver qs inp = (false, x, qs, inp, false) := by
  unfold doesV
  rw [if_neg (by omega), if_neg (by omega), if_neg (by omega), if_neg (by omega), if_neg (by omega), if_neg (by omega), if_neg (by omega)]
/-- The call is done, the caller in block g. -/
def Done (L g : Nat) (n : Int) (x : Pt) (fr tk ver : Int) (qs : List Qu) (inp : Msg) (wb wc : World) : Prop :=
  Below L wb wc ∧ At L g wc (doV n x fr tk ver qs inp).1 fr tk ver (doV n x fr tk ver qs inp).2.1 (doV n x fr tk ver qs inp).2.2.1 (doV n x fr tk ver qs inp).2.2.2
theorem Done.good {L g : Nat} {n : Int} {x p : Pt} {fr tk ver : Int} {qs q : List Qu} {inp i : Msg} {y : Bool} {wb wc : World} (h : doesV n x fr tk ver qs inp = (true, p, q, i, y)) (hb : Below L wb wc) (ha : At L g wc p fr tk ver q i y) : Done L g n x fr tk ver qs inp wb wc := by
  unfold Done; rw [doV_good h]; exact ⟨hb, ha⟩
theorem At.bad {L g : Nat} {p : Pt} {fr tk ver : Int} {q : List Qu} {i : Msg} {y : Bool} {wc : World} (ha : At L g wc p fr tk ver q i y) : At L g (wc.setCell ⟨g, 12, none⟩ (.int .u8 4)) { p with st := 4 } fr tk ver q i y ∧ L ≤ g := by
  obtain ⟨Am, cm, B, d, Ci, ci, h⟩ := ha
  exact ⟨⟨Am, cm, B, d, Ci, ci, (h.set 12 (.int .u8 4)).eq rfl⟩, h.2.1⟩
theorem Done.bad {L g : Nat} {n : Int} {x p : Pt} {fr tk ver : Int} {qs q : List Qu} {inp i : Msg} {y : Bool} {wb wc : World} (h : doesV n x fr tk ver qs inp = (false, p, q, i, y)) (hb : Below L wb wc) (ha : At L g wc p fr tk ver q i y) : Done L g n x fr tk ver qs inp wb (wc.setCell ⟨g, 12, none⟩ (.int .u8 4)) := by
  unfold Done; rw [doV_bad h]
  exact ⟨hb.setCell (p := ⟨g, 12, none⟩) ha.bad.2 _, ha.bad.1⟩
theorem At.below {L g : Nat} {p : Pt} {fr tk ver : Int} {q : List Qu} {i : Msg} {y : Bool} {w w' : World} (ha : At L g w p fr tk ver q i y) (hb : Below w.heap.size w w') : At L g w' p fr tk ver q i y := by
  obtain ⟨Am, cm, B, d, Ci, ci, h⟩ := ha
  exact ⟨Am, cm, B, d, Ci, ci, h.below hb⟩
theorem At.cell12 {L g : Nat} {p : Pt} {fr tk ver : Int} {q : List Qu} {i : Msg} {y : Bool} {w : World} (ha : At L g w p fr tk ver q i y) : ∃ z, w.cell? ⟨g, 12, none⟩ = some (.int .u8 z) := by
  obtain ⟨Am, cm, B, d, Ci, ci, h⟩ := ha
  exact ⟨_, h.cell 12⟩
theorem At.frozen12 {L g : Nat} {p : Pt} {fr tk ver : Int} {q : List Qu} {i : Msg} {y : Bool} {w : World} (ha : At L g w p fr tk ver q i y) : w.frozen? ⟨g, 12, none⟩ = false := by
  obtain ⟨Am, cm, B, d, Ci, ci, h⟩ := ha
  exact h.frozen 12
theorem KeptX.refl (T : TypeId) (w : World) : KeptX T w w := ⟨Nat.le_refl _, fun _ _ _ _ h => h⟩
theorem belowG {B g : Nat} {a w : World} (h : Below B a w) (hg : B ≤ g) (k : Nat) (u : Value) : Below B a (w.setCell ⟨g, k, none⟩ u) := h.setCell (p := ⟨g, k, none⟩) hg u
abbrev set14w (w : World) (g : Nat) (v0 v1 v2 v3 v4 v5 v6 v7 v8 v9 v10 v11 v12 v13 : Value) : World := ((((((((((((((w.setCell ⟨g, 0, none⟩ v0).setCell ⟨g, 1, none⟩ v1).setCell ⟨g, 2, none⟩ v2).setCell ⟨g, 3, none⟩ v3).setCell ⟨g, 4, none⟩ v4).setCell ⟨g, 5, none⟩ v5).setCell ⟨g, 6, none⟩ v6).setCell ⟨g, 7, none⟩ v7).setCell ⟨g, 8, none⟩ v8).setCell ⟨g, 9, none⟩ v9).setCell ⟨g, 10, none⟩ v10).setCell ⟨g, 11, none⟩ v11).setCell ⟨g, 12, none⟩ v12).setCell ⟨g, 13, none⟩ v13)
theorem set14 {T : TypeId} {w : World} {g : Nat} {u0 u1 u2 u3 u4 u5 u6 u7 u8 u9 u10 u11 u12 u13 v0 v1 v2 v3 v4 v5 v6 v7 v8 v9 v10 v11 v12 v13 : Value} (h : w.heap[g]? = some (.cells #[u0, u1, u2, u3, u4, u5, u6, u7, u8, u9, u10, u11, u12, u13] T (0, 0))) : (set14w w g v0 v1 v2 v3 v4 v5 v6 v7 v8 v9 v10 v11 v12 v13).heap[g]? = some (.cells #[v0, v1, v2, v3, v4, v5, v6, v7, v8, v9, v10, v11, v12, v13] T (0, 0)) ∧ KeptX T w (set14w w g v0 v1 v2 v3 v4 v5 v6 v7 v8 v9 v10 v11 v12 v13) ∧ ∀ (B : Nat) (a : World), Below B a w → B ≤ g → Below B a (set14w w g v0 v1 v2 v3 v4 v5 v6 v7 v8 v9 v10 v11 v12 v13) := by
  have h0 : (w.setCell ⟨g, 0, none⟩ v0).heap[g]? = some (.cells #[v0, u1, u2, u3, u4, u5, u6, u7, u8, u9, u10, u11, u12, u13] T (0, 0)) := blk_set h 0 v0
  have k0 : KeptX T w (w.setCell ⟨g, 0, none⟩ v0) := KeptX.trans (KeptX.refl T w) (KeptX.set h 0 v0)
  have h1 : ((w.setCell ⟨g, 0, none⟩ v0).setCell ⟨g, 1, none⟩ v1).heap[g]? = some (.cells #[v0, v1, u2, u3, u4, u5, u6, u7, u8, u9, u10, u11, u12, u13] T (0, 0)) := blk_set h0 1 v1
  have k1 : KeptX T w ((w.setCell ⟨g, 0, none⟩ v0).setCell ⟨g, 1, none⟩ v1) := KeptX.trans k0 (KeptX.set h0 1 v1)
  have h2 : (((w.setCell ⟨g, 0, none⟩ v0).setCell ⟨g, 1, none⟩ v1).setCell ⟨g, 2, none⟩ v2).heap[g]? = some (.cells #[v0, v1, v2, u3, u4, u5, u6, u7, u8, u9, u10, u11, u12, u13] T (0, 0)) := blk_set h1 2 v2
  have k2 : KeptX T w (((w.setCell ⟨g, 0, none⟩ v0).setCell ⟨g, 1, none⟩ v1).setCell ⟨g, 2, none⟩ v2) := KeptX.trans k1 (KeptX.set h1 2 v2)
  have h3 : ((((w.setCell ⟨g, 0, none⟩ v0).setCell ⟨g, 1, none⟩ v1).setCell ⟨g, 2, none⟩ v2).setCell ⟨g, 3, none⟩ v3).heap[g]? = some (.cells #[v0, v1, v2, v3, u4, u5, u6, u7, u8, u9, u10, u11, u12, u13] T (0, 0)) := blk_set h2 3 v3
  have k3 : KeptX T w ((((w.setCell ⟨g, 0, none⟩ v0).setCell ⟨g, 1, none⟩ v1).setCell ⟨g, 2, none⟩ v2).setCell ⟨g, 3, none⟩ v3) := KeptX.trans k2 (KeptX.set h2 3 v3)
  have h4 : (((((w.setCell ⟨g, 0, none⟩ v0).setCell ⟨g, 1, none⟩ v1).setCell ⟨g, 2, none⟩ v2).setCell ⟨g, 3, none⟩ v3).setCell ⟨g, 4, none⟩ v4).heap[g]? = some (.cells #[v0, v1, v2, v3, v4, u5, u6, u7, u8, u9, u10, u11, u12, u13] T (0, 0)) := blk_set h3 4 v4
  have k4 : KeptX T w (((((w.setCell ⟨g, 0, none⟩ v0).setCell ⟨g, 1, none⟩ v1).setCell ⟨g, 2, none⟩ v2).setCell ⟨g, 3, none⟩ v3).setCell ⟨g, 4, none⟩ v4) := KeptX.trans k3 (KeptX.set h3 4 v4)
  have h5 : ((((((w.setCell ⟨g, 0, none⟩ v0).setCell ⟨g, 1, none⟩ v1).setCell ⟨g, 2, none⟩ v2).setCell ⟨g, 3, none⟩ v3).setCell ⟨g, 4, none⟩ v4).setCell ⟨g, 5, none⟩ v5).heap[g]? = some (.cells #[v0, v1, v2, v3, v4, v5, u6, u7, u8, u9, u10, u11, u12, u13] T (0, 0)) := blk_set h4 5 v5
  have k5 : KeptX T w ((((((w.setCell ⟨g, 0, none⟩ v0).setCell ⟨g, 1, none⟩ v1).setCell ⟨g, 2, none⟩ v2).setCell ⟨g, 3, none⟩ v3).setCell ⟨g, 4, none⟩ v4).setCell ⟨g, 5, none⟩ v5) := KeptX.trans k4 (KeptX.set h4 5 v5)
  have h6 : (((((((w.setCell ⟨g, 0, none⟩ v0).setCell ⟨g, 1, none⟩ v1).setCell ⟨g, 2, none⟩ v2).setCell ⟨g, 3, none⟩ v3).setCell ⟨g, 4, none⟩ v4).setCell ⟨g, 5, none⟩ v5).setCell ⟨g, 6, none⟩ v6).heap[g]? = some (.cells #[v0, v1, v2, v3, v4, v5, v6, u7, u8, u9, u10, u11, u12, u13] T (0, 0)) := blk_set h5 6 v6
  have k6 : KeptX T w (((((((w.setCell ⟨g, 0, none⟩ v0).setCell ⟨g, 1, none⟩ v1).setCell ⟨g, 2, none⟩ v2).setCell ⟨g, 3, none⟩ v3).setCell ⟨g, 4, none⟩ v4).setCell ⟨g, 5, none⟩ v5).setCell ⟨g, 6, none⟩ v6) := KeptX.trans k5 (KeptX.set h5 6 v6)
  have h7 : ((((((((w.setCell ⟨g, 0, none⟩ v0).setCell ⟨g, 1, none⟩ v1).setCell ⟨g, 2, none⟩ v2).setCell ⟨g, 3, none⟩ v3).setCell ⟨g, 4, none⟩ v4).setCell ⟨g, 5, none⟩ v5).setCell ⟨g, 6, none⟩ v6).setCell ⟨g, 7, none⟩ v7).heap[g]? = some (.cells #[v0, v1, v2, v3, v4, v5, v6, v7, u8, u9, u10, u11, u12, u13] T (0, 0)) := blk_set h6 7 v7
  have k7 : KeptX T w ((((((((w.setCell ⟨g, 0, none⟩ v0).setCell ⟨g, 1, none⟩ v1).setCell ⟨g, 2, none⟩ v2).setCell ⟨g, 3, none⟩ v3).setCell ⟨g, 4, none⟩ v4).setCell ⟨g, 5, none⟩ v5).setCell ⟨g, 6, none⟩ v6).setCell ⟨g, 7, none⟩ v7) := KeptX.trans k6 (KeptX.set h6 7 v7)
  have h8 : (((((((((w.setCell ⟨g, 0, none⟩ v0).setCell ⟨g, 1, none⟩ v1).setCell ⟨g, 2, none⟩ v2).setCell ⟨g, 3, none⟩ v3).setCell ⟨g, 4, none⟩ v4).setCell ⟨g, 5, none⟩ v5).setCell ⟨g, 6, none⟩ v6).setCell ⟨g, 7, none⟩ v7).setCell ⟨g, 8, none⟩ v8).heap[g]? = some (.cells #[v0, v1, v2, v3, v4, v5, v6, v7, v8, u9, u10, u11, u12, u13] T (0, 0)) := blk_set h7 8 v8
  have k8 : KeptX T w (((((((((w.setCell ⟨g, 0, none⟩ v0).setCell ⟨g, 1, none⟩ v1).setCell ⟨g, 2, none⟩ v2).setCell ⟨g, 3, none⟩ v3).setCell ⟨g, 4, none⟩ v4).setCell ⟨g, 5, none⟩ v5).setCell ⟨g, 6, none⟩ v6).setCell ⟨g, 7, none⟩ v7).setCell ⟨g, 8, none⟩ v8) := KeptX.trans k7 (KeptX.set h7 8 v8)
  have h9 : ((((((((((w.setCell ⟨g, 0, none⟩ v0).setCell ⟨g, 1, none⟩ v1).setCell ⟨g, 2, none⟩ v2).setCell ⟨g, 3, none⟩ v3).setCell ⟨g, 4, none⟩ v4).setCell ⟨g, 5, none⟩ v5).setCell ⟨g, 6, none⟩ v6).setCell ⟨g, 7, none⟩ v7).setCell ⟨g, 8, none⟩ v8).setCell ⟨g, 9, none⟩ v9).heap[g]? = some (.cells #[v0, v1, v2, v3, v4, v5, v6, v7, v8, v9, u10, u11, u12, u13] T (0, 0)) := blk_set h8 9 v9
  have k9 : KeptX T w ((((((((((w.setCell ⟨g, 0, none⟩ v0).setCell ⟨g, 1, none⟩ v1).setCell ⟨g, 2, none⟩ v2).setCell ⟨g, 3, none⟩ v3).setCell ⟨g, 4, none⟩ v4).setCell ⟨g, 5, none⟩ v5).setCell ⟨g, 6, none⟩ v6).setCell ⟨g, 7, none⟩ v7).setCell ⟨g, 8, none⟩ v8).setCell ⟨g, 9, none⟩ v9) := KeptX.trans k8 (KeptX.set h8 9 v9)
  have h10 : (((((((((((w.setCell ⟨g, 0, none⟩ v0).setCell ⟨g, 1, none⟩ v1).setCell ⟨g, 2, none⟩ v2).setCell ⟨g, 3, none⟩ v3).setCell ⟨g, 4, none⟩ v4).setCell ⟨g, 5, none⟩ v5).setCell ⟨g, 6, none⟩ v6).setCell ⟨g, 7, none⟩ v7).setCell ⟨g, 8, none⟩ v8).setCell ⟨g, 9, none⟩ v9).setCell ⟨g, 10, none⟩ v10).heap[g]? = some (.cells #[v0, v1, v2, v3, v4, v5, v6, v7, v8, v9, v10, u11, u12, u13] T (0, 0)) := blk_set h9 10 v10
  have k10 : KeptX T w (((((((((((w.setCell ⟨g, 0, none⟩ v0).setCell ⟨g, 1, none⟩ v1).setCell ⟨g, 2, none⟩ v2).setCell ⟨g, 3, none⟩ v3).setCell ⟨g, 4, none⟩ v4).setCell ⟨g, 5, none⟩ v5).setCell ⟨g, 6, none⟩ v6).setCell ⟨g, 7, none⟩ v7).setCell ⟨g, 8, none⟩ v8).setCell ⟨g, 9, none⟩ v9).setCell ⟨g, 10, none⟩ v10) := KeptX.trans k9 (KeptX.set h9 10 v10)
  have h11 : ((((((((((((w.setCell ⟨g, 0, none⟩ v0).setCell ⟨g, 1, none⟩ v1).setCell ⟨g, 2, none⟩ v2).setCell ⟨g, 3, none⟩ v3).setCell ⟨g, 4, none⟩ v4).setCell ⟨g, 5, none⟩ v5).setCell ⟨g, 6, none⟩ v6).setCell ⟨g, 7, none⟩ v7).setCell ⟨g, 8, none⟩ v8).setCell ⟨g, 9, none⟩ v9).setCell ⟨g, 10, none⟩ v10).setCell ⟨g, 11, none⟩ v11).heap[g]? = some (.cells #[v0, v1, v2, v3, v4, v5, v6, v7, v8, v9, v10, v11, u12, u13] T (0, 0)) := blk_set h10 11 v11
  have k11 : KeptX T w ((((((((((((w.setCell ⟨g, 0, none⟩ v0).setCell ⟨g, 1, none⟩ v1).setCell ⟨g, 2, none⟩ v2).setCell ⟨g, 3, none⟩ v3).setCell ⟨g, 4, none⟩ v4).setCell ⟨g, 5, none⟩ v5).setCell ⟨g, 6, none⟩ v6).setCell ⟨g, 7, none⟩ v7).setCell ⟨g, 8, none⟩ v8).setCell ⟨g, 9, none⟩ v9).setCell ⟨g, 10, none⟩ v10).setCell ⟨g, 11, none⟩ v11) := KeptX.trans k10 (KeptX.set h10 11 v11)
  have h12 : (((((((((((((w.setCell ⟨g, 0, none⟩ v0).setCell ⟨g, 1, none⟩ v1).setCell ⟨g, 2, none⟩ v2).setCell ⟨g, 3, none⟩ v3).setCell ⟨g, 4, none⟩ v4).setCell ⟨g, 5, none⟩ v5).setCell ⟨g, 6, none⟩ v6).setCell ⟨g, 7, none⟩ v7).setCell ⟨g, 8, none⟩ v8).setCell ⟨g, 9, none⟩ v9).setCell ⟨g, 10, none⟩ v10).setCell ⟨g, 11, none⟩ v11).setCell ⟨g, 12, none⟩ v12).heap[g]? = some (.cells #[v0, v1, v2, v3, v4, v5, v6, v7, v8, v9, v10, v11, v12, u13] T (0, 0)) := blk_set h11 12 v12
  have k12 : KeptX T w (((((((((((((w.setCell ⟨g, 0, none⟩ v0).setCell ⟨g, 1, none⟩ v1).setCell ⟨g, 2, none⟩ v2).setCell ⟨g, 3, none⟩ v3).setCell ⟨g, 4, none⟩ v4).setCell ⟨g, 5, none⟩ v5).setCell ⟨g, 6, none⟩ v6).setCell ⟨g, 7, none⟩ v7).setCell ⟨g, 8, none⟩ v8).setCell ⟨g, 9, none⟩ v9).setCell ⟨g, 10, none⟩ v10).setCell ⟨g, 11, none⟩ v11).setCell ⟨g, 12, none⟩ v12) := KeptX.trans k11 (KeptX.set h11 12 v12)
  have h13 : ((((((((((((((w.setCell ⟨g, 0, none⟩ v0).setCell ⟨g, 1, none⟩ v1).setCell ⟨g, 2, none⟩ v2).setCell ⟨g, 3, none⟩ v3).setCell ⟨g, 4, none⟩ v4).setCell ⟨g, 5, none⟩ v5).setCell ⟨g, 6, none⟩ v6).setCell ⟨g, 7, none⟩ v7).setCell ⟨g, 8, none⟩ v8).setCell ⟨g, 9, none⟩ v9).setCell ⟨g, 10, none⟩ v10).setCell ⟨g, 11, none⟩ v11).setCell ⟨g, 12, none⟩ v12).setCell ⟨g, 13, none⟩ v13).heap[g]? = some (.cells #[v0, v1, v2, v3, v4, v5, v6, v7, v8, v9, v10, v11, v12, v13] T (0, 0)) := blk_set h12 13 v13
  have k13 : KeptX T w ((((((((((((((w.setCell ⟨g, 0, none⟩ v0).setCell ⟨g, 1, none⟩ v1).setCell ⟨g, 2, none⟩ v2).setCell ⟨g, 3, none⟩ v3).setCell ⟨g, 4, none⟩ v4).setCell ⟨g, 5, none⟩ v5).setCell ⟨g, 6, none⟩ v6).setCell ⟨g, 7, none⟩ v7).setCell ⟨g, 8, none⟩ v8).setCell ⟨g, 9, none⟩ v9).setCell ⟨g, 10, none⟩ v10).setCell ⟨g, 11, none⟩ v11).setCell ⟨g, 12, none⟩ v12).setCell ⟨g, 13, none⟩ v13) := KeptX.trans k12 (KeptX.set h12 13 v13)
  exact ⟨h13, k13, fun B a hb hg => (belowG (belowG (belowG (belowG (belowG (belowG (belowG (belowG (belowG (belowG (belowG (belowG (belowG (belowG hb hg 0 v0) hg 1 v1) hg 2 v2) hg 3 v3) hg 4 v4) hg 5 v5) hg 6 v6) hg 7 v7) hg 8 v8) hg 9 v9) hg 10 v10) hg 11 v11) hg 12 v12) hg 13 v13)⟩
theorem WOut.drew {lo : Nat} {w : World} {B : Option Addr} {d : Nat} {qs : List Qu} {Ci : Option Addr} {ci : Nat} {inp : Msg} (h : WOut lo w B d qs Ci ci inp) : WOut lo w.drew B d qs Ci ci inp := h
/-- The call is made; it was a bad one. -/
def Told (L g : Nat) (n : Int) (x : Pt) (fr tk ver : Int) (qs : List Qu) (inp : Msg) (wb : World) (t : Value) (wc : World) : Prop :=
  ∃ b p q i y, doesV n x fr tk ver qs inp = (b, p, q, i, y) ∧ t = .bool (!b) ∧ Below L wb wc ∧ At L g wc p fr tk ver q i y
/-- What Do tells. -/
def DOut (n : Int) (x : Pt) (fr tk ver : Int) (qs : List Qu) (inp : Msg) (w : World) (e : Ending) (w' : World) : Prop :=
  Below w.heap.size w w' ∧ ∃ A2 c2 B2 d2 C2 c3, e = .returned (.tuple #[.agg #[.int .i64 (doV n x fr tk ver qs inp).1.id, .int .i64 (doV n x fr tk ver qs inp).1.size, .bool (doV n x fr tk ver qs inp).1.keep, .int .u32 (doV n x fr tk ver qs inp).1.r0, .int .u32 (doV n x fr tk ver qs inp).1.r1, .int .u32 (doV n x fr tk ver qs inp).1.r2, .int .u32 (doV n x fr tk ver qs inp).1.r3, .int .u32 (doV n x fr tk ver qs inp).1.r4, .int .u32 (doV n x fr tk ver qs inp).1.r5, .int .u32 (doV n x fr tk ver qs inp).1.r6, .int .u32 (doV n x fr tk ver qs inp).1.r7, .int .u32 (doV n x fr tk ver qs inp).1.pc, .int .u8 (doV n x fr tk ver qs inp).1.st, .slice A2 (doV n x fr tk ver qs inp).1.mem.length c2], .agg #[.int .i64 fr, .int .i64 tk, .int .i64 ver, .slice B2 (doV n x fr tk ver qs inp).2.1.length d2, .slice C2 (doV n x fr tk ver qs inp).2.2.1.length c3], .bool (doV n x fr tk ver qs inp).2.2.2, .int .i64 0]) ∧ Bys w.heap.size w' A2 c2 (doV n x fr tk ver qs inp).1.mem ∧ WOut w.heap.size w' B2 d2 (doV n x fr tk ver qs inp).2.1 C2 c3 (doV n x fr tk ver qs inp).2.2.1
set_option maxRecDepth 100000 in
set_option maxHeartbeats 8000000 in
theorem do_ok (n : Int) (x : Pt) (Am : Option Addr) (cm : Nat) (fr tk ver : Int) (qs : List Qu) (inp : Msg) (B : Option Addr) (d : Nat) (Ci : Option Addr) (ci : Nat) (hs : Small qs inp) (hok : okD x qs = true) (r0a : 0 ≤ x.r0) (r0b : x.r0 < 4294967296) (r1a : 0 ≤ x.r1) (r1b : x.r1 < 4294967296) (r2a : 0 ≤ x.r2) (r2b : x.r2 < 4294967296) (hmc : x.mem.length ≤ cm) (hmA : Am = none → cm = 0) (w : World) (hm : Rd w Am (bcs x.mem)) (hw : WIn w B d qs Ci ci inp) :
    Calls Try.prog 9 #[.int .i64 n, .agg #[.int .i64 x.id, .int .i64 x.size, .bool x.keep, .int .u32 x.r0, .int .u32 x.r1, .int .u32 x.r2, .int .u32 x.r3, .int .u32 x.r4, .int .u32 x.r5, .int .u32 x.r6, .int .u32 x.r7, .int .u32 x.pc, .int .u8 x.st, .slice Am x.mem.length cm], .agg #[.int .i64 fr, .int .i64 tk, .int .i64 ver, .slice B qs.length d, .slice Ci inp.length ci]] w (DOut n x fr tk ver qs inp w) := by
  obtain ⟨hX, hsz, g0, g1, g2, g3⟩ := box4 x Am cm fr tk ver qs inp B d Ci ci w
  have hw2 := hw.below hX
  have G0 := Lib.hid g0; have G1 := Lib.hid g1; have G2 := Lib.hid g2; have G3 := Lib.hid g3; have HX := Lib.hid hX; have HW := Lib.hid hw2; have HM := Lib.hid (hm.below hX); have HS := Lib.hid hs; have HSZ := Lib.hid hsz
  have T := contains_bad qs B qs.length d rfl hs.1 (fun q hq => (hs.2.2 q hq).1) _ hw2.1
  unfold okD at hok
  have hb1 : x.st = 0 ∧ x.mem.length ≤ 512 ∧ (qs.any fun q => !chan.mayQ q.ch q.msgs) = false := by by_cases h1 : x.st = 0 <;> by_cases h2 : x.mem.length ≤ 512 <;> cases h3 : (qs.any fun q => !chan.mayQ q.ch q.msgs) <;> simp_all
  obtain ⟨hst, hml5, hbad⟩ := hb1
  rw [hbad] at T
  clear g0 g1 g2 g3 hX hsz hw hw2 hm hok hbad
  obtain ⟨nq, hnq⟩ : ∃ m, qs.length = m := ⟨_, rfl⟩
  obtain ⟨ni, hni⟩ : ∃ m, inp.length = m := ⟨_, rfl⟩
  obtain ⟨ml, hml⟩ : ∃ m, x.mem.length = m := ⟨_, rfl⟩
  have hq6 := hs.1
  have hi6 := hs.2.1
  simp only [hnq, hni, hml] at T G0 G1 G2 G3 HX HSZ hq6 hi6 hml5 hmc HW HM ⊢
  have HT := Lib.hid T; have HNQ := Lib.hid hnq; have HNI := Lib.hid hni; have HML := Lib.hid hml; have HMA := Lib.hid hmA; have HMC := Lib.hid hmc
  have HST := Lib.hid hst
  have h1b : (x.st == 0) = true := by simp [hst]
  have h1c : (x.st != 0) = false := by simp [hst]
  have h2b : (ml : Int) ≤ 512 := by omega
  clear T hnq hni hml hmA hmc hs hst
  go_enter Try.func9, Try.ntmps9
  go_upto_region 1 with fail
  generalize ((((w.alloc (.cells #[.int .i64 x.id, .int .i64 x.size, .bool x.keep, .int .u32 x.r0, .int .u32 x.r1, .int .u32 x.r2, .int .u32 x.r3, .int .u32 x.r4, .int .u32 x.r5, .int .u32 x.r6, .int .u32 x.r7, .int .u32 x.pc, .int .u8 x.st, .slice Am ml cm] 26)).alloc (.cells #[.int .i64 fr, .int .i64 tk, .int .i64 ver, .slice B nq d, .slice Ci ni ci] 37)).alloc (.cells #[.int .i64 0, .int .i64 0, .bool false, .int .u32 0, .int .u32 0, .int .u32 0, .int .u32 0, .int .u32 0, .int .u32 0, .int .u32 0, .int .u32 0, .int .u32 0, .int .u8 0, .slice none 0 0] 26)).alloc (.cells #[.int .i64 0, .int .i64 0, .int .i64 0, .slice none 0 0, .slice none 0 0] 37)) = wb at *
  have P2 := Lib.hid G2.out; have P3 := Lib.hid G3.out
  obtain ⟨L, hL⟩ : ∃ l, wb.heap.size = l := ⟨_, rfl⟩
  have hL4 : L = w.heap.size + 4 := by rw [← hL]; exact HSZ.out
  have HLw : w.heap.size ≤ L := by omega
  have HL := Lib.hid hL; have HL4 := Lib.hid hL4; clear hL hL4 HSZ
  have a12 := blk_cell G0.out 12; have a13 := blk_cell G0.out 13; have c3 := blk_cell G1.out 3
  go_wp2_with fail
  refine HT.out.mono ?_
  rintro e w1 ⟨rfl, b1⟩
  clear HT a12 a13 c3
  replace G0 := Lib.hid (blk_below G0.out b1 (blk_lt G0.out))
  replace G1 := Lib.hid (blk_below G1.out b1 (blk_lt G1.out))
  replace G2 := Lib.hid (blk_below G2.out b1 (blk_lt G2.out))
  replace G3 := Lib.hid (blk_below G3.out b1 (blk_lt G3.out))
  replace HW := Lib.hid (HW.out.below b1); replace HM := Lib.hid (HM.out.below b1)
  have BL := Lib.hid (show Below L wb w1 by rw [← HL.out]; exact b1)
  have HL1 : L ≤ w1.heap.size := by rw [← HL.out]; exact b1.size
  clear b1
  have a0 := blk_cell G0.out 0
  have a1 := blk_cell G0.out 1
  have a2 := blk_cell G0.out 2
  have a3 := blk_cell G0.out 3
  have a4 := blk_cell G0.out 4
  have a5 := blk_cell G0.out 5
  have a6 := blk_cell G0.out 6
  have a7 := blk_cell G0.out 7
  have a8 := blk_cell G0.out 8
  have a9 := blk_cell G0.out 9
  have a10 := blk_cell G0.out 10
  have a11 := blk_cell G0.out 11
  have a12 := blk_cell G0.out 12
  have a13 := blk_cell G0.out 13
  have c0 := blk_cell G1.out 0
  have c1 := blk_cell G1.out 1
  have c2 := blk_cell G1.out 2
  have c3 := blk_cell G1.out 3
  have c4 := blk_cell G1.out 4
  have HSALL := Lib.hid (show ∀ w', Below w1.heap.size w1 w' → (Below w1.heap.size w1 w' ∧ w'.cell? ⟨w.heap.size, 0, none⟩ = some (.int .i64 x.id) ∧ w'.cell? ⟨w.heap.size, 1, none⟩ = some (.int .i64 x.size) ∧ w'.cell? ⟨w.heap.size, 2, none⟩ = some (.bool x.keep) ∧ w'.cell? ⟨w.heap.size, 3, none⟩ = some (.int .u32 x.r0) ∧ w'.cell? ⟨w.heap.size, 4, none⟩ = some (.int .u32 x.r1) ∧ w'.cell? ⟨w.heap.size, 5, none⟩ = some (.int .u32 x.r2) ∧ w'.cell? ⟨w.heap.size, 6, none⟩ = some (.int .u32 x.r3) ∧ w'.cell? ⟨w.heap.size, 7, none⟩ = some (.int .u32 x.r4) ∧ w'.cell? ⟨w.heap.size, 8, none⟩ = some (.int .u32 x.r5) ∧ w'.cell? ⟨w.heap.size, 9, none⟩ = some (.int .u32 x.r6) ∧ w'.cell? ⟨w.heap.size, 10, none⟩ = some (.int .u32 x.r7) ∧ w'.cell? ⟨w.heap.size, 11, none⟩ = some (.int .u32 x.pc) ∧ w'.cell? ⟨w.heap.size, 12, none⟩ = some (.int .u8 x.st) ∧ w'.cell? ⟨w.heap.size, 13, none⟩ = some (.slice Am ml cm) ∧ w'.cell? ⟨w.heap.size + 1, 0, none⟩ = some (.int .i64 fr) ∧ w'.cell? ⟨w.heap.size + 1, 1, none⟩ = some (.int .i64 tk) ∧ w'.cell? ⟨w.heap.size + 1, 2, none⟩ = some (.int .i64 ver) ∧ w'.cell? ⟨w.heap.size + 1, 3, none⟩ = some (.slice B nq d) ∧ w'.cell? ⟨w.heap.size + 1, 4, none⟩ = some (.slice Ci ni ci)) from fun w' hb => ⟨hb, (hb.cell (p := ⟨w.heap.size, 0, none⟩) (blk_lt G0.out)).trans a0, (hb.cell (p := ⟨w.heap.size, 1, none⟩) (blk_lt G0.out)).trans a1, (hb.cell (p := ⟨w.heap.size, 2, none⟩) (blk_lt G0.out)).trans a2, (hb.cell (p := ⟨w.heap.size, 3, none⟩) (blk_lt G0.out)).trans a3, (hb.cell (p := ⟨w.heap.size, 4, none⟩) (blk_lt G0.out)).trans a4, (hb.cell (p := ⟨w.heap.size, 5, none⟩) (blk_lt G0.out)).trans a5, (hb.cell (p := ⟨w.heap.size, 6, none⟩) (blk_lt G0.out)).trans a6, (hb.cell (p := ⟨w.heap.size, 7, none⟩) (blk_lt G0.out)).trans a7, (hb.cell (p := ⟨w.heap.size, 8, none⟩) (blk_lt G0.out)).trans a8, (hb.cell (p := ⟨w.heap.size, 9, none⟩) (blk_lt G0.out)).trans a9, (hb.cell (p := ⟨w.heap.size, 10, none⟩) (blk_lt G0.out)).trans a10, (hb.cell (p := ⟨w.heap.size, 11, none⟩) (blk_lt G0.out)).trans a11, (hb.cell (p := ⟨w.heap.size, 12, none⟩) (blk_lt G0.out)).trans a12, (hb.cell (p := ⟨w.heap.size, 13, none⟩) (blk_lt G0.out)).trans a13, (hb.cell (p := ⟨w.heap.size + 1, 0, none⟩) (blk_lt G1.out)).trans c0, (hb.cell (p := ⟨w.heap.size + 1, 1, none⟩) (blk_lt G1.out)).trans c1, (hb.cell (p := ⟨w.heap.size + 1, 2, none⟩) (blk_lt G1.out)).trans c2, (hb.cell (p := ⟨w.heap.size + 1, 3, none⟩) (blk_lt G1.out)).trans c3, (hb.cell (p := ⟨w.heap.size + 1, 4, none⟩) (blk_lt G1.out)).trans c4⟩)
  have HV := Lib.hid (show ∀ W, Below w1.heap.size w1 W → Calls Try.prog 23 #[.agg #[.int .i64 x.id, .int .i64 x.size, .bool x.keep, .int .u32 x.r0, .int .u32 x.r1, .int .u32 x.r2, .int .u32 x.r3, .int .u32 x.r4, .int .u32 x.r5, .int .u32 x.r6, .int .u32 x.r7, .int .u32 x.pc, .int .u8 x.st, .slice Am ml cm]] W fun e w' => ∃ A2 kA, e = .returned (.agg #[.int .i64 x.id, .int .i64 x.size, .bool x.keep, .int .u32 x.r0, .int .u32 x.r1, .int .u32 x.r2, .int .u32 x.r3, .int .u32 x.r4, .int .u32 x.r5, .int .u32 x.r6, .int .u32 x.r7, .int .u32 x.pc, .int .u8 x.st, .slice A2 ml kA]) ∧ Bys W.heap.size w' A2 kA x.mem ∧ Below W.heap.size W w' from fun W hW => by have T := vmCopy x Am cm HMA.out (by rw [HML.out]; exact HMC.out) (by rw [HML.out]; omega) W (HM.out.below hW); simp only [HML.out] at T; exact T)
  have HC := Lib.hid (show ∀ W, Below w1.heap.size w1 W → Calls Try.prog 15 #[.agg #[.int .i64 fr, .int .i64 tk, .int .i64 ver, .slice B nq d, .slice Ci ni ci]] W (COut fr tk ver nq ni qs inp W) from fun W hW => by have T := hCopy fr tk ver qs inp B d Ci ci HS.out W (HW.out.below hW); simp only [HNQ.out, HNI.out] at T; exact T)
  have hk1 : Below w1.heap.size w1 w1.drew := (Below.refl w1.heap.size w1).drew
  go_wp2_with fail
  go_region_held3 (fun w' => Below w1.heap.size w1 w' ∧ w'.cell? ⟨w.heap.size, 0, none⟩ = some (.int .i64 x.id) ∧ w'.cell? ⟨w.heap.size, 1, none⟩ = some (.int .i64 x.size) ∧ w'.cell? ⟨w.heap.size, 2, none⟩ = some (.bool x.keep) ∧ w'.cell? ⟨w.heap.size, 3, none⟩ = some (.int .u32 x.r0) ∧ w'.cell? ⟨w.heap.size, 4, none⟩ = some (.int .u32 x.r1) ∧ w'.cell? ⟨w.heap.size, 5, none⟩ = some (.int .u32 x.r2) ∧ w'.cell? ⟨w.heap.size, 6, none⟩ = some (.int .u32 x.r3) ∧ w'.cell? ⟨w.heap.size, 7, none⟩ = some (.int .u32 x.r4) ∧ w'.cell? ⟨w.heap.size, 8, none⟩ = some (.int .u32 x.r5) ∧ w'.cell? ⟨w.heap.size, 9, none⟩ = some (.int .u32 x.r6) ∧ w'.cell? ⟨w.heap.size, 10, none⟩ = some (.int .u32 x.r7) ∧ w'.cell? ⟨w.heap.size, 11, none⟩ = some (.int .u32 x.pc) ∧ w'.cell? ⟨w.heap.size, 12, none⟩ = some (.int .u8 x.st) ∧ w'.cell? ⟨w.heap.size, 13, none⟩ = some (.slice Am ml cm) ∧ w'.cell? ⟨w.heap.size + 1, 0, none⟩ = some (.int .i64 fr) ∧ w'.cell? ⟨w.heap.size + 1, 1, none⟩ = some (.int .i64 tk) ∧ w'.cell? ⟨w.heap.size + 1, 2, none⟩ = some (.int .i64 ver) ∧ w'.cell? ⟨w.heap.size + 1, 3, none⟩ = some (.slice B nq d) ∧ w'.cell? ⟨w.heap.size + 1, 4, none⟩ = some (.slice Ci ni ci))
    (first | (with_reducible exact HSALL.out _ hk1) | (with_reducible exact HSALL.out _ (by assumption)) | (refine HSALL.out _ ?_; repeat' (first | (with_reducible assumption) | (with_reducible refine belowD ?_) | (with_reducible refine belowA ?_ (Nat.le_refl _) _))))
    (first
      | ((with_reducible refine (HV.out _ (And.left (by assumption))).mono ?_); rintro e u1 ⟨A2, kA, rfl, hy, hb2⟩; have l1 : Below w1.heap.size w1 u1 := Below.trans (And.left (by assumption)) (Below.mono hb2 (Below.size (And.left (by assumption)))); have hy1 := Bys.lo hy (Nat.le_trans HL1 (Below.size (And.left (by assumption)))))
      | ((with_reducible refine (HC.out _ (And.left (by assumption))).mono ?_); rintro e u2 ⟨B2, d2, C2, kC, rfl, ho, hb3⟩; have l2 : Below w1.heap.size w1 u2 := Below.trans (And.left (by assumption)) (Below.mono hb3 (Below.size (And.left (by assumption)))); have ho2 := WOut.lo ho (Nat.le_trans HL1 (Below.size (And.left (by assumption)))); have hy2 := Bys.below hy1 hb3))
  obtain ⟨w2, hw2⟩ : ∃ z : World, z = u2 := ⟨_, rfl⟩
  subst hw2
  have BB := Lib.hid (BL.out.trans (l2.mono HL1))
  replace G2 := Lib.hid (blk_below G2.out l2 (blk_lt G2.out))
  replace G3 := Lib.hid (blk_below G3.out l2 (blk_lt G3.out))
  have OA := Lib.hid (ext1 w2 (.cells #[.int .i64 x.id, .int .i64 x.size, .bool x.keep, .int .u32 x.r0, .int .u32 x.r1, .int .u32 x.r2, .int .u32 x.r3, .int .u32 x.r4, .int .u32 x.r5, .int .u32 x.r6, .int .u32 x.r7, .int .u32 x.pc, .int .u8 x.st, .slice A2 ml kA, .int .i64 fr, .int .i64 tk, .int .i64 ver, .slice B2 nq d2, .slice C2 ni kC, .bool false] 61))
  have BG := Lib.hid (blk_new w2 #[.int .i64 x.id, .int .i64 x.size, .bool x.keep, .int .u32 x.r0, .int .u32 x.r1, .int .u32 x.r2, .int .u32 x.r3, .int .u32 x.r4, .int .u32 x.r5, .int .u32 x.r6, .int .u32 x.r7, .int .u32 x.pc, .int .u8 x.st, .slice A2 ml kA, .int .i64 fr, .int .i64 tk, .int .i64 ver, .slice B2 nq d2, .slice C2 ni kC, .bool false] 61)
  have hzz : L ≤ w2.heap.size := Nat.le_trans HL1 l2.size
  have AT := Lib.hid (show At L w2.heap.size (w2.alloc (.cells #[.int .i64 x.id, .int .i64 x.size, .bool x.keep, .int .u32 x.r0, .int .u32 x.r1, .int .u32 x.r2, .int .u32 x.r3, .int .u32 x.r4, .int .u32 x.r5, .int .u32 x.r6, .int .u32 x.r7, .int .u32 x.pc, .int .u8 x.st, .slice A2 ml kA, .int .i64 fr, .int .i64 tk, .int .i64 ver, .slice B2 nq d2, .slice C2 ni kC, .bool false] 61)) x fr tk ver qs inp false from ⟨A2, kA, B2, d2, C2, kC, blk_eq BG.out (by rw [← HML.out, ← HNQ.out, ← HNI.out]; rfl), hzz, hy2.below OA.out, ho2.1.below OA.out, ho2.2.below OA.out⟩)
  have B5 := Lib.hid (BB.out.trans (OA.out.mono hzz))
  replace G2 := Lib.hid (blk_below G2.out OA.out (blk_lt G2.out))
  replace G3 := Lib.hid (blk_below G3.out OA.out (blk_lt G3.out))
  clear hy hb2 l1 hy1 ho hb3 l2 ho2 hy2 HSALL HV HC hk1 BG G0 G1 HW HM BL
  clear a0 a1 a2 a3 a4 a5 a6 a7 a8 a9 a10 a11 a12 a13 c0 c1 c2 c3 c4
  generalize (w2.alloc (.cells #[.int .i64 x.id, .int .i64 x.size, .bool x.keep, .int .u32 x.r0, .int .u32 x.r1, .int .u32 x.r2, .int .u32 x.r3, .int .u32 x.r4, .int .u32 x.r5, .int .u32 x.r6, .int .u32 x.r7, .int .u32 x.pc, .int .u8 x.st, .slice A2 ml kA, .int .i64 fr, .int .i64 tk, .int .i64 ver, .slice B2 nq d2, .slice C2 ni kC, .bool false] 61)) = w3 at *
  obtain ⟨g, hg⟩ : ∃ z, w2.heap.size = z := ⟨_, rfl⟩
  rw [hg] at AT ⊢
  clear hg OA hzz
  have TC5 := Lib.hid (calls g w3)
  go_wp2_with fail
  refine TC5.out.mono ?_
  rintro e w4 ⟨rfl, b4⟩
  clear TC5
  have AT4 := Lib.hid (AT.out.below b4)
  have B6 := Lib.hid (show Below L wb w4 from B5.out.trans (b4.mono (by obtain ⟨_, _, _, _, _, _, h⟩ := AT.out; exact h.size)))
  replace G2 := Lib.hid (blk_below G2.out b4 (blk_lt G2.out))
  replace G3 := Lib.hid (blk_below G3.out b4 (blk_lt G3.out))
  clear b4 AT B5
  have ZG := Lib.hid (blk_new w4 #[.string { data := #[] }, .nilFunc, .string { data := #[] }, .nilFunc, .string { data := #[] }, .nilFunc, .string { data := #[] }, .nilFunc, .string { data := #[] }, .nilFunc, .string { data := #[] }, .nilFunc, .string { data := #[] }, .nilFunc] 64)
  have ZB := Lib.hid (ext1 w4 (.cells #[.string { data := #[] }, .nilFunc, .string { data := #[] }, .nilFunc, .string { data := #[] }, .nilFunc, .string { data := #[] }, .nilFunc, .string { data := #[] }, .nilFunc, .string { data := #[] }, .nilFunc, .string { data := #[] }, .nilFunc] 64))
  go_wp2_with (refine wpList_store_at rfl 64 (.tmp 12) (.tmp 37) rfl w4.heap.size (calls14 g) rfl rfl 64 _ ZG.out info_calls rfl (by simp [calls14, Value.oneCell']) ?_)
  intro w5 hw5
  have R5 := Lib.hid (blk_row ZG.out (calls14 g))
  have b5 := below_row (B := w4.heap.size) ZB.out (Nat.le_refl _) (calls14 g)
  rw [← hw5.out] at R5 b5
  have AT5 := Lib.hid (AT4.out.below b5)
  have B7 := Lib.hid (B6.out.trans (b5.mono (by obtain ⟨_, _, _, _, _, _, h⟩ := AT4.out; exact h.size)))
  replace G2 := Lib.hid (blk_below G2.out b5 (blk_lt G2.out))
  replace G3 := Lib.hid (blk_below G3.out b5 (blk_lt G3.out))
  clear hw5 b5 AT4 B6 ZG ZB
  obtain ⟨ga, hga⟩ : ∃ z, w4.heap.size = z := ⟨_, rfl⟩
  have HGA := Lib.hid hga
  simp only [hga] at R5 ⊢
  clear hga
  go_upto_region 6 with fail
  go_cut [51] from 38 to 51 (fun t51 wc => Told L g n x fr tk ver qs inp wb t51 wc)
  case first =>
    by_cases hn0 : n < 0
    · have HV := Lib.hid (doesV_out (x := x) (fr := fr) (tk := tk) (ver := ver) (qs := qs) (inp := inp) (Or.inl hn0))
      have hn1 : (n < 0) = True := eq_true hn0
      clear hn0
      go_wp2_with fail
      go_meet
      exact ⟨_, _, _, _, _, HV.out, rfl, B7.out, AT5.out⟩
    by_cases hn7 : 7 ≤ n
    · have HV := Lib.hid (doesV_out (x := x) (fr := fr) (tk := tk) (ver := ver) (qs := qs) (inp := inp) (Or.inr hn7))
      have hn1 : (n < 0) = False := eq_false hn0
      have hn2 : ((7 : Int) ≤ n) = True := eq_true hn7
      clear hn0 hn7
      go_wp2_with fail
      go_meet
      exact ⟨_, _, _, _, _, HV.out, rfl, B7.out, AT5.out⟩
    have hS := HS.out
    have hn8 : n = 0 ∨ n = 1 ∨ n = 2 ∨ n = 3 ∨ n = 4 ∨ n = 5 ∨ n = 6 := by omega
    clear hn0 hn7
    rcases hn8 with rfl | rfl | rfl | rfl | rfl | rfl | rfl
    · have T := yield AT5.out
      obtain ⟨bb, pp, qq, ii, yy, hV⟩ : ∃ bb pp qq ii yy, doesV 0 x fr tk ver qs inp = (bb, pp, qq, ii, yy) := ⟨_, _, _, _, _, rfl⟩
      have T2 : Calls Try.prog 36 #[.pointer (some ⟨g, 0, none⟩)] w5 (MOut L g bb pp fr tk ver qq ii yy w5) := by
        have e1 : (doesV 0 x fr tk ver qs inp).1 = bb := by rw [hV]
        have e2 : (doesV 0 x fr tk ver qs inp).2.1 = pp := by rw [hV]
        have e3 : (doesV 0 x fr tk ver qs inp).2.2.1 = qq := by rw [hV]
        have e4 : (doesV 0 x fr tk ver qs inp).2.2.2.1 = ii := by rw [hV]
        have e5 : (doesV 0 x fr tk ver qs inp).2.2.2.2 = yy := by rw [hV]
        rw [← e1, ← e2, ← e3, ← e4, ← e5]
        exact T
      have HT2 := Lib.hid T2; have HV := Lib.hid hV; clear T T2 hV hS
      have cg := (blk_cell R5.out 1).trans (show (calls14 g)[1]? = some (.func (.func 36) #[.pointer (some ⟨g, 0, none⟩)] #[]) from rfl)
      go_wp2_with fail
      refine HT2.out.mono ?_
      rintro e w6 ⟨rfl, b6, at6⟩
      have B8 := Lib.hid (B7.out.trans b6); have AT6 := Lib.hid at6; clear b6 at6 HT2 cg
      cases bb
      all_goals go_wp2_with fail
      all_goals go_meet
      all_goals exact ⟨_, _, _, _, _, HV.out, rfl, B8.out, AT6.out⟩
    · have T := send hS.1 (fun q hq => (hS.2.2 q hq).1) r0a r0b r1a r1b r2a r2b AT5.out
      obtain ⟨bb, pp, qq, ii, yy, hV⟩ : ∃ bb pp qq ii yy, doesV 1 x fr tk ver qs inp = (bb, pp, qq, ii, yy) := ⟨_, _, _, _, _, rfl⟩
      have T2 : Calls Try.prog 37 #[.pointer (some ⟨g, 0, none⟩)] w5 (MOut L g bb pp fr tk ver qq ii yy w5) := by
        have e1 : (doesV 1 x fr tk ver qs inp).1 = bb := by rw [hV]
        have e2 : (doesV 1 x fr tk ver qs inp).2.1 = pp := by rw [hV]
        have e3 : (doesV 1 x fr tk ver qs inp).2.2.1 = qq := by rw [hV]
        have e4 : (doesV 1 x fr tk ver qs inp).2.2.2.1 = ii := by rw [hV]
        have e5 : (doesV 1 x fr tk ver qs inp).2.2.2.2 = yy := by rw [hV]
        rw [← e1, ← e2, ← e3, ← e4, ← e5]
        exact T
      have HT2 := Lib.hid T2; have HV := Lib.hid hV; clear T T2 hV hS
      have cg := (blk_cell R5.out 3).trans (show (calls14 g)[3]? = some (.func (.func 37) #[.pointer (some ⟨g, 0, none⟩)] #[]) from rfl)
      go_wp2_with fail
      refine HT2.out.mono ?_
      rintro e w6 ⟨rfl, b6, at6⟩
      have B8 := Lib.hid (B7.out.trans b6); have AT6 := Lib.hid at6; clear b6 at6 HT2 cg
      cases bb
      all_goals go_wp2_with fail
      all_goals go_meet
      all_goals exact ⟨_, _, _, _, _, HV.out, rfl, B8.out, AT6.out⟩
    · have T := receive hS.1 hS.2.2 r0a r0b r1a r1b r2a r2b AT5.out
      obtain ⟨bb, pp, qq, ii, yy, hV⟩ : ∃ bb pp qq ii yy, doesV 2 x fr tk ver qs inp = (bb, pp, qq, ii, yy) := ⟨_, _, _, _, _, rfl⟩
      have T2 : Calls Try.prog 38 #[.pointer (some ⟨g, 0, none⟩)] w5 (MOut L g bb pp fr tk ver qq ii yy w5) := by
        have e1 : (doesV 2 x fr tk ver qs inp).1 = bb := by rw [hV]
        have e2 : (doesV 2 x fr tk ver qs inp).2.1 = pp := by rw [hV]
        have e3 : (doesV 2 x fr tk ver qs inp).2.2.1 = qq := by rw [hV]
        have e4 : (doesV 2 x fr tk ver qs inp).2.2.2.1 = ii := by rw [hV]
        have e5 : (doesV 2 x fr tk ver qs inp).2.2.2.2 = yy := by rw [hV]
        rw [← e1, ← e2, ← e3, ← e4, ← e5]
        exact T
      have HT2 := Lib.hid T2; have HV := Lib.hid hV; clear T T2 hV hS
      have cg := (blk_cell R5.out 5).trans (show (calls14 g)[5]? = some (.func (.func 38) #[.pointer (some ⟨g, 0, none⟩)] #[]) from rfl)
      go_wp2_with fail
      refine HT2.out.mono ?_
      rintro e w6 ⟨rfl, b6, at6⟩
      have B8 := Lib.hid (B7.out.trans b6); have AT6 := Lib.hid at6; clear b6 at6 HT2 cg
      cases bb
      all_goals go_wp2_with fail
      all_goals go_meet
      all_goals exact ⟨_, _, _, _, _, HV.out, rfl, B8.out, AT6.out⟩
    · have T := now AT5.out
      obtain ⟨bb, pp, qq, ii, yy, hV⟩ : ∃ bb pp qq ii yy, doesV 3 x fr tk ver qs inp = (bb, pp, qq, ii, yy) := ⟨_, _, _, _, _, rfl⟩
      have T2 : Calls Try.prog 39 #[.pointer (some ⟨g, 0, none⟩)] w5 (MOut L g bb pp fr tk ver qq ii yy w5) := by
        have e1 : (doesV 3 x fr tk ver qs inp).1 = bb := by rw [hV]
        have e2 : (doesV 3 x fr tk ver qs inp).2.1 = pp := by rw [hV]
        have e3 : (doesV 3 x fr tk ver qs inp).2.2.1 = qq := by rw [hV]
        have e4 : (doesV 3 x fr tk ver qs inp).2.2.2.1 = ii := by rw [hV]
        have e5 : (doesV 3 x fr tk ver qs inp).2.2.2.2 = yy := by rw [hV]
        rw [← e1, ← e2, ← e3, ← e4, ← e5]
        exact T
      have HT2 := Lib.hid T2; have HV := Lib.hid hV; clear T T2 hV hS
      have cg := (blk_cell R5.out 7).trans (show (calls14 g)[7]? = some (.func (.func 39) #[.pointer (some ⟨g, 0, none⟩)] #[]) from rfl)
      go_wp2_with fail
      refine HT2.out.mono ?_
      rintro e w6 ⟨rfl, b6, at6⟩
      have B8 := Lib.hid (B7.out.trans b6); have AT6 := Lib.hid at6; clear b6 at6 HT2 cg
      cases bb
      all_goals go_wp2_with fail
      all_goals go_meet
      all_goals exact ⟨_, _, _, _, _, HV.out, rfl, B8.out, AT6.out⟩
    · have T := input AT5.out
      obtain ⟨bb, pp, qq, ii, yy, hV⟩ : ∃ bb pp qq ii yy, doesV 4 x fr tk ver qs inp = (bb, pp, qq, ii, yy) := ⟨_, _, _, _, _, rfl⟩
      have T2 : Calls Try.prog 40 #[.pointer (some ⟨g, 0, none⟩)] w5 (MOut L g bb pp fr tk ver qq ii yy w5) := by
        have e1 : (doesV 4 x fr tk ver qs inp).1 = bb := by rw [hV]
        have e2 : (doesV 4 x fr tk ver qs inp).2.1 = pp := by rw [hV]
        have e3 : (doesV 4 x fr tk ver qs inp).2.2.1 = qq := by rw [hV]
        have e4 : (doesV 4 x fr tk ver qs inp).2.2.2.1 = ii := by rw [hV]
        have e5 : (doesV 4 x fr tk ver qs inp).2.2.2.2 = yy := by rw [hV]
        rw [← e1, ← e2, ← e3, ← e4, ← e5]
        exact T
      have HT2 := Lib.hid T2; have HV := Lib.hid hV; clear T T2 hV hS
      have cg := (blk_cell R5.out 9).trans (show (calls14 g)[9]? = some (.func (.func 40) #[.pointer (some ⟨g, 0, none⟩)] #[]) from rfl)
      go_wp2_with fail
      refine HT2.out.mono ?_
      rintro e w6 ⟨rfl, b6, at6⟩
      have B8 := Lib.hid (B7.out.trans b6); have AT6 := Lib.hid at6; clear b6 at6 HT2 cg
      cases bb
      all_goals go_wp2_with fail
      all_goals go_meet
      all_goals exact ⟨_, _, _, _, _, HV.out, rfl, B8.out, AT6.out⟩
    · have T := self AT5.out
      obtain ⟨bb, pp, qq, ii, yy, hV⟩ : ∃ bb pp qq ii yy, doesV 5 x fr tk ver qs inp = (bb, pp, qq, ii, yy) := ⟨_, _, _, _, _, rfl⟩
      have T2 : Calls Try.prog 41 #[.pointer (some ⟨g, 0, none⟩)] w5 (MOut L g bb pp fr tk ver qq ii yy w5) := by
        have e1 : (doesV 5 x fr tk ver qs inp).1 = bb := by rw [hV]
        have e2 : (doesV 5 x fr tk ver qs inp).2.1 = pp := by rw [hV]
        have e3 : (doesV 5 x fr tk ver qs inp).2.2.1 = qq := by rw [hV]
        have e4 : (doesV 5 x fr tk ver qs inp).2.2.2.1 = ii := by rw [hV]
        have e5 : (doesV 5 x fr tk ver qs inp).2.2.2.2 = yy := by rw [hV]
        rw [← e1, ← e2, ← e3, ← e4, ← e5]
        exact T
      have HT2 := Lib.hid T2; have HV := Lib.hid hV; clear T T2 hV hS
      have cg := (blk_cell R5.out 11).trans (show (calls14 g)[11]? = some (.func (.func 41) #[.pointer (some ⟨g, 0, none⟩)] #[]) from rfl)
      go_wp2_with fail
      refine HT2.out.mono ?_
      rintro e w6 ⟨rfl, b6, at6⟩
      have B8 := Lib.hid (B7.out.trans b6); have AT6 := Lib.hid at6; clear b6 at6 HT2 cg
      cases bb
      all_goals go_wp2_with fail
      all_goals go_meet
      all_goals exact ⟨_, _, _, _, _, HV.out, rfl, B8.out, AT6.out⟩
    · have T := halt AT5.out
      obtain ⟨bb, pp, qq, ii, yy, hV⟩ : ∃ bb pp qq ii yy, doesV 6 x fr tk ver qs inp = (bb, pp, qq, ii, yy) := ⟨_, _, _, _, _, rfl⟩
      have T2 : Calls Try.prog 42 #[.pointer (some ⟨g, 0, none⟩)] w5 (MOut L g bb pp fr tk ver qq ii yy w5) := by
        have e1 : (doesV 6 x fr tk ver qs inp).1 = bb := by rw [hV]
        have e2 : (doesV 6 x fr tk ver qs inp).2.1 = pp := by rw [hV]
        have e3 : (doesV 6 x fr tk ver qs inp).2.2.1 = qq := by rw [hV]
        have e4 : (doesV 6 x fr tk ver qs inp).2.2.2.1 = ii := by rw [hV]
        have e5 : (doesV 6 x fr tk ver qs inp).2.2.2.2 = yy := by rw [hV]
        rw [← e1, ← e2, ← e3, ← e4, ← e5]
        exact T
      have HT2 := Lib.hid T2; have HV := Lib.hid hV; clear T T2 hV hS
      have cg := (blk_cell R5.out 13).trans (show (calls14 g)[13]? = some (.func (.func 42) #[.pointer (some ⟨g, 0, none⟩)] #[]) from rfl)
      go_wp2_with fail
      refine HT2.out.mono ?_
      rintro e w6 ⟨rfl, b6, at6⟩
      have B8 := Lib.hid (B7.out.trans b6); have AT6 := Lib.hid at6; clear b6 at6 HT2 cg
      cases bb
      all_goals go_wp2_with fail
      all_goals go_meet
      all_goals exact ⟨_, _, _, _, _, HV.out, rfl, B8.out, AT6.out⟩
  case rest =>
    obtain ⟨bb, pp, qq, ii, yy, hV, rfl, hb6, ha6⟩ := hcut
    have HV := Lib.hid hV; have B8 := Lib.hid hb6; have AT6 := Lib.hid ha6; clear hV hb6 ha6 AT5 B7 R5
    obtain ⟨w6, hw6⟩ : ∃ z : World, z = wc := ⟨_, rfl⟩
    subst hw6
    obtain ⟨z12, c12⟩ := AT6.out.cell12
    have f12 := AT6.out.frozen12
    go_upto_if 51 with fail
    go_cut [] from 52 (fun wc => Done L g n x fr tk ver qs inp wb wc)
    case first =>
      cases bb
      all_goals go_wp2_with fail
      all_goals go_meet
      · exact Done.bad HV.out B8.out AT6.out
      · exact Done.good HV.out B8.out AT6.out
    case rest =>
      obtain ⟨hdb, hda⟩ := hcut
      clear c12 f12 B8 AT6 HV G2 G3
      obtain ⟨rp, rq, ri, ry, hR⟩ : ∃ rp rq ri ry, doV n x fr tk ver qs inp = (rp, rq, ri, ry) := ⟨_, _, _, _, rfl⟩
      rw [hR] at hda
      have HR := Lib.hid hR; clear hR
      obtain ⟨w8, hw8⟩ : ∃ z : World, z = wc := ⟨_, rfl⟩
      subst hw8
      obtain ⟨A9, k9, B9, d9, C9, e9, ha⟩ := hda
      dsimp only at ha
      obtain ⟨lm, hlm⟩ : ∃ z, rp.mem.length = z := ⟨_, rfl⟩
      obtain ⟨lq, hlq⟩ : ∃ z, rq.length = z := ⟨_, rfl⟩
      obtain ⟨li, hli⟩ : ∃ z, ri.length = z := ⟨_, rfl⟩
      have HLM := Lib.hid hlm; have HLQ := Lib.hid hlq; have HLI := Lib.hid hli
      have HD := Lib.hid ha; have BD := Lib.hid hdb
      clear ha hdb
      have N2 := Lib.hid (blk_below P2.out BD.out (show w.heap.size + 2 < L by rw [HL4.out]; omega)); have N3 := Lib.hid (blk_below P3.out BD.out (show w.heap.size + 3 < L by rw [HL4.out]; omega))
      have hgL : L ≤ g := HD.out.2.1
      have hg4 : w.heap.size + 4 ≤ g := by rw [← HL4.out]; exact hgL
      clear hgL
      have h0 : w8.cell? ⟨g, 0, none⟩ = some (.int .i64 rp.id) := HD.out.cell 0
      have h1 : w8.cell? ⟨g, 1, none⟩ = some (.int .i64 rp.size) := HD.out.cell 1
      have h2 : w8.cell? ⟨g, 2, none⟩ = some (.bool rp.keep) := HD.out.cell 2
      have h3 : w8.cell? ⟨g, 3, none⟩ = some (.int .u32 rp.r0) := HD.out.cell 3
      have h4 : w8.cell? ⟨g, 4, none⟩ = some (.int .u32 rp.r1) := HD.out.cell 4
      have h5 : w8.cell? ⟨g, 5, none⟩ = some (.int .u32 rp.r2) := HD.out.cell 5
      have h6 : w8.cell? ⟨g, 6, none⟩ = some (.int .u32 rp.r3) := HD.out.cell 6
      have h7 : w8.cell? ⟨g, 7, none⟩ = some (.int .u32 rp.r4) := HD.out.cell 7
      have h8 : w8.cell? ⟨g, 8, none⟩ = some (.int .u32 rp.r5) := HD.out.cell 8
      have h9 : w8.cell? ⟨g, 9, none⟩ = some (.int .u32 rp.r6) := HD.out.cell 9
      have h10 : w8.cell? ⟨g, 10, none⟩ = some (.int .u32 rp.r7) := HD.out.cell 10
      have h11 : w8.cell? ⟨g, 11, none⟩ = some (.int .u32 rp.pc) := HD.out.cell 11
      have h12 : w8.cell? ⟨g, 12, none⟩ = some (.int .u8 rp.st) := HD.out.cell 12
      have h13 : w8.cell? ⟨g, 13, none⟩ = some (.slice A9 lm k9) := by rw [HD.out.cell 13, ← hlm]; rfl
      have h14 : w8.cell? ⟨g, 14, none⟩ = some (.int .i64 fr) := HD.out.cell 14
      have h15 : w8.cell? ⟨g, 15, none⟩ = some (.int .i64 tk) := HD.out.cell 15
      have h16 : w8.cell? ⟨g, 16, none⟩ = some (.int .i64 ver) := HD.out.cell 16
      have h17 : w8.cell? ⟨g, 17, none⟩ = some (.slice B9 lq d9) := by rw [HD.out.cell 17, ← hlq]; rfl
      have h18 : w8.cell? ⟨g, 18, none⟩ = some (.slice C9 li e9) := by rw [HD.out.cell 18, ← hli]; rfl
      have h19 : w8.cell? ⟨g, 19, none⟩ = some (.bool ry) := HD.out.cell 19
      have z0 := blk_cell N2.out 0; have zf0 := blk_frozen N2.out 0
      have z1 := blk_cell N2.out 1; have zf1 := blk_frozen N2.out 1
      have z2 := blk_cell N2.out 2; have zf2 := blk_frozen N2.out 2
      have z3 := blk_cell N2.out 3; have zf3 := blk_frozen N2.out 3
      have z4 := blk_cell N2.out 4; have zf4 := blk_frozen N2.out 4
      have z5 := blk_cell N2.out 5; have zf5 := blk_frozen N2.out 5
      have z6 := blk_cell N2.out 6; have zf6 := blk_frozen N2.out 6
      have z7 := blk_cell N2.out 7; have zf7 := blk_frozen N2.out 7
      have z8 := blk_cell N2.out 8; have zf8 := blk_frozen N2.out 8
      have z9 := blk_cell N2.out 9; have zf9 := blk_frozen N2.out 9
      have z10 := blk_cell N2.out 10; have zf10 := blk_frozen N2.out 10
      have z11 := blk_cell N2.out 11; have zf11 := blk_frozen N2.out 11
      have z12 := blk_cell N2.out 12; have zf12 := blk_frozen N2.out 12
      have z13 := blk_cell N2.out 13; have zf13 := blk_frozen N2.out 13
      have y0 := blk_cell N3.out 0; have yf0 := blk_frozen N3.out 0
      have y1 := blk_cell N3.out 1; have yf1 := blk_frozen N3.out 1
      have y2 := blk_cell N3.out 2; have yf2 := blk_frozen N3.out 2
      have y3 := blk_cell N3.out 3; have yf3 := blk_frozen N3.out 3
      have y4 := blk_cell N3.out 4; have yf4 := blk_frozen N3.out 4
      clear hlm hlq hli
      have n1 : ¬ g = w.heap.size + 1 + 1 := by omega
      have n2 : ¬ g = w.heap.size + 1 + 1 + 1 := by omega
      have n3 : ¬ w.heap.size + 1 + 1 = g := by omega
      have n4 : ¬ w.heap.size + 1 + 1 + 1 = g := by omega
      clear hg4
      go_wp2_with fail
      go_region
      clear h0 h1 h2 h3 h4 h5 h6 h7 h8 h9 h10 h11 h12 h13 h14 h15 h16 h17 h18 h19 z0 zf0 z1 zf1 z2 zf2 z3 zf3 z4 zf4 z5 zf5 z6 zf6 z7 zf7 z8 zf8 z9 zf9 z10 zf10 z11 zf11 z12 zf12 z13 zf13 y0 yf0 y1 yf1 y2 yf2 y3 yf3 y4 yf4 n1 n2 n3 n4
      obtain ⟨s1, s2, s3⟩ := set14 (v0 := .int .i64 rp.id) (v1 := .int .i64 rp.size) (v2 := .bool rp.keep) (v3 := .int .u32 rp.r0) (v4 := .int .u32 rp.r1) (v5 := .int .u32 rp.r2) (v6 := .int .u32 rp.r3) (v7 := .int .u32 rp.r4) (v8 := .int .u32 rp.r5) (v9 := .int .u32 rp.r6) (v10 := .int .u32 rp.r7) (v11 := .int .u32 rp.pc) (v12 := .int .u8 rp.st) (v13 := .slice A9 lm k9) (show w8.heap[w.heap.size + 1 + 1]? = some (.cells #[.int .i64 0, .int .i64 0, .bool false, .int .u32 0, .int .u32 0, .int .u32 0, .int .u32 0, .int .u32 0, .int .u32 0, .int .u32 0, .int .u32 0, .int .u32 0, .int .u8 0, .slice none 0 0] 26 (0, 0)) from N2.out)
      have S1 := Lib.hid s1; have S2 := Lib.hid s2; have S3 := Lib.hid s3; clear s1 s2 s3
      have M3 := S2.out.2 (w.heap.size + 1 + 1 + 1) _ _ (by decide) (show w8.heap[w.heap.size + 1 + 1 + 1]? = some (.cells #[.int .i64 0, .int .i64 0, .int .i64 0, .slice none 0 0, .slice none 0 0] 37 (0, 0)) from N3.out)
      have k5 := set5_kept M3 (.int .i64 fr) (.int .i64 tk) (.int .i64 ver) (.slice B9 lq d9) (.slice C9 li e9)
      have R3 := Lib.hid (blk_drew (set5_here M3 (.int .i64 fr) (.int .i64 tk) (.int .i64 ver) (.slice B9 lq d9) (.slice C9 li e9)))
      have R2 := Lib.hid (blk_drew (k5.2 _ _ _ (by decide) S1.out))
      have b8 : Below w.heap.size w w8 := HX.out.trans (BD.out.mono HLw)
      have R0 := Lib.hid ((set5_below (S3.out w.heap.size w b8 (show w.heap.size ≤ w.heap.size + 1 + 1 by omega)) (show w.heap.size ≤ w.heap.size + 1 + 1 + 1 by omega) (.int .i64 fr) (.int .i64 tk) (.int .i64 ver) (.slice B9 lq d9) (.slice C9 li e9)).drew)
      have RM := Lib.hid (Bys.drew (((HD.out.2.2.1.keptX (by decide) S2.out).keptX (by decide) k5).lo HLw))
      have RQ := Lib.hid (WOut.drew (lo := w.heap.size) ⟨((HD.out.2.2.2.1.keptX (by decide) (by decide) (by decide) S2.out).keptX (by decide) (by decide) (by decide) k5).lo HLw, ((HD.out.2.2.2.2.keptX (by decide) S2.out).keptX (by decide) k5).lo HLw⟩)
      dsimp only [set14w, set5] at R0 R2 R3 RM RQ
      clear S1 S2 S3 M3 k5 b8 N2 N3
      generalize ((((((((((((((((((((w8.setCell ⟨w.heap.size + 1 + 1, 0, none⟩ (.int .i64 rp.id)).setCell ⟨w.heap.size + 1 + 1, 1, none⟩ (.int .i64 rp.size)).setCell ⟨w.heap.size + 1 + 1, 2, none⟩ (.bool rp.keep)).setCell ⟨w.heap.size + 1 + 1, 3, none⟩ (.int .u32 rp.r0)).setCell ⟨w.heap.size + 1 + 1, 4, none⟩ (.int .u32 rp.r1)).setCell ⟨w.heap.size + 1 + 1, 5, none⟩ (.int .u32 rp.r2)).setCell ⟨w.heap.size + 1 + 1, 6, none⟩ (.int .u32 rp.r3)).setCell ⟨w.heap.size + 1 + 1, 7, none⟩ (.int .u32 rp.r4)).setCell ⟨w.heap.size + 1 + 1, 8, none⟩ (.int .u32 rp.r5)).setCell ⟨w.heap.size + 1 + 1, 9, none⟩ (.int .u32 rp.r6)).setCell ⟨w.heap.size + 1 + 1, 10, none⟩ (.int .u32 rp.r7)).setCell ⟨w.heap.size + 1 + 1, 11, none⟩ (.int .u32 rp.pc)).setCell ⟨w.heap.size + 1 + 1, 12, none⟩ (.int .u8 rp.st)).setCell ⟨w.heap.size + 1 + 1, 13, none⟩ (.slice A9 lm k9)).setCell ⟨w.heap.size + 1 + 1 + 1, 0, none⟩ (.int .i64 fr)).setCell ⟨w.heap.size + 1 + 1 + 1, 1, none⟩ (.int .i64 tk)).setCell ⟨w.heap.size + 1 + 1 + 1, 2, none⟩ (.int .i64 ver)).setCell ⟨w.heap.size + 1 + 1 + 1, 3, none⟩ (.slice B9 lq d9)).setCell ⟨w.heap.size + 1 + 1 + 1, 4, none⟩ (.slice C9 li e9))).drew = w9 at *
      go_wp2
      refine ret_rows2 rfl (w.heap.size + 1 + 1) (w.heap.size + 1 + 1 + 1) 26 37 _ _ _ _ rfl R2.out Try.underlying26 rfl info_pt rfl R3.out Try.underlying37 rfl info_w rfl ?_
      unfold DOut
      rw [HR.out]
      exact ⟨R0.out, A9, k9, B9, d9, C9, e9, by rw [← HLM.out, ← HLQ.out, ← HLI.out]; rfl, RM.out, RQ.out⟩
end Go.Proofs.Ythkkmnckidfmkaa.hy
