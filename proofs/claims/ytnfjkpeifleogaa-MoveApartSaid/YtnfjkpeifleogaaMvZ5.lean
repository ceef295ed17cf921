/- Moves: the copy that MoveApart writes into: what the walk knows of it; no condition. -/
import Derived.Test.YtnfjkpeifleogaaRows
import Derived.Test.YtnfjkpeifleogaaMvZ2
import Derived.Test.YtnfjkpeifleogaaMvZ3
import Derived.Test.YtnfjkpeifleogaaMvZ4
namespace Go.Proofs.Ytnfjkpeifleogaa.mv
open Go Go.ChangeShapes Go.WideShapes Go.ChangeAt Go.RowKit Go.Proofs.Ytnfjkpeifleogaa.rows
theorem byte_of (t : Int) (h0 : 0 ≤ t) (h1 : t < 256) : ∃ b : UInt8, (b.toNat : Int) = t := by
  refine ⟨UInt8.ofNat t.toNat, ?_⟩
  have : (UInt8.ofNat t.toNat).toNat = t.toNat := by simp; omega
  omega
/-- A message of one byte, just laid, and the row that holds it alone. -/
theorem msg_new (w : World) (b : UInt8) (o : Obj) {mid : Nat} (h : mid ≤ w.heap.size) : MsgAt mid ((w.alloc (.cells #[.int .u8 (b.toNat : Int)] 5)).alloc o).drew.heap.size ((w.alloc (.cells #[.int .u8 (b.toNat : Int)] 5)).alloc o).drew (.slice (some ⟨w.heap.size, 0, none⟩) 1 1) [b] := by
  have hg := blk_drew (blk_alloc (blk_new w #[.int .u8 (b.toNat : Int)] 5) o)
  refine ⟨_, 1, rfl, Nat.le_refl _, (fun h => by cases h), .inl ⟨_, rfl⟩, .inr ⟨w.heap.size, 0, _, rfl, h, blk_lt hg, hg, fun j u hu => ?_⟩⟩
  match j, hu with
  | 0, hu => simpa [bcs, Lib.byteCells] using hu
  | j + 1, hu => simp [bcs, Lib.byteCells] at hu
theorem news_new (w : World) (o : Obj) (u : Value) (t : TypeId) : ∀ (j : Nat) (x : Value), [u][j]? = some x → ((w.alloc o).alloc (.cells #[u] t)).drew.cell? ((⟨w.heap.size + 1, 0, none⟩ : Addr).add j) = some x := by
  intro j x hx
  have hg := blk_drew (blk_new2 w o #[u] t)
  match j, hx with
  | 0, hx =>
    rw [Addr.add_lit, blk_cell hg]
    simpa using hx
  | j + 1, hx => simp at hx
theorem ext2d (w : World) (o o2 : Obj) : Below w.heap.size w ((w.alloc o).alloc o2).drew := ((ext1 w o).trans ((ext1 (w.alloc o) o2).mono (ext1 w o).size)).drew
/-- The copy boxed in block gt, its parts in block gp; all else as in v3 below lo. -/
def ApSt (lo mid : Nat) (v3 : World) (gt gp : Nat) (fr : Int) (np ta : Nat) (Tb : Option Addr) (nq tb : Nat) (xs : List Pt) (ys : List Qu) (v : World) : Prop :=
  Below lo v3 v ∧ v.heap[gt]? = some (.cells #[.int .i64 fr, .slice (some ⟨gp, 0, none⟩) np ta, .slice Tb nq tb] 25 (0, 0)) ∧ GrowPS lo mid v (.slice (some ⟨gp, 0, none⟩) np ta) xs ∧ GrowRS lo mid v (.slice Tb nq tb) ys ∧ lo ≤ mid ∧ mid ≤ v.heap.size
section
variable {lo mid : Nat} {v3 : World} {gt gp : Nat} {fr : Int} {np ta : Nat} {Tb : Option Addr} {nq tb : Nat} {xs : List Pt} {ys : List Qu} {v : World}
theorem ApSt.drew (h : ApSt lo mid v3 gt gp fr np ta Tb nq tb xs ys v) : ApSt lo mid v3 gt gp fr np ta Tb nq tb xs ys v.drew := ⟨h.1.drew, h.2⟩
theorem ApSt.below {w : World} (h : ApSt lo mid v3 gt gp fr np ta Tb nq tb xs ys v) (hb : Below v.heap.size v w) : ApSt lo mid v3 gt gp fr np ta Tb nq tb xs ys w :=
  ⟨h.1.trans (hb.mono (Nat.le_trans h.2.2.2.2.1 h.2.2.2.2.2)), blk_below h.2.1 hb (blk_lt h.2.1), h.2.2.1.below hb h.2.2.2.2.2, h.2.2.2.1.below hb, h.2.2.2.2.1, Nat.le_trans h.2.2.2.2.2 hb.size⟩
theorem ApSt.cell (h : ApSt lo mid v3 gt gp fr np ta Tb nq tb xs ys v) {i : Nat} {x : Pt} (hx : xs[i]? = some x) {j : Nat} {u : Value} (hj : ∀ A c, (Pt.cells x A c)[j]? = some u) : v.cell? ⟨gp, i * 14 + j, none⟩ = some u ∧ v.frozen? ⟨gp, i * 14 + j, none⟩ = false := by
  obtain ⟨g, A, d, e, _, hc, hf, _⟩ := h.2.2.1.open hx
  injection e with e; injection e with e; subst e
  exact ⟨hc j u (hj _ _), hf _⟩
theorem ApSt.memc (h : ApSt lo mid v3 gt gp fr np ta Tb nq tb xs ys v) {i : Nat} {x : Pt} (hx : xs[i]? = some x) : ∃ A c, v.cell? ⟨gp, i * 14 + 13, none⟩ = some (.slice A x.mem.length c) := by
  obtain ⟨g, A, d, e, _, hc, hf, _⟩ := h.2.2.1.open hx
  injection e with e; injection e with e; subst e
  exact ⟨A, d, hc 13 _ rfl⟩
theorem ApSt.set (h : ApSt lo mid v3 gt gp fr np ta Tb nq tb xs ys v) {i : Nat} {x x' : Pt} (hx : xs[i]? = some x) {j : Nat} {u : Value} (hj : j < 13) (hc : ∀ A c, Pt.cells x' A c = (Pt.cells x A c).set j u) (hm : x'.mem = x.mem) :
    ApSt lo mid v3 gt gp fr np ta Tb nq tb (xs.set i x') ys (v.setCell ⟨gp, i * 14 + j, none⟩ u) := by
  obtain ⟨g, A, d, e, hl, _, _, ⟨cs, hg⟩, _, hw, _⟩ := h.2.2.1.open hx
  injection e with e; injection e with e; subst e
  have kx := KeptX.set hg (i * 14 + j) u
  exact ⟨h.1.setCell (p := ⟨gp, i * 14 + j, none⟩) hl u, kx.2 _ _ _ (by decide) h.2.1, hw j x' u hj hc hm, h.2.2.2.1.keptX (by decide) (by decide) (by decide) kx, h.2.2.2.2.1, by simpa using h.2.2.2.2.2⟩
theorem ApSt.mem (h : ApSt lo mid v3 gt gp fr np ta Tb nq tb xs ys v) {i : Nat} {x : Pt} (hx : xs[i]? = some x) {r : Nat} (hr : r < x.mem.length) : ∃ gm c z, v.cell? ⟨gp, i * 14 + 13, none⟩ = some (.slice (some ⟨gm, 0, none⟩) x.mem.length c) ∧ v.cell? ⟨gm, r, none⟩ = some (.int .u8 z) ∧ v.frozen? ⟨gm, r, none⟩ = false ∧
    ∀ b : UInt8, ApSt lo mid v3 gt gp fr np ta Tb nq tb (xs.set i { x with mem := x.mem.set r b }) ys (v.setCell ⟨gm, r, none⟩ (.int .u8 (b.toNat : Int))) := by
  obtain ⟨g, A, d, e, hl, hc, _, _, hmsg, _, hw⟩ := h.2.2.1.open hx
  injection e with e; injection e with e; subst e
  have hne : x.mem ≠ [] := by intro e; rw [e] at hr; cases hr
  obtain ⟨gm, rfl, l1, l2⟩ := msg_block hmsg hne
  obtain ⟨A1, c1, ee, k1, k2, k3, k4⟩ := hmsg
  injection ee with eA _ ec
  subst eA; subst ec
  rcases k4 with k4 | ⟨g', off, cs, eg, _, _, hgc, hcc⟩
  · exfalso; apply hne; cases hh2 : x.mem with
    | nil => rfl
    | cons a l => rw [hh2] at k4; cases k4
  injection eg with eg; injection eg with eg1 eg2 _
  subst eg1; subst eg2
  have hz := hcc r _ (bcs_at (List.getElem?_eq_getElem hr))
  rw [Nat.zero_add] at hz
  refine ⟨gm, d, _, hc 13 _ rfl, by rw [blk_cell hgc r]; exact hz, blk_frozen hgc r, fun b => ?_⟩
  have kx := KeptX.set hgc r (.int .u8 (b.toNat : Int))
  exact ⟨h.1.setCell (p := ⟨gm, r, none⟩) l1 _, kx.2 _ _ _ (by decide) h.2.1, hw r b gm hr rfl, h.2.2.2.1.far8 hgc l2 r _, h.2.2.2.2.1, by simpa using h.2.2.2.2.2⟩
theorem ApSt.queue (h : ApSt lo mid v3 gt gp fr np ta Tb nq tb xs ys v) {k : Nat} {q : Qu} (hq : ys[k]? = some q) : ∃ (gq : Nat) (A : Option Addr) (d : Nat) (vs : List Value), Tb = some ⟨gq, 0, none⟩ ∧ (∀ (j : Nat) (u : Value), (Qu.cells q A d)[j]? = some u → v.cell? ⟨gq, k * 6 + j, none⟩ = some u) ∧ (∃ cs, v.heap[gq]? = some (.cells cs 53 (0, 0))) ∧ v.ownsRow mid 38 1 (.slice A q.msgs.length d) q.msgs.length vs ∧
    (∀ (w1 w2 : World) (u : Value) (m : Msg) (g2 c2 : Nat), Below v.heap.size v w1 → MsgAt mid w1.heap.size w1 u m → w2.ownsRow mid 38 1 (.slice (some ⟨g2, 0, none⟩) (q.msgs.length + 1) c2) (q.msgs.length + 1) (vs ++ [u]) → w1.grownBy w2 (Value.ownBlock (.slice A q.msgs.length d)) → (Value.ownBlock (.slice A q.msgs.length d) = some g2 ∨ g2 = w1.heap.size) →
      KeptX 38 w1 w2 ∧ ApSt lo mid v3 gt gp fr np ta Tb nq tb xs (ys.set k { q with msgs := q.msgs ++ [m] }) (w2.setCell ⟨gq, k * 6 + 5, none⟩ (.slice (some ⟨g2, 0, none⟩) (q.msgs.length + 1) c2))) := by
  obtain ⟨g, A, d, vs, rfl, hl, hlt, hc, ⟨cs, hg⟩, hown, hvl, hpush⟩ := h.2.2.2.1.open hq
  refine ⟨g, A, d, vs, rfl, hc, ⟨cs, hg⟩, hown, fun w1 w2 u m g2 c2 hb hu ho hgr hat => ?_⟩
  obtain ⟨KX, hpq⟩ := hpush w1 w2 u m g2 c2 hb hu ho hgr hat
  have h1 := h.below hb
  have kx := KeptX.set (KX.2 _ _ _ (by decide) (blk_below hg hb hlt)) (k * 6 + 5) (.slice (some ⟨g2, 0, none⟩) (q.msgs.length + 1) c2)
  refine ⟨KX, (below_own h1.1 (own_lo (own_below hown hb) h.2.2.2.2.1) hgr (Nat.le_trans h1.2.2.2.2.1 h1.2.2.2.2.2)).setCell (p := ⟨g, k * 6 + 5, none⟩) hl _, kx.2 _ _ _ (by decide) (KX.2 _ _ _ (by decide) h1.2.1), (h1.2.2.1.keptX (by decide) (by decide) KX).keptX (by decide) (by decide) kx, hpq, h.2.2.2.2.1, ?_⟩
  have := KX.1
  have := h1.2.2.2.2.2
  simp; omega
end
end Go.Proofs.Ytnfjkpeifleogaa.mv
