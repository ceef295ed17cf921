/- Moves: an answer's own memory, written over; no condition. -/
import Derived.Test.YtnfjkpeifleogaaRows
import Derived.Test.YtnfjkpeifleogaaMvU
import Derived.Test.YtnfjkpeifleogaaLibC
namespace Go.Proofs.Ytnfjkpeifleogaa.mv
open Go Go.ChangeShapes Go.WideShapes Go.ChangeAt Go.RowKit Go.Proofs.Ytnfjkpeifleogaa.rows
theorem rowin_bys {lo hi : Nat} {w : World} {A : Option Addr} {l : Msg} (hs : (∃ g, A = some ⟨g, 0, none⟩) ∨ l = []) (h : RowIn 5 lo hi w A (bcs l)) : BysIn 5 lo hi w A l.length := by
  rcases hs with ⟨g, rfl⟩ | rfl
  · rcases h with h | ⟨g', off, cs, e, h1, h2, hg, hc⟩
    · left
      have := congrArg List.length h
      rw [bcs_length] at this
      simpa using this
    · injection e with e; injection e with e1 e2 _
      subst e1; subst e2
      refine .inr ⟨g, cs, rfl, h1, h2, hg, fun j hj => ?_⟩
      have := hc j _ (bcs_at (List.getElem?_eq_getElem hj))
      rw [Nat.zero_add] at this
      exact ⟨_, this⟩
  · exact .inl rfl
/-- Parts' memory and queues' messages: bytes, whatever they are. -/
def SpB (lo hi : Nat) (us : List (Sl Pt)) (us2 : List (Sl Qu)) (w : World) : Prop :=
  (∀ u ∈ us, BysIn 5 lo hi w u.2.1 u.1.mem.length) ∧ ∀ u ∈ us2, ∃ vs, RowIn 38 lo hi w u.2.1 vs ∧ ∀ (k : Nat) (l : Msg), u.1.msgs[k]? = some l → ∃ A' c', vs[k]? = some (.slice A' l.length c') ∧ BysIn 5 lo hi w A' l.length
def Spo (lo : Nat) (us : List (Sl Pt)) (us2 : List (Sl Qu)) (v w : World) : Prop := KeptX 5 v w ∧ Below lo v w ∧ SpB lo v.heap.size us us2 w
theorem Spo.set {lo : Nat} {us : List (Sl Pt)} {us2 : List (Sl Qu)} {v w : World} (h : Spo lo us us2 v w) {g : Nat} {cs : Array Value} (hg : w.heap[g]? = some (.cells cs 5 (0, 0))) (hl : lo ≤ g) (k : Nat) (z : Int) : Spo lo us us2 v (w.setCell ⟨g, k, none⟩ (.int .u8 z)) :=
  ⟨h.1.trans (KeptX.set hg k _), h.2.1.setCell (p := ⟨g, k, none⟩) hl _, fun u hu => (h.2.2.1 u hu).set g k z, fun u hu => by
    obtain ⟨vs, h1, h2⟩ := h.2.2.2 u hu
    refine ⟨vs, RowIn.keptX h1 (by decide) (KeptX.set hg k _), fun i l hi => ?_⟩
    obtain ⟨A, c, e1, e2⟩ := h2 i l hi
    exact ⟨A, c, e1, e2.set g k z⟩⟩
theorem Spo.start {lo : Nat} {us : List (Sl Pt)} {us2 : List (Sl Qu)} {v : World} (h : ∀ u ∈ us, ownB lo v.heap.size v u.2.1 u.2.2 u.1) (h2 : ∀ u ∈ us2, ownM lo v.heap.size v u.2.1 u.2.2 u.1) : Spo lo us us2 v v :=
  ⟨KeptX.refl _ _, Below.refl _ _, fun u hu => by
    obtain ⟨A, c, e, _, _, e4, e5⟩ := h u hu
    injection e with eA _ _
    rw [eA]; exact rowin_bys e4 e5, fun u hu => by
    obtain ⟨_, _, vs, _, e2, e3⟩ := h2 u hu
    refine ⟨vs, e2, fun k l hk => ?_⟩
    obtain ⟨A, c, k1, _, _, k4, k5⟩ := e3 k l hk
    exact ⟨A, c, k1, rowin_bys k4 k5⟩⟩
theorem own_blkX {α : Type} {cs : α → Option Addr → Nat → List Value} {T : TypeId} {sz lo n c : Nat} {w : World} {A : Option Addr} {us : List (Sl α)} (ho : w.ownsRow lo T sz (.slice A n c) n (flat cs us)) (hn : 0 < n) :
    ∃ g cur, A = some ⟨g, 0, none⟩ ∧ w.heap[g]? = some (.cells cur T (0, 0)) ∧ cur.toList.take (n * sz) = flat cs us := by
  rcases ho.2 with ⟨_, h0⟩ | ⟨g, cap, cur, hv, _, hg, _, _, _, hc⟩
  · omega
  · injection hv with hA _ _
    exact ⟨g, cur, hA, hg, hc⟩
end Go.Proofs.Ytnfjkpeifleogaa.mv
