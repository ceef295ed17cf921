/- Calls of a partition: a queue's channel written over; no condition. -/
import Derived.Test.YthkkmnckidfmkaaRows
import Derived.Test.YthkkmnckidfmkaaHyH
import Derived.Test.YthkkmnckidfmkaaHyV
import Derived.Test.YthkkmnckidfmkaaHyW
import Derived.Deep.CutRange
import Derived.Deep.RegionHeld3
import Derived.BigRegion
import Derived.Deep.Light
import Derived.RegionTactic
namespace Go.Proofs.Ythkkmnckidfmkaa.hy
open Go Go.ChangeShapes Go.WideShapes Go.ChangeAt Go.RowKit Go.Proofs.Ythkkmnckidfmkaa.rows
abbrev set5o (w : World) (g o : Nat) (u0 u1 u2 u3 u4 : Value) : World := ((((w.setCell ⟨g, o, none⟩ u0).setCell ⟨g, o + 1, none⟩ u1).setCell ⟨g, o + 2, none⟩ u2).setCell ⟨g, o + 3, none⟩ u3).setCell ⟨g, o + 4, none⟩ u4
abbrev put5 (cs : Array Value) (o : Nat) (u0 u1 u2 u3 u4 : Value) : Array Value := ((((cs.setIfInBounds o u0).setIfInBounds (o + 1) u1).setIfInBounds (o + 2) u2).setIfInBounds (o + 3) u3).setIfInBounds (o + 4) u4
theorem put5_get {cs : Array Value} {k j : Nat} {u0 u1 u2 u3 u4 v : Value} (hs : k * 6 + 5 < cs.size) (h : if j / 6 = k ∧ j % 6 < 5 then [u0, u1, u2, u3, u4][j % 6]? = some v else cs[j]? = some v) : (put5 cs (k * 6) u0 u1 u2 u3 u4)[j]? = some v := by
  simp only [put5, Array.getElem?_setIfInBounds, Array.size_setIfInBounds]
  by_cases hj : j / 6 = k ∧ j % 6 < 5
  · rw [if_pos hj] at h
    have hr : j % 6 < 5 := hj.2
    have ej : j = k * 6 + j % 6 := by have := hj.1; omega
    generalize j % 6 = r at *
    subst ej
    match r, hr, h with
    | 0, _, h => simpa [show k * 6 < cs.size by omega] using h
    | 1, _, h => simpa [show k * 6 + 1 < cs.size by omega] using h
    | 2, _, h => simpa [show k * 6 + 2 < cs.size by omega] using h
    | 3, _, h => simpa [show k * 6 + 3 < cs.size by omega] using h
    | 4, _, h => simpa [show k * 6 + 4 < cs.size by omega] using h
  · rw [if_neg hj] at h
    rw [if_neg (by omega), if_neg (by omega), if_neg (by omega), if_neg (by omega), if_neg (by omega)]
    exact h
/-- Another channel in a queue's place. -/
theorem CRow.setCh {lo gq : Nat} {w : World} {us : List (Sl Qu)} (h : CRow lo gq w us) {k : Nat} {u : Sl Qu} (hu : us[k]? = some u) (c : Ch) :
    CRow lo gq (set5o w gq (k * 6) (.int .i64 c.id) (.int .i64 c.fr) (.int .i64 c.to) (.int .i64 c.cap) (.int .i64 c.sz)) (us.set k (⟨c, u.1.msgs⟩, u.2)) ∧ KeptX 36 w (set5o w gq (k * 6) (.int .i64 c.id) (.int .i64 c.fr) (.int .i64 c.to) (.int .i64 c.cap) (.int .i64 c.sz)) ∧ ∀ (B : Nat) (a : World), Below B a w → B ≤ gq → Below B a (set5o w gq (k * 6) (.int .i64 c.id) (.int .i64 c.fr) (.int .i64 c.to) (.int .i64 c.cap) (.int .i64 c.sz)) := by
  obtain ⟨h1, cs, h2, h3⟩ := h
  have hk := (List.getElem?_eq_some_iff.1 hu).1
  have hs := (Array.getElem?_eq_some_iff.1 (h3 (k * 6 + 5) _ (flat_at Qu.cells 6 qu_len us k u hu 5 _ rfl))).1
  have g1 := blk_set h2 (k * 6) (.int .i64 c.id)
  have g2 := blk_set g1 (k * 6 + 1) (.int .i64 c.fr)
  have g3 := blk_set g2 (k * 6 + 2) (.int .i64 c.to)
  have g4 := blk_set g3 (k * 6 + 3) (.int .i64 c.cap)
  have g5 := blk_set g4 (k * 6 + 4) (.int .i64 c.sz)
  refine ⟨⟨h1, _, g5, fun j v hv => ?_⟩, (KeptX.set h2 _ _).trans ((KeptX.set g1 _ _).trans ((KeptX.set g2 _ _).trans ((KeptX.set g3 _ _).trans (KeptX.set g4 _ _)))), fun B a hb hB => belowS (belowS (belowS (belowS (belowS hb hB _ _) hB _ _) hB _ _) hB _ _) hB _ _⟩
  refine put5_get hs ?_
  rw [flat_get, List.getElem?_set] at hv
  by_cases hj : j / 6 = k
  · rw [if_pos hj.symm, if_pos hk] at hv
    by_cases h5 : j % 6 < 5
    · rw [if_pos ⟨hj, h5⟩]
      have hr : j % 6 < 5 := h5
      generalize j % 6 = r at *
      match r, hr, hv with
      | 0, _, hv => exact hv
      | 1, _, hv => exact hv
      | 2, _, hv => exact hv
      | 3, _, hv => exact hv
      | 4, _, hv => exact hv
    · rw [if_neg (fun h => h5 h.2)]
      refine h3 j v ?_
      rw [flat_get, hj, hu]
      have hr : j % 6 = 5 := by have := Nat.mod_lt j (show 6 > 0 by decide); omega
      rw [hr] at hv ⊢
      exact hv
  · rw [if_neg (fun h => hj h.1)]
    rw [if_neg (fun e => hj e.symm), ← flat_get] at hv
    exact h3 j v hv
theorem CRow.keptX {lo gq : Nat} {w w' : World} {us : List (Sl Qu)} {T0 : TypeId} (h : CRow lo gq w us) (hT : 36 ≠ T0) (k : KeptX T0 w w') : CRow lo gq w' us := by
  obtain ⟨h1, cs, h2, h3⟩ := h
  exact ⟨h1, cs, k.2 _ _ _ hT h2, h3⟩
theorem CRow.rd {lo gq : Nat} {w : World} {us : List (Sl Qu)} (h : CRow lo gq w us) : Rd w (some ⟨gq, 0, none⟩) (flat Qu.cells us) := by
  obtain ⟨h1, cs, h2, h3⟩ := h
  exact .inr ⟨gq, 0, rfl, blk_lt h2, fun j u hu => by rw [Nat.zero_add, blk_cell h2]; exact h3 j u hu⟩
theorem take_set_succ {α : Type} : ∀ (l m : List α) (k : Nat) (a : α), l.take k = m.take k → k < l.length → m[k]? = some a → (l.set k a).take (k + 1) = m.take (k + 1)
  | [], _, _, _, _, h, _ => absurd h (Nat.not_lt_zero _)
  | _ :: _, [], _, _, _, _, h => by simp at h
  | x :: l, y :: m, 0, a, _, _, h => by simp at h; simp [h]
  | x :: l, y :: m, k + 1, a, h, hk, hm => by
    simp only [List.take_succ_cons, List.cons.injEq] at h
    simp only [List.set_cons_succ, List.take_succ_cons, List.cons.injEq]
    exact ⟨h.1, take_set_succ l m k a h.2 (Nat.lt_of_succ_lt_succ hk) (by simpa using hm)⟩
/-- The world whose channels are written over, behind k rounds. -/
def Mid (w : World) (x1 x2 : Array Value) (fr2 tk2 ver2 : Int) (qs : List Qu) (nq : Nat) (Ci2 : Option Addr) (ni2 ci2 : Nat) (k : Nat) (wr : World) : Prop :=
  ∃ (us : List (Sl Qu)) (Bk : Option Addr) (dk : Nat), us.length = nq ∧ (∀ u ∈ us, inM w u.2.1 u.2.2 u.1 ∧ u.1.msgs.length ≤ 1000000 ∧ ∀ m ∈ u.1.msgs, m.length ≤ 1000000) ∧ (us.map (·.1.ch)).take k = (qs.map (·.ch)).take k ∧ Rd wr Bk (flat Qu.cells us) ∧ nq ≤ dk ∧ (Bk = none → dk = 0) ∧
    wr.heap[w.heap.size]? = some (.cells x1 26 (0, 0)) ∧ wr.heap[w.heap.size + 1]? = some (.cells x2 29 (0, 0)) ∧ wr.heap[w.heap.size + 2]? = some (.cells #[.int .i64 fr2, .int .i64 tk2, .int .i64 ver2, .slice Bk nq dk, .slice Ci2 ni2 ci2] 29 (0, 0)) ∧ Below w.heap.size w wr
theorem Mid.next {w : World} {x1 x2 : Array Value} {fr2 tk2 ver2 : Int} {qs : List Qu} {nq : Nat} {Ci2 : Option Addr} {ni2 ci2 k : Nat} {w4 : World} {us : List (Sl Qu)} {gq lo c3 : Nat} {q : Qu} {u : Sl Qu} (m1 : us.length = nq) (m2 : ∀ u ∈ us, inM w u.2.1 u.2.2 u.1 ∧ u.1.msgs.length ≤ 1000000 ∧ ∀ m ∈ u.1.msgs, m.length ≤ 1000000) (m3 : (us.map (·.1.ch)).take k = (qs.map (·.ch)).take k) (hu : us[k]? = some u) (hq : qs[k]? = some q) (hc : CRow lo gq w4 us) (hlo : w.heap.size ≤ lo) (h3 : nq ≤ c3)
    (m7 : w4.heap[w.heap.size]? = some (.cells x1 26 (0, 0))) (m8 : w4.heap[w.heap.size + 1]? = some (.cells x2 29 (0, 0))) (m9 : w4.heap[w.heap.size + 2]? = some (.cells #[.int .i64 fr2, .int .i64 tk2, .int .i64 ver2, .slice (some ⟨gq, 0, none⟩) nq c3, .slice Ci2 ni2 ci2] 29 (0, 0))) (m10 : Below w.heap.size w w4) :
    Mid w x1 x2 fr2 tk2 ver2 qs nq Ci2 ni2 ci2 (k + 1) (set5o w4 gq (k * 6) (.int .i64 q.ch.id) (.int .i64 q.ch.fr) (.int .i64 q.ch.to) (.int .i64 q.ch.cap) (.int .i64 q.ch.sz)) := by
  obtain ⟨r1, r2, r3⟩ := hc.setCh hu q.ch
  have hk := (List.getElem?_eq_some_iff.1 hu).1
  refine ⟨us.set k (⟨q.ch, u.1.msgs⟩, u.2), some ⟨gq, 0, none⟩, c3, by rw [List.length_set]; exact m1, fun y hy => ?_, ?_, r1.rd, h3, (fun h => by cases h), r2.2 _ _ _ (by decide) m7, r2.2 _ _ _ (by decide) m8, r2.2 _ _ _ (by decide) m9, r3 _ _ m10 (Nat.le_trans hlo hc.1)⟩
  · rcases List.mem_or_eq_of_mem_set hy with hy | rfl
    · exact m2 y hy
    · exact m2 u (List.mem_of_getElem? hu)
  · rw [List.map_set]
    exact take_set_succ _ _ k q.ch m3 (by rw [List.length_map]; exact hk) (by rw [List.getElem?_map, hq]; rfl)
theorem Mid.drew {w : World} {x1 x2 : Array Value} {fr2 tk2 ver2 : Int} {qs : List Qu} {nq : Nat} {Ci2 : Option Addr} {ni2 ci2 k : Nat} {wr : World} (h : Mid w x1 x2 fr2 tk2 ver2 qs nq Ci2 ni2 ci2 k wr) : Mid w x1 x2 fr2 tk2 ver2 qs nq Ci2 ni2 ci2 k wr.drew := by
  obtain ⟨us, Bk, dk, m1, m2, m3, m4, m5, m6, m7, m8, m9, m10⟩ := h
  exact ⟨us, Bk, dk, m1, m2, m3, m4.below ((Below.refl _ _).drew), m5, m6, m7, m8, m9, m10.drew⟩
/-- The channels are the other's when all rounds are through. -/
theorem Mid.done {w : World} {x1 x2 : Array Value} {fr2 tk2 ver2 : Int} {qs : List Qu} {nq : Nat} {Ci2 : Option Addr} {ni2 ci2 : Nat} {wr : World} {inp2 : Msg} (h : Mid w x1 x2 fr2 tk2 ver2 qs nq Ci2 ni2 ci2 nq wr) (hnq : qs.length = nq) (hq6 : nq ≤ 1000000) (hs : inp2.length ≤ 1000000) (hi : Rd w Ci2 (bcs inp2) ∧ inp2.length ≤ ci2 ∧ (Ci2 = none → ci2 = 0)) :
    ∃ (qs3 : List Qu) (Bk : Option Addr) (dk : Nat), qs3.length = nq ∧ qs.map (·.ch) = qs3.map (·.ch) ∧ Small qs3 inp2 ∧ WIn wr Bk dk qs3 Ci2 ci2 inp2 ∧
      wr.heap[w.heap.size]? = some (.cells x1 26 (0, 0)) ∧ wr.heap[w.heap.size + 1]? = some (.cells x2 29 (0, 0)) ∧ wr.heap[w.heap.size + 2]? = some (.cells #[.int .i64 fr2, .int .i64 tk2, .int .i64 ver2, .slice Bk nq dk, .slice Ci2 ni2 ci2] 29 (0, 0)) ∧ Below w.heap.size w wr := by
  obtain ⟨us, Bk, dk, m1, m2, m3, m4, m5, m6, m7, m8, m9, m10⟩ := h
  have hl : (us.map (·.1)).length = nq := by rw [List.length_map]; exact m1
  refine ⟨us.map (·.1), Bk, dk, hl, ?_, ⟨by rw [hl]; exact hq6, hs, fun q hq => ?_⟩, ⟨⟨us, rfl, m4, fun u hu => inM_below _ _ _ _ _ (m2 u hu).1 m10⟩, by rw [hl]; exact m5, m6, hi.1.below m10, hi.2⟩, m7, m8, m9, m10⟩
  · have e1 : (us.map (·.1.ch)).take nq = us.map (·.1.ch) := by rw [← m1, ← List.length_map (f := (·.1.ch)), List.take_length]
    have e2 : (qs.map (·.ch)).take nq = qs.map (·.ch) := by rw [← hnq, ← List.length_map (f := (·.ch)), List.take_length]
    rw [e1, e2] at m3
    rw [← m3, List.map_map]; rfl
  · obtain ⟨u, hu, rfl⟩ := List.mem_map.1 hq
    exact (m2 u hu).2
end Go.Proofs.Ythkkmnckidfmkaa.hy
