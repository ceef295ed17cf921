/- Moves: the laws' small configuration, and awake; no condition. -/
import Derived.Test.YtnfjkpeifleogaaRows
import Derived.Test.YtnfjkpeifleogaaMvI
import Derived.RegionTactic
namespace Go.Proofs.Ytnfjkpeifleogaa.mv
open Go Go.ChangeShapes Go.WideShapes Go.ChangeAt Go.RowKit Go.Proofs.Ytnfjkpeifleogaa.rows
theorem info_cf : (Try.prog.info? 30).map (·.size) = some 3 := by kernel_rfl
/-- The small configuration, in blocks from s on. -/
def SmallOut (w : World) (e : Ending) (w' : World) : Prop :=
  Below w.heap.size w w' ∧ e = .returned (.agg #[.slice (some ⟨w.heap.size + 1, 0, none⟩) 1 1, .slice (some ⟨w.heap.size + 3, 0, none⟩) 2 2, .slice (some ⟨w.heap.size + 4, 0, none⟩) 1 1]) ∧ w'.heap[w.heap.size + 2]? = some (.cells #[.int .u8 1] 5 (0, 0)) ∧ w'.heap[w.heap.size + 3]? = some (.cells #[.int .i64 1, .int .i64 0, .int .i64 16, .bool true, .slice (some ⟨w.heap.size + 2, 0, none⟩) 1 1, .int .i64 2, .int .i64 16, .int .i64 16, .bool false, .slice none 0 0] 40 (0, 0)) ∧ w'.heap[w.heap.size + 4]? = some (.cells #[.int .i64 1, .int .i64 1, .int .i64 2, .int .i64 1, .int .i64 4] 50 (0, 0))
set_option maxRecDepth 100000 in
set_option maxHeartbeats 4000000 in
theorem small (w : World) : Calls Try.prog 23 #[] w (SmallOut w) := by
  have hB := (((((Below.refl w.heap.size w).alloc (Nat.le_refl _) (.cells #[.slice none 0 0, .slice none 0 0, .slice none 0 0] 30)).alloc (by simp) (.cells #[.int .i64 4, .int .i64 1] 70)).alloc (by simp; omega) (.cells #[.int .u8 1] 5)).alloc (by simp; omega) (.cells #[.int .i64 1, .int .i64 0, .int .i64 16, .bool true, .slice (some ⟨w.heap.size + 2, 0, none⟩) 1 1, .int .i64 2, .int .i64 16, .int .i64 16, .bool false, .slice none 0 0] 40)).alloc (by simp; omega) (.cells #[.int .i64 1, .int .i64 1, .int .i64 2, .int .i64 1, .int .i64 4] 50)
  have G0 := Lib.hid (blk_alloc (blk_alloc (blk_alloc (blk_alloc (blk_new w #[.slice none 0 0, .slice none 0 0, .slice none 0 0] 30) (.cells #[.int .i64 4, .int .i64 1] 70)) (.cells #[.int .u8 1] 5)) (.cells #[.int .i64 1, .int .i64 0, .int .i64 16, .bool true, .slice (some ⟨w.heap.size + 2, 0, none⟩) 1 1, .int .i64 2, .int .i64 16, .int .i64 16, .bool false, .slice none 0 0] 40)) (.cells #[.int .i64 1, .int .i64 1, .int .i64 2, .int .i64 1, .int .i64 4] 50))
  have G2 := Lib.hid (blk_alloc (blk_alloc (show (((w.alloc (.cells #[.slice none 0 0, .slice none 0 0, .slice none 0 0] 30)).alloc (.cells #[.int .i64 4, .int .i64 1] 70)).alloc (.cells #[.int .u8 1] 5)).heap[w.heap.size + 2]? = some (.cells #[.int .u8 1] 5 (0, 0)) by have := blk_new ((w.alloc (.cells #[.slice none 0 0, .slice none 0 0, .slice none 0 0] 30)).alloc (.cells #[.int .i64 4, .int .i64 1] 70)) #[.int .u8 1] 5; simpa using this) (.cells #[.int .i64 1, .int .i64 0, .int .i64 16, .bool true, .slice (some ⟨w.heap.size + 2, 0, none⟩) 1 1, .int .i64 2, .int .i64 16, .int .i64 16, .bool false, .slice none 0 0] 40)) (.cells #[.int .i64 1, .int .i64 1, .int .i64 2, .int .i64 1, .int .i64 4] 50))
  have G3 := Lib.hid (blk_alloc (show ((((w.alloc (.cells #[.slice none 0 0, .slice none 0 0, .slice none 0 0] 30)).alloc (.cells #[.int .i64 4, .int .i64 1] 70)).alloc (.cells #[.int .u8 1] 5)).alloc (.cells #[.int .i64 1, .int .i64 0, .int .i64 16, .bool true, .slice (some ⟨w.heap.size + 2, 0, none⟩) 1 1, .int .i64 2, .int .i64 16, .int .i64 16, .bool false, .slice none 0 0] 40)).heap[w.heap.size + 3]? = some (.cells #[.int .i64 1, .int .i64 0, .int .i64 16, .bool true, .slice (some ⟨w.heap.size + 2, 0, none⟩) 1 1, .int .i64 2, .int .i64 16, .int .i64 16, .bool false, .slice none 0 0] 40 (0, 0)) by have := blk_new (((w.alloc (.cells #[.slice none 0 0, .slice none 0 0, .slice none 0 0] 30)).alloc (.cells #[.int .i64 4, .int .i64 1] 70)).alloc (.cells #[.int .u8 1] 5)) #[.int .i64 1, .int .i64 0, .int .i64 16, .bool true, .slice (some ⟨w.heap.size + 2, 0, none⟩) 1 1, .int .i64 2, .int .i64 16, .int .i64 16, .bool false, .slice none 0 0] 40; simpa using this) (.cells #[.int .i64 1, .int .i64 1, .int .i64 2, .int .i64 1, .int .i64 4] 50))
  have G4 := Lib.hid (show (((((w.alloc (.cells #[.slice none 0 0, .slice none 0 0, .slice none 0 0] 30)).alloc (.cells #[.int .i64 4, .int .i64 1] 70)).alloc (.cells #[.int .u8 1] 5)).alloc (.cells #[.int .i64 1, .int .i64 0, .int .i64 16, .bool true, .slice (some ⟨w.heap.size + 2, 0, none⟩) 1 1, .int .i64 2, .int .i64 16, .int .i64 16, .bool false, .slice none 0 0] 40)).alloc (.cells #[.int .i64 1, .int .i64 1, .int .i64 2, .int .i64 1, .int .i64 4] 50)).heap[w.heap.size + 4]? = some (.cells #[.int .i64 1, .int .i64 1, .int .i64 2, .int .i64 1, .int .i64 4] 50 (0, 0)) by have := blk_new ((((w.alloc (.cells #[.slice none 0 0, .slice none 0 0, .slice none 0 0] 30)).alloc (.cells #[.int .i64 4, .int .i64 1] 70)).alloc (.cells #[.int .u8 1] 5)).alloc (.cells #[.int .i64 1, .int .i64 0, .int .i64 16, .bool true, .slice (some ⟨w.heap.size + 2, 0, none⟩) 1 1, .int .i64 2, .int .i64 16, .int .i64 16, .bool false, .slice none 0 0] 40)) #[.int .i64 1, .int .i64 1, .int .i64 2, .int .i64 1, .int .i64 4] 50; simpa using this)
  have HB := Lib.hid hB
  clear hB
  go_enter Try.func23, Try.ntmps23
  go_wp2_with (refine wpList_store_at rfl 30 (.tmp 0) (.tmp 11) rfl w.heap.size #[.slice (some ⟨w.heap.size + 1, 0, none⟩) 1 1, .slice (some ⟨w.heap.size + 3, 0, none⟩) 2 2, .slice (some ⟨w.heap.size + 4, 0, none⟩) 1 1] rfl rfl 30 _ G0.out info_cf rfl (by simp [Value.oneCell']) ?_)
  intro w3 hw3
  have B3 := Lib.hid (below_row HB.out (Nat.le_refl _) #[.slice (some ⟨w.heap.size + 1, 0, none⟩) 1 1, .slice (some ⟨w.heap.size + 3, 0, none⟩) 2 2, .slice (some ⟨w.heap.size + 4, 0, none⟩) 1 1])
  have G3' := Lib.hid (blk_row G0.out #[.slice (some ⟨w.heap.size + 1, 0, none⟩) 1 1, .slice (some ⟨w.heap.size + 3, 0, none⟩) 2 2, .slice (some ⟨w.heap.size + 4, 0, none⟩) 1 1])
  have R2 := Lib.hid (blk_row_ne G2.out (show w.heap.size + 2 ≠ w.heap.size by omega) #[.slice (some ⟨w.heap.size + 1, 0, none⟩) 1 1, .slice (some ⟨w.heap.size + 3, 0, none⟩) 2 2, .slice (some ⟨w.heap.size + 4, 0, none⟩) 1 1])
  have R3 := Lib.hid (blk_row_ne G3.out (show w.heap.size + 3 ≠ w.heap.size by omega) #[.slice (some ⟨w.heap.size + 1, 0, none⟩) 1 1, .slice (some ⟨w.heap.size + 3, 0, none⟩) 2 2, .slice (some ⟨w.heap.size + 4, 0, none⟩) 1 1])
  have R4 := Lib.hid (blk_row_ne G4.out (show w.heap.size + 4 ≠ w.heap.size by omega) #[.slice (some ⟨w.heap.size + 1, 0, none⟩) 1 1, .slice (some ⟨w.heap.size + 3, 0, none⟩) 2 2, .slice (some ⟨w.heap.size + 4, 0, none⟩) 1 1])
  rw [← hw3.out] at B3 G3' R2 R3 R4
  clear hw3
  go_wp2
  refine ret_row rfl w.heap.size 30 _ _ rfl G3'.out Try.underlying30 rfl info_cf rfl ?_
  exact ⟨B3.out, rfl, R2.out, R3.out, R4.out⟩
theorem two_of {α : Type} {us : List (Sl α)} {x y : α} (h : us.map (·.1) = [x, y]) : ∃ A1 c1 A2 c2, us = [(x, A1, c1), (y, A2, c2)] := by
  match us, h with
  | [(_, A1, c1), (_, A2, c2)], h => simp at h; obtain ⟨rfl, rfl⟩ := h; exact ⟨A1, c1, A2, c2, rfl⟩
theorem one_of {α : Type} {us : List (Sl α)} {x : α} (h : us.map (·.1) = [x]) : ∃ A1 c1, us = [(x, A1, c1)] := by
  match us, h with
  | [(_, A1, c1)], h => simp at h; obtain rfl := h; exact ⟨A1, c1, rfl⟩
theorem grow2 {lo c : Nat} {w : World} {A : Option Addr} {x y : Pt} (h : GrowP lo w (.slice A 2 c) [x, y]) : ∃ g A1 c1 A2 c2 cur, A = some ⟨g, 0, none⟩ ∧ lo ≤ g ∧ w.heap[g]? = some (.cells cur 44 (0, 0)) ∧ cur.toList.take 28 = Pt.cells x A1 c1 ++ Pt.cells y A2 c2 ∧ MsgAt lo w.heap.size w (.slice A1 x.mem.length c1) x.mem ∧ MsgAt lo w.heap.size w (.slice A2 y.mem.length c2) y.mem := by
  obtain ⟨us, h1, h2, h3⟩ := h
  obtain ⟨A1, c1, A2, c2, rfl⟩ := two_of h1
  rcases h2.2 with ⟨_, hn⟩ | ⟨g, cap, cur, hv, hlo, hg, _, _, _, hc⟩
  · cases hn
  · injection hv with hA _ _
    exact ⟨g, A1, c1, A2, c2, cur, hA, hlo, hg, hc, h3 (x, A1, c1) (by simp), h3 (y, A2, c2) (by simp)⟩
theorem growq {lo c : Nat} {w : World} {A : Option Addr} {q : Qu} (h : GrowQ lo w (.slice A 1 c) [q]) : ∃ g A1 c1 cur, A = some ⟨g, 0, none⟩ ∧ lo ≤ g ∧ w.heap[g]? = some (.cells cur 53 (0, 0)) ∧ cur.toList.take 6 = Qu.cells q A1 c1 := by
  obtain ⟨us, h1, h2, h3⟩ := h
  obtain ⟨A1, c1, rfl⟩ := one_of h1
  rcases h2.2 with ⟨_, hn⟩ | ⟨g, cap, cur, hv, hlo, hg, _, _, _, hc⟩
  · cases hn
  · injection hv with hA _ _
    exact ⟨g, A1, c1, cur, hA, hlo, hg, by simpa [flat] using hc⟩
theorem take_cell {w : World} {g n : Nat} {cur : Array Value} {t : TypeId} {L : List Value} (hg : w.heap[g]? = some (.cells cur t (0, 0))) (h : cur.toList.take n = L) {j : Nat} {v : Value} (hv : L[j]? = some v) : w.cell? ⟨g, j, none⟩ = some v := by
  rw [blk_cell hg j, ← Array.getElem?_toList]
  rw [← h, List.getElem?_take] at hv
  split at hv
  · exact hv
  · cases hv
theorem take_rd {w : World} {g n : Nat} {cur : Array Value} {t : TypeId} {L : List Value} (hg : w.heap[g]? = some (.cells cur t (0, 0))) (h : cur.toList.take n = L) : Rd w (some ⟨g, 0, none⟩) L :=
  .inr ⟨g, 0, rfl, blk_lt hg, fun j u hu => by rw [Nat.zero_add]; exact take_cell hg h hu⟩
theorem blk_rd {w : World} {g : Nat} {cur : Array Value} {t : TypeId} (hg : w.heap[g]? = some (.cells cur t (0, 0))) : Rd w (some ⟨g, 0, none⟩) cur.toList :=
  .inr ⟨g, 0, rfl, blk_lt hg, fun j u hu => by rw [Nat.zero_add, blk_cell hg j]; simpa using hu⟩
theorem take_set {cur : Array Value} {n i : Nat} {L : List Value} {u : Value} (h : cur.toList.take n = L) : (cur.setIfInBounds i u).toList.take n = L.set i u := by
  rw [Array.toList_setIfInBounds, List.take_set, h]
theorem msg_in {lo hi c : Nat} {w : World} {A : Option Addr} {l : Msg} (h : MsgAt lo hi w (.slice A l.length c) l) : l.length ≤ c ∧ (A = none → c = 0) ∧ Rd w A (bcs l) := by
  obtain ⟨A', c', e, h1, h2, _, h4⟩ := h
  injection e with eA _ ec
  subst eA; subst ec
  exact ⟨h1, h2, h4.rd⟩
theorem pts_two {w : World} {g : Nat} {cur : Array Value} {x y : Pt} {A1 A2 : Option Addr} {c1 c2 lo hi lo2 hi2 : Nat} (hg : w.heap[g]? = some (.cells cur 44 (0, 0))) (h : cur.toList.take 28 = Pt.cells x A1 c1 ++ Pt.cells y A2 c2) (h1 : MsgAt lo hi w (.slice A1 x.mem.length c1) x.mem) (h2 : MsgAt lo2 hi2 w (.slice A2 y.mem.length c2) y.mem) : Pts w (some ⟨g, 0, none⟩) [x, y] :=
  ⟨[(x, A1, c1), (y, A2, c2)], rfl, by simpa [flat] using take_rd hg h, fun u hu => by
    simp at hu
    rcases hu with rfl | rfl
    · exact msg_in h1
    · exact msg_in h2⟩
theorem qus_one {w : World} {g g2 g3 : Nat} {cur : Array Value} {c : Ch} (hg : w.heap[g]? = some (.cells cur 53 (0, 0))) (h : cur.toList.take 6 = Qu.cells ⟨c, [[5]]⟩ (some ⟨g2, 0, none⟩) 1) (h2 : w.heap[g2]? = some (.cells #[.slice (some ⟨g3, 0, none⟩) 1 1] 38 (0, 0))) (h3 : w.heap[g3]? = some (.cells #[.int .u8 5] 5 (0, 0))) : Qus w (some ⟨g, 0, none⟩) [⟨c, [[5]]⟩] :=
  ⟨[(⟨c, [[5]]⟩, some ⟨g2, 0, none⟩, 1)], rfl, by simpa [flat] using take_rd hg h, fun u hu => by
    simp at hu; subst hu
    refine ⟨Nat.le_refl _, (fun e => by cases e), [.slice (some ⟨g3, 0, none⟩) 1 1], rfl, blk_rd h2, fun k l hk => ?_⟩
    match k, hk with
    | 0, hk =>
      simp at hk; subst hk
      exact ⟨some ⟨g3, 0, none⟩, 1, rfl, Nat.le_refl _, (fun e => by cases e), blk_rd h3⟩⟩
theorem pns_two {w : World} {gP gI : Nat} (b s : Int) (k : Bool) (hg : w.heap[gP]? = some (.cells #[.int .i64 1, .int .i64 b, .int .i64 s, .bool k, .slice (some ⟨gI, 0, none⟩) 1 1, .int .i64 2, .int .i64 16, .int .i64 16, .bool false, .slice none 0 0] 40 (0, 0))) (h2 : w.heap[gI]? = some (.cells #[.int .u8 1] 5 (0, 0))) : Pns w (some ⟨gP, 0, none⟩) [⟨1, b, s, k, [1]⟩, ⟨2, 16, 16, false, []⟩] :=
  ⟨[(⟨1, b, s, k, [1]⟩, some ⟨gI, 0, none⟩, 1), (⟨2, 16, 16, false, []⟩, none, 0)], rfl, blk_rd hg, fun u hu => by
    simp at hu
    rcases hu with rfl | rfl
    · exact ⟨Nat.le_refl _, (fun e => by cases e), blk_rd h2⟩
    · exact ⟨Nat.le_refl _, fun _ => rfl, Rd.nil⟩⟩
theorem ch_one {w : World} {g : Nat} (hg : w.heap[g]? = some (.cells #[.int .i64 1, .int .i64 1, .int .i64 2, .int .i64 1, .int .i64 4] 50 (0, 0))) : Rd w (some ⟨g, 0, none⟩) (chCells [⟨1, 1, 2, 1, 4⟩]) := blk_rd hg
theorem Pts.nil {w : World} {A : Option Addr} : Pts w A [] := Rws.nil
theorem Qus.nil {w : World} {A : Option Addr} : Qus w A [] := Rws.nil
end Go.Proofs.Ytnfjkpeifleogaa.mv
