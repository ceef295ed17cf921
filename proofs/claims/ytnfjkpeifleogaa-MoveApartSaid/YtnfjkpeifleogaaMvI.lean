/- Moves: the laws' bounds: each number once; not great; the small configuration; no condition. -/
import Derived.Test.YtnfjkpeifleogaaRows
import Derived.Test.YtnfjkpeifleogaaMvH
namespace Go.Proofs.Ytnfjkpeifleogaa.mv
open Go Go.ChangeShapes Go.WideShapes Go.ChangeAt Go.RowKit Go.Proofs.Ytnfjkpeifleogaa.rows
/-- A Boolean answer of which something holds. -/
def BOut (g : Bool → Prop) (w : World) (e : Ending) (w' : World) : Prop := ∃ v, e = .returned (.bool v) ∧ g v ∧ Below w.heap.size w w'
/-- No number stands twice. -/
def uniq (l : List Int) : Prop := ∀ (j k : Nat) (x y : Int), j < k → l[j]? = some x → l[k]? = some y → x ≠ y
theorem uniq_step {l : List Int} {k : Nat} {y : Int} (h : ∀ (j i : Nat) (x y : Int), j < i → i < k → l[j]? = some x → l[i]? = some y → x ≠ y) (hy : l[k]? = some y) (h2 : ∀ (j : Nat) (x : Int), j < k → l[j]? = some x → x ≠ y) : ∀ (j i : Nat) (x y : Int), j < i → i < k + 1 → l[j]? = some x → l[i]? = some y → x ≠ y := by
  intro j i x z hj hi hx hz
  rcases Nat.lt_or_eq_of_le (Nat.lt_succ_iff.1 hi) with h3 | rfl
  · exact h j i x z hj h3 hx hz
  · rw [hy] at hz; injection hz with hz; subst hz; exact h2 j x hj hx
set_option maxRecDepth 100000 in
set_option maxHeartbeats 8000000 in
theorem once (fr : Int) (ps : List Pt) (pn : List Pn) (Ap Aq Aw An Ac : Option Addr) (np cp nq cq nw cw nn cn nc cc : Nat) (hnp : ps.length = np) (hnn : pn.length = nn) (h63 : np ≤ 1000000) (h632 : nn ≤ 1000000) (w : World) (h : Pts w Ap ps) (h2 : Pns w An pn) :
    Calls Try.prog 10 #[.agg #[.int .i64 fr, .slice Ap np cp, .slice Aq nq cq], .agg #[.slice Aw nw cw, .slice An nn cn, .slice Ac nc cc]] w (BOut (fun v => v = true → uniq (ps.map (·.id)) ∧ uniq (pn.map (·.id))) w) := by
  have hB2 := (((Below.refl w.heap.size w).alloc (Nat.le_refl _) (.cells #[.int .i64 fr, .slice Ap np cp, .slice Aq nq cq] 25)).alloc (by simp) (.cells #[.slice Aw nw cw, .slice An nn cn, .slice Ac nc cc] 30))
  have hs2 : ((w.alloc (.cells #[.int .i64 fr, .slice Ap np cp, .slice Aq nq cq] 25)).alloc (.cells #[.slice Aw nw cw, .slice An nn cn, .slice Ac nc cc] 30)).heap.size = w.heap.size + 2 := by simp
  have G0 := Lib.hid (blk_alloc (blk_new w #[.int .i64 fr, .slice Ap np cp, .slice Aq nq cq] 25) (.cells #[.slice Aw nw cw, .slice An nn cn, .slice Ac nc cc] 30))
  have G1 := Lib.hid (show ((w.alloc (.cells #[.int .i64 fr, .slice Ap np cp, .slice Aq nq cq] 25)).alloc (.cells #[.slice Aw nw cw, .slice An nn cn, .slice Ac nc cc] 30)).heap[w.heap.size + 1]? = some (.cells #[.slice Aw nw cw, .slice An nn cn, .slice Ac nc cc] 30 (0, 0)) by have := blk_new (w.alloc (.cells #[.int .i64 fr, .slice Ap np cp, .slice Aq nq cq] 25)) #[.slice Aw nw cw, .slice An nn cn, .slice Ac nc cc] 30; simpa using this)
  have HB := Lib.hid hB2; have HS2 := Lib.hid hs2
  have H1 := Lib.hid (h.below hB2); have H2 := Lib.hid (h2.below hB2)
  have HNP := Lib.hid hnp; have HNN := Lib.hid hnn
  have hnpi : (np : Int) ≤ 1000000 := by omega
  have hnni : (nn : Int) ≤ 1000000 := by omega
  clear h h2 hB2 hs2 hnp hnn
  go_enter Try.func10, Try.ntmps10
  go_wp2_with fail
  generalize ((w.alloc (.cells #[.int .i64 fr, .slice Ap np cp, .slice Aq nq cq] 25)).alloc (.cells #[.slice Aw nw cw, .slice An nn cn, .slice Ac nc cc] 30)) = wb at *
  go_loopw [5] (fun iv wr => ∃ k : Nat, k ≤ np ∧ iv = .int .i64 k ∧ (∀ (j i : Nat) (x y : Int), j < i → i < k → (ps.map (·.id))[j]? = some x → (ps.map (·.id))[i]? = some y → x ≠ y) ∧ Below wb.heap.size wb wr) (fun iv _ => np - (intOf iv).toNat)
  case atStart => exact ⟨0, Nat.zero_le _, rfl, (fun j i x y hj hi => absurd hi (Nat.not_lt_zero _)), Below.refl _ _⟩
  case round =>
    obtain ⟨k, hk, rfl, hno, hb⟩ := hrel
    have BR := Lib.hid hb; have HNO := Lib.hid hno
    have a1 := blk_cell (blk_below G0.out hb (blk_lt G0.out)) 1
    clear hb hno
    by_cases hkl : k < np
    · have hki : (k : Int) < (np : Int) := by omega
      obtain ⟨b, off, rfl, hblt⟩ := Rws.addr pt_len (by decide) H1.out (by rw [HNP.out]; omega)
      obtain ⟨x, hx⟩ : ∃ x, ps[k]? = some x := ⟨_, List.getElem?_eq_getElem (by rw [HNP.out]; exact hkl)⟩
      obtain ⟨A0, c0, _, hc⟩ := Rws.at pt_len H1.out hx
      have HX := Lib.hid (show (ps.map (·.id))[k]? = some x.id by rw [List.getElem?_map, hx]; rfl)
      have CX := Lib.hid (show wb.cell? ⟨b, off + k * 14, none⟩ = some (.int .i64 x.id) from hc 0 _ rfl)
      clear hx hc
      go_wp2_with fail
      clear a1
      go_loopw [6] (fun jv wr => ∃ j : Nat, j ≤ k ∧ jv = .int .i64 j ∧ (∀ (i : Nat) (y : Int), i < j → (ps.map (·.id))[i]? = some y → y ≠ x.id) ∧ Below wb.heap.size wb wr) (fun jv _ => k - (intOf jv).toNat)
      case atStart => exact ⟨0, Nat.zero_le _, rfl, (fun i y hi => absurd hi (Nat.not_lt_zero _)), BR.out⟩
      case round =>
        obtain ⟨j, hj, rfl, hny, hb⟩ := hrel
        have BR2 := Lib.hid hb; have HNY := Lib.hid hny
        have a1 := blk_cell (blk_below G0.out hb (blk_lt G0.out)) 1
        have cx := (hb.cell (p := ⟨b, off + k * 14, none⟩) hblt).trans CX.out
        clear hb hny
        by_cases hjl : j < k
        · have hji : (j : Int) < (k : Int) := by omega
          have hjn : (j : Int) < (np : Int) := by omega
          obtain ⟨y, hy⟩ : ∃ y, ps[j]? = some y := ⟨_, List.getElem?_eq_getElem (by rw [HNP.out]; omega)⟩
          obtain ⟨A2, c2, _, hc⟩ := Rws.at pt_len H1.out hy
          have HY := Lib.hid (show (ps.map (·.id))[j]? = some y.id by rw [List.getElem?_map, hy]; rfl)
          have cy := (BR2.out.cell (p := ⟨b, off + j * 14, none⟩) hblt).trans (hc 0 _ rfl)
          clear hy hc
          by_cases hxy : y.id = x.id
          · rw [← hxy] at cx
            have e1 : (y.id == y.id) = true := by simp
            clear hxy
            go_wp2_with fail
            go_quiet (fail)
            go_wp2_with fail
            go_ret
            exact ⟨false, rfl, (fun h => by cases h), HB.out.trans ((below_drewN BR2.out _).mono HB.out.size)⟩
          · have e1 : (y.id == x.id) = false := by rw [beq_eq_false_iff_ne]; exact hxy
            have HXY := Lib.hid hxy; clear hxy
            go_wp2_with fail
            go_quiet (fail)
            go_wp2_with fail
            go_roundw
            case rel => exact ⟨j + 1, by omega, by go_num, (fun i z hi hz => (Nat.lt_or_eq_of_le (Nat.lt_succ_iff.1 hi)).elim (fun h => HNY.out i z h hz) (fun h => by subst h; rw [HY.out] at hz; injection hz with hz; subst hz; exact HXY.out)), below_drewN BR2.out _⟩
            case measure => simp [intOf]; omega
        · have hjk : k = j := by omega
          subst hjk
          go_wp2_with fail
          go_roundw
          case rel => exact ⟨k + 1, by omega, by go_num, uniq_step HNO.out HX.out HNY.out, BR2.out⟩
          case measure => simp [intOf]; omega
    · have hkn : np = k := by omega
      subst hkn
      have HU5 := Lib.hid (show uniq (ps.map (·.id)) from fun j i x y hj hx hy => HNO.out j i x y hj (by have := (List.getElem?_eq_some_iff.1 hy).1; rw [List.length_map, HNP.out] at this; exact this) hx hy)
      have BR1 := BR
      clear BR HNO hkl
      go_wp2_with fail
      clear a1
      go_loopw [7] (fun iv wr => ∃ k : Nat, k ≤ nn ∧ iv = .int .i64 k ∧ (∀ (j i : Nat) (x y : Int), j < i → i < k → (pn.map (·.id))[j]? = some x → (pn.map (·.id))[i]? = some y → x ≠ y) ∧ Below wb.heap.size wb wr) (fun iv _ => nn - (intOf iv).toNat)
      case atStart => exact ⟨0, Nat.zero_le _, rfl, (fun j i x y hj hi => absurd hi (Nat.not_lt_zero _)), BR1.out⟩
      case round =>
        obtain ⟨k, hk, rfl, hno, hb⟩ := hrel
        have BR := Lib.hid hb; have HNO := Lib.hid hno
        have a1 := blk_cell (blk_below G1.out hb (blk_lt G1.out)) 1
        clear hb hno
        by_cases hkl : k < nn
        · have hki : (k : Int) < (nn : Int) := by omega
          obtain ⟨b, off, rfl, hblt⟩ := Rws.addr pn_len (by decide) H2.out (by rw [HNN.out]; omega)
          obtain ⟨x, hx⟩ : ∃ x, pn[k]? = some x := ⟨_, List.getElem?_eq_getElem (by rw [HNN.out]; exact hkl)⟩
          obtain ⟨A0, c0, _, hc⟩ := Rws.at pn_len H2.out hx
          have HX := Lib.hid (show (pn.map (·.id))[k]? = some x.id by rw [List.getElem?_map, hx]; rfl)
          have CX := Lib.hid (show wb.cell? ⟨b, off + k * 5, none⟩ = some (.int .i64 x.id) from hc 0 _ rfl)
          clear hx hc
          go_wp2_with fail
          clear a1
          go_loopw [8] (fun jv wr => ∃ j : Nat, j ≤ k ∧ jv = .int .i64 j ∧ (∀ (i : Nat) (y : Int), i < j → (pn.map (·.id))[i]? = some y → y ≠ x.id) ∧ Below wb.heap.size wb wr) (fun jv _ => k - (intOf jv).toNat)
          case atStart => exact ⟨0, Nat.zero_le _, rfl, (fun i y hi => absurd hi (Nat.not_lt_zero _)), BR.out⟩
          case round =>
            obtain ⟨j, hj, rfl, hny, hb⟩ := hrel
            have BR2 := Lib.hid hb; have HNY := Lib.hid hny
            have a1 := blk_cell (blk_below G1.out hb (blk_lt G1.out)) 1
            have cx := (hb.cell (p := ⟨b, off + k * 5, none⟩) hblt).trans CX.out
            clear hb hny
            by_cases hjl : j < k
            · have hji : (j : Int) < (k : Int) := by omega
              have hjn : (j : Int) < (nn : Int) := by omega
              obtain ⟨y, hy⟩ : ∃ y, pn[j]? = some y := ⟨_, List.getElem?_eq_getElem (by rw [HNN.out]; omega)⟩
              obtain ⟨A2, c2, _, hc⟩ := Rws.at pn_len H2.out hy
              have HY := Lib.hid (show (pn.map (·.id))[j]? = some y.id by rw [List.getElem?_map, hy]; rfl)
              have cy := (BR2.out.cell (p := ⟨b, off + j * 5, none⟩) hblt).trans (hc 0 _ rfl)
              clear hy hc
              by_cases hxy : y.id = x.id
              · rw [← hxy] at cx
                have e1 : (y.id == y.id) = true := by simp
                clear hxy
                go_wp2_with fail
                go_quiet (fail)
                go_wp2_with fail
                go_ret
                exact ⟨false, rfl, (fun h => by cases h), HB.out.trans ((below_drewN BR2.out _).mono HB.out.size)⟩
              · have e1 : (y.id == x.id) = false := by rw [beq_eq_false_iff_ne]; exact hxy
                have HXY := Lib.hid hxy; clear hxy
                go_wp2_with fail
                go_quiet (fail)
                go_wp2_with fail
                go_roundw
                case rel => exact ⟨j + 1, by omega, by go_num, (fun i z hi hz => (Nat.lt_or_eq_of_le (Nat.lt_succ_iff.1 hi)).elim (fun h => HNY.out i z h hz) (fun h => by subst h; rw [HY.out] at hz; injection hz with hz; subst hz; exact HXY.out)), below_drewN BR2.out _⟩
                case measure => simp [intOf]; omega
            · have hjk : k = j := by omega
              subst hjk
              go_wp2_with fail
              go_roundw
              case rel => exact ⟨k + 1, by omega, by go_num, uniq_step HNO.out HX.out HNY.out, BR2.out⟩
              case measure => simp [intOf]; omega
        · have hkn : nn = k := by omega
          subst hkn
          have HU7 := Lib.hid (show uniq (pn.map (·.id)) from fun j i x y hj hx hy => HNO.out j i x y hj (by have := (List.getElem?_eq_some_iff.1 hy).1; rw [List.length_map, HNN.out] at this; exact this) hx hy)
          go_wp2_with fail
          go_ret
          exact ⟨true, rfl, fun _ => ⟨HU5.out, HU7.out⟩, HB.out.trans (BR.out.mono HB.out.size)⟩
/-- What is not great. -/
def Tame (ps : List Pt) (pn : List Pn) (qs : List Qu) (nc : Nat) : Prop := ps.length ≤ 20 ∧ qs.length ≤ 20 ∧ pn.length ≤ 20 ∧ nc ≤ 20 ∧ (∀ x ∈ ps, x.mem.length ≤ 8000) ∧ (∀ q ∈ qs, q.msgs.length ≤ 8000 ∧ ∀ m ∈ q.msgs, m.length ≤ 8000) ∧ (∀ p ∈ pn, p.img.length ≤ 8000)
theorem at_mem {α : Type} {l : List α} {p : α → Prop} {n : Nat} (hn : l.length = n) (h : ∀ (j : Nat) (x : α), j < n → l[j]? = some x → p x) : ∀ x ∈ l, p x := fun x hx => by
  obtain ⟨j, hj⟩ := List.mem_iff_getElem?.1 hx
  exact h j x (by rw [← hn]; exact (List.getElem?_eq_some_iff.1 hj).1) hj
theorem at_step {α : Type} {l : List α} {p : α → Prop} {k : Nat} {y : α} (h : ∀ (j : Nat) (x : α), j < k → l[j]? = some x → p x) (hy : l[k]? = some y) (hp : p y) : ∀ (j : Nat) (x : α), j < k + 1 → l[j]? = some x → p x := fun j x hj hx => by
  rcases Nat.lt_or_eq_of_le (Nat.lt_succ_iff.1 hj) with h3 | rfl
  · exact h j x h3 hx
  · rw [hy] at hx; injection hx with hx; subst hx; exact hp
theorem at_mono {α : Type} {l : List α} {p q : α → Prop} {k : Nat} (h : ∀ (j : Nat) (x : α), j < k → l[j]? = some x → p x) (hpq : ∀ x, p x → q x) : ∀ (j : Nat) (x : α), j < k → l[j]? = some x → q x := fun j x hj hx => hpq _ (h j x hj hx)
set_option maxHeartbeats 2000000 in
theorem great_a (fr : Int) (ps : List Pt) (pn : List Pn) (qs : List Qu) (Ap Aq Aw An Ac : Option Addr) (np cp nq cq nw cw nn cn nc cc : Nat)  (hbad : (20 : Int) < (np : Int)) (w : World) : Calls Try.prog 9 #[.agg #[.int .i64 fr, .slice Ap np cp, .slice Aq nq cq], .agg #[.slice Aw nw cw, .slice An nn cn, .slice Ac nc cc]] w (BOut (fun v => v = false → Tame ps pn qs nc) w) := by
  have hB2 := (((Below.refl w.heap.size w).alloc (Nat.le_refl _) (.cells #[.int .i64 fr, .slice Ap np cp, .slice Aq nq cq] 25)).alloc (by simp) (.cells #[.slice Aw nw cw, .slice An nn cn, .slice Ac nc cc] 30))
  have hs2 : ((w.alloc (.cells #[.int .i64 fr, .slice Ap np cp, .slice Aq nq cq] 25)).alloc (.cells #[.slice Aw nw cw, .slice An nn cn, .slice Ac nc cc] 30)).heap.size = w.heap.size + 2 := by simp
  have G0 := Lib.hid (blk_alloc (blk_new w #[.int .i64 fr, .slice Ap np cp, .slice Aq nq cq] 25) (.cells #[.slice Aw nw cw, .slice An nn cn, .slice Ac nc cc] 30))
  have G1 := Lib.hid (show ((w.alloc (.cells #[.int .i64 fr, .slice Ap np cp, .slice Aq nq cq] 25)).alloc (.cells #[.slice Aw nw cw, .slice An nn cn, .slice Ac nc cc] 30)).heap[w.heap.size + 1]? = some (.cells #[.slice Aw nw cw, .slice An nn cn, .slice Ac nc cc] 30 (0, 0)) by have := blk_new (w.alloc (.cells #[.int .i64 fr, .slice Ap np cp, .slice Aq nq cq] 25)) #[.slice Aw nw cw, .slice An nn cn, .slice Ac nc cc] 30; simpa using this)
  have HB := Lib.hid hB2
  have a1 := blk_cell G0.out 1; have a2 := blk_cell G0.out 2; have b1 := blk_cell G1.out 1; have b2 := blk_cell G1.out 2
  clear hB2 hs2
  go_enter Try.func9, Try.ntmps9
  go_wp2
  go_ret
  exact ⟨true, rfl, (fun h => by cases h), HB.out⟩
set_option maxHeartbeats 2000000 in
theorem great_b (fr : Int) (ps : List Pt) (pn : List Pn) (qs : List Qu) (Ap Aq Aw An Ac : Option Addr) (np cp nq cq nw cw nn cn nc cc : Nat) (hnp : (np : Int) ≤ 20) (hbad : (20 : Int) < (nq : Int)) (w : World) : Calls Try.prog 9 #[.agg #[.int .i64 fr, .slice Ap np cp, .slice Aq nq cq], .agg #[.slice Aw nw cw, .slice An nn cn, .slice Ac nc cc]] w (BOut (fun v => v = false → Tame ps pn qs nc) w) := by
  have hB2 := (((Below.refl w.heap.size w).alloc (Nat.le_refl _) (.cells #[.int .i64 fr, .slice Ap np cp, .slice Aq nq cq] 25)).alloc (by simp) (.cells #[.slice Aw nw cw, .slice An nn cn, .slice Ac nc cc] 30))
  have hs2 : ((w.alloc (.cells #[.int .i64 fr, .slice Ap np cp, .slice Aq nq cq] 25)).alloc (.cells #[.slice Aw nw cw, .slice An nn cn, .slice Ac nc cc] 30)).heap.size = w.heap.size + 2 := by simp
  have G0 := Lib.hid (blk_alloc (blk_new w #[.int .i64 fr, .slice Ap np cp, .slice Aq nq cq] 25) (.cells #[.slice Aw nw cw, .slice An nn cn, .slice Ac nc cc] 30))
  have G1 := Lib.hid (show ((w.alloc (.cells #[.int .i64 fr, .slice Ap np cp, .slice Aq nq cq] 25)).alloc (.cells #[.slice Aw nw cw, .slice An nn cn, .slice Ac nc cc] 30)).heap[w.heap.size + 1]? = some (.cells #[.slice Aw nw cw, .slice An nn cn, .slice Ac nc cc] 30 (0, 0)) by have := blk_new (w.alloc (.cells #[.int .i64 fr, .slice Ap np cp, .slice Aq nq cq] 25)) #[.slice Aw nw cw, .slice An nn cn, .slice Ac nc cc] 30; simpa using this)
  have HB := Lib.hid hB2
  have a1 := blk_cell G0.out 1; have a2 := blk_cell G0.out 2; have b1 := blk_cell G1.out 1; have b2 := blk_cell G1.out 2
  clear hB2 hs2
  go_enter Try.func9, Try.ntmps9
  go_wp2
  go_ret
  exact ⟨true, rfl, (fun h => by cases h), HB.out⟩
set_option maxHeartbeats 2000000 in
theorem great_c (fr : Int) (ps : List Pt) (pn : List Pn) (qs : List Qu) (Ap Aq Aw An Ac : Option Addr) (np cp nq cq nw cw nn cn nc cc : Nat) (hnp : (np : Int) ≤ 20) (hnq : (nq : Int) ≤ 20) (hbad : (20 : Int) < (nn : Int)) (w : World) : Calls Try.prog 9 #[.agg #[.int .i64 fr, .slice Ap np cp, .slice Aq nq cq], .agg #[.slice Aw nw cw, .slice An nn cn, .slice Ac nc cc]] w (BOut (fun v => v = false → Tame ps pn qs nc) w) := by
  have hB2 := (((Below.refl w.heap.size w).alloc (Nat.le_refl _) (.cells #[.int .i64 fr, .slice Ap np cp, .slice Aq nq cq] 25)).alloc (by simp) (.cells #[.slice Aw nw cw, .slice An nn cn, .slice Ac nc cc] 30))
  have hs2 : ((w.alloc (.cells #[.int .i64 fr, .slice Ap np cp, .slice Aq nq cq] 25)).alloc (.cells #[.slice Aw nw cw, .slice An nn cn, .slice Ac nc cc] 30)).heap.size = w.heap.size + 2 := by simp
  have G0 := Lib.hid (blk_alloc (blk_new w #[.int .i64 fr, .slice Ap np cp, .slice Aq nq cq] 25) (.cells #[.slice Aw nw cw, .slice An nn cn, .slice Ac nc cc] 30))
  have G1 := Lib.hid (show ((w.alloc (.cells #[.int .i64 fr, .slice Ap np cp, .slice Aq nq cq] 25)).alloc (.cells #[.slice Aw nw cw, .slice An nn cn, .slice Ac nc cc] 30)).heap[w.heap.size + 1]? = some (.cells #[.slice Aw nw cw, .slice An nn cn, .slice Ac nc cc] 30 (0, 0)) by have := blk_new (w.alloc (.cells #[.int .i64 fr, .slice Ap np cp, .slice Aq nq cq] 25)) #[.slice Aw nw cw, .slice An nn cn, .slice Ac nc cc] 30; simpa using this)
  have HB := Lib.hid hB2
  have a1 := blk_cell G0.out 1; have a2 := blk_cell G0.out 2; have b1 := blk_cell G1.out 1; have b2 := blk_cell G1.out 2
  clear hB2 hs2
  go_enter Try.func9, Try.ntmps9
  go_wp2
  go_ret
  exact ⟨true, rfl, (fun h => by cases h), HB.out⟩
set_option maxHeartbeats 2000000 in
theorem great_d (fr : Int) (ps : List Pt) (pn : List Pn) (qs : List Qu) (Ap Aq Aw An Ac : Option Addr) (np cp nq cq nw cw nn cn nc cc : Nat) (hnp : (np : Int) ≤ 20) (hnq : (nq : Int) ≤ 20) (hnn : (nn : Int) ≤ 20) (hbad : (20 : Int) < (nc : Int)) (w : World) : Calls Try.prog 9 #[.agg #[.int .i64 fr, .slice Ap np cp, .slice Aq nq cq], .agg #[.slice Aw nw cw, .slice An nn cn, .slice Ac nc cc]] w (BOut (fun v => v = false → Tame ps pn qs nc) w) := by
  have hB2 := (((Below.refl w.heap.size w).alloc (Nat.le_refl _) (.cells #[.int .i64 fr, .slice Ap np cp, .slice Aq nq cq] 25)).alloc (by simp) (.cells #[.slice Aw nw cw, .slice An nn cn, .slice Ac nc cc] 30))
  have hs2 : ((w.alloc (.cells #[.int .i64 fr, .slice Ap np cp, .slice Aq nq cq] 25)).alloc (.cells #[.slice Aw nw cw, .slice An nn cn, .slice Ac nc cc] 30)).heap.size = w.heap.size + 2 := by simp
  have G0 := Lib.hid (blk_alloc (blk_new w #[.int .i64 fr, .slice Ap np cp, .slice Aq nq cq] 25) (.cells #[.slice Aw nw cw, .slice An nn cn, .slice Ac nc cc] 30))
  have G1 := Lib.hid (show ((w.alloc (.cells #[.int .i64 fr, .slice Ap np cp, .slice Aq nq cq] 25)).alloc (.cells #[.slice Aw nw cw, .slice An nn cn, .slice Ac nc cc] 30)).heap[w.heap.size + 1]? = some (.cells #[.slice Aw nw cw, .slice An nn cn, .slice Ac nc cc] 30 (0, 0)) by have := blk_new (w.alloc (.cells #[.int .i64 fr, .slice Ap np cp, .slice Aq nq cq] 25)) #[.slice Aw nw cw, .slice An nn cn, .slice Ac nc cc] 30; simpa using this)
  have HB := Lib.hid hB2
  have a1 := blk_cell G0.out 1; have a2 := blk_cell G0.out 2; have b1 := blk_cell G1.out 1; have b2 := blk_cell G1.out 2
  clear hB2 hs2
  go_enter Try.func9, Try.ntmps9
  go_wp2
  go_ret
  exact ⟨true, rfl, (fun h => by cases h), HB.out⟩
set_option maxRecDepth 100000 in
set_option maxHeartbeats 8000000 in
theorem great_go (fr : Int) (ps : List Pt) (pn : List Pn) (qs : List Qu) (Ap Aq Aw An Ac : Option Addr) (np cp nq cq nw cw nn cn nc cc : Nat) (hnp : ps.length = np) (hnn : pn.length = nn) (hnq : qs.length = nq) (hp : (np : Int) ≤ 20) (hq : (nq : Int) ≤ 20) (hn : (nn : Int) ≤ 20) (hc : (nc : Int) ≤ 20)
    (hml : ∀ x ∈ ps, x.mem.length ≤ 140737488355328) (hqm : ∀ q ∈ qs, q.msgs.length ≤ 140737488355328 ∧ ∀ m ∈ q.msgs, m.length ≤ 140737488355328) (hil : ∀ x ∈ pn, x.img.length ≤ 140737488355328) (w : World) (h : Pts w Ap ps) (h2 : Pns w An pn) (h3 : Qus w Aq qs) : Calls Try.prog 9 #[.agg #[.int .i64 fr, .slice Ap np cp, .slice Aq nq cq], .agg #[.slice Aw nw cw, .slice An nn cn, .slice Ac nc cc]] w (BOut (fun v => v = false → Tame ps pn qs nc) w) := by
  have hB2 := (((Below.refl w.heap.size w).alloc (Nat.le_refl _) (.cells #[.int .i64 fr, .slice Ap np cp, .slice Aq nq cq] 25)).alloc (by simp) (.cells #[.slice Aw nw cw, .slice An nn cn, .slice Ac nc cc] 30))
  have hs2 : ((w.alloc (.cells #[.int .i64 fr, .slice Ap np cp, .slice Aq nq cq] 25)).alloc (.cells #[.slice Aw nw cw, .slice An nn cn, .slice Ac nc cc] 30)).heap.size = w.heap.size + 2 := by simp
  have G0 := Lib.hid (blk_alloc (blk_new w #[.int .i64 fr, .slice Ap np cp, .slice Aq nq cq] 25) (.cells #[.slice Aw nw cw, .slice An nn cn, .slice Ac nc cc] 30))
  have G1 := Lib.hid (show ((w.alloc (.cells #[.int .i64 fr, .slice Ap np cp, .slice Aq nq cq] 25)).alloc (.cells #[.slice Aw nw cw, .slice An nn cn, .slice Ac nc cc] 30)).heap[w.heap.size + 1]? = some (.cells #[.slice Aw nw cw, .slice An nn cn, .slice Ac nc cc] 30 (0, 0)) by have := blk_new (w.alloc (.cells #[.int .i64 fr, .slice Ap np cp, .slice Aq nq cq] 25)) #[.slice Aw nw cw, .slice An nn cn, .slice Ac nc cc] 30; simpa using this)
  have HB := Lib.hid hB2; have HS2 := Lib.hid hs2
  have H1 := Lib.hid (h.below hB2); have H2 := Lib.hid (h2.below hB2); have H3 := Lib.hid (h3.below hB2)
  have HNP := Lib.hid hnp; have HNN := Lib.hid hnn; have HNQ := Lib.hid hnq; have HML := Lib.hid hml; have HQM := Lib.hid hqm; have HIL := Lib.hid hil
  have hnp20 : np ≤ 20 := by omega
  have hnq20 : nq ≤ 20 := by omega
  have hnn20 : nn ≤ 20 := by omega
  have hnc20 : nc ≤ 20 := by omega
  have HN4 := Lib.hid (show np ≤ 20 ∧ nq ≤ 20 ∧ nn ≤ 20 ∧ nc ≤ 20 from ⟨hnp20, hnq20, hnn20, hnc20⟩)
  have a1 := blk_cell G0.out 1; have a2 := blk_cell G0.out 2; have b1 := blk_cell G1.out 1; have b2 := blk_cell G1.out 2
  clear h h2 h3 hB2 hs2 hnp hnn hnq hml hqm hil
  go_enter Try.func9, Try.ntmps9
  go_wp2_with fail
  generalize ((w.alloc (.cells #[.int .i64 fr, .slice Ap np cp, .slice Aq nq cq] 25)).alloc (.cells #[.slice Aw nw cw, .slice An nn cn, .slice Ac nc cc] 30)) = wb at *
  go_loopw [5, 6] (fun nv iv wr => ∃ k S : Nat, k ≤ np ∧ nv = .int .i64 S ∧ iv = .int .i64 k ∧ S ≤ k * 140737488355328 ∧ (∀ (j : Nat) (x : Pt), j < k → ps[j]? = some x → x.mem.length ≤ S) ∧ wr = wb) (fun _ iv _ => np - (intOf iv).toNat)
  case atStart => exact ⟨0, 0, Nat.zero_le _, rfl, rfl, Nat.zero_le _, (fun j x hj => absurd hj (Nat.not_lt_zero _)), rfl⟩
  case round =>
    obtain ⟨k, S, hk, rfl, rfl, hS, hall, rfl⟩ := hrel
    have HALL := Lib.hid hall; clear hall
    by_cases hkl : k < np
    · have hki : (k : Int) < (np : Int) := by omega
      have hk20 : (k : Int) < 20 := by omega
      obtain ⟨b, off, rfl, _⟩ := Rws.addr pt_len (by decide) H1.out (by rw [HNP.out]; omega)
      obtain ⟨x, hx⟩ : ∃ x, ps[k]? = some x := ⟨_, List.getElem?_eq_getElem (by rw [HNP.out]; exact hkl)⟩
      obtain ⟨A0, c0, _, hc9⟩ := Rws.at pt_len H1.out hx
      have cm : wr.cell? ⟨b, off + k * 14 + 13, none⟩ = some (.slice A0 x.mem.length c0) := hc9 13 _ rfl
      have hb := HML.out x (List.mem_of_getElem? hx)
      have HX := Lib.hid hx
      obtain ⟨m, hm⟩ : ∃ m, x.mem.length = m := ⟨_, rfl⟩
      have HM := Lib.hid hm
      rw [hm] at cm hb
      clear hc9 hx hm
      have hS2 : S ≤ 20 * 140737488355328 := Nat.le_trans hS (Nat.mul_le_mul_right _ (by omega))
      have HS := Lib.hid hS
      clear hS
      have hsum : IntKind.i64.wrap ((S : Int) + (m : Int)) = ((S + m : Nat) : Int) := by rw [IntWalk.i64_in _ (by omega)]; omega
      go_wp2_with fail
      go_roundw
      case rel => exact ⟨k + 1, S + m, by omega, by first | rfl | (congr 1), by go_num, (by rw [Nat.add_mul, Nat.one_mul]; exact Nat.add_le_add HS.out hb), at_step (at_mono HALL.out fun x h => Nat.le_trans h (Nat.le_add_right _ _)) HX.out (by rw [HM.out]; exact Nat.le_add_left _ _), trivial⟩
      case measure => simp [intOf]; omega
    · have hkn : np = k := by omega
      subst hkn
      have HMEM := HALL
      have hS2 : S ≤ 20 * 140737488355328 := Nat.le_trans hS (Nat.mul_le_mul_right _ (by omega))
      clear hS HALL hkl
      go_wp2_with fail
      go_loopw [5, 7] (fun nv iv wr2 => ∃ k S : Nat, k ≤ nq ∧ nv = .int .i64 S ∧ iv = .int .i64 k ∧ S ≤ 20 * 140737488355328 ∧ (∀ (j : Nat) (x : Pt), j < np → ps[j]? = some x → x.mem.length ≤ S) ∧ (∀ (j : Nat) (q : Qu), j < k → qs[j]? = some q → q.msgs.length ≤ S ∧ ∀ m ∈ q.msgs, m.length ≤ S) ∧ wr2 = wr) (fun _ iv _ => nq - (intOf iv).toNat)
      case atStart => exact ⟨0, S, Nat.zero_le _, rfl, rfl, hS2, HMEM.out, (fun j x hj => absurd hj (Nat.not_lt_zero _)), rfl⟩
      case round =>
        clear HMEM hS2
        obtain ⟨k, S, hk, rfl, rfl, hS, hmem, hall, rfl⟩ := hrel
        have HMEM := Lib.hid hmem; have HALL := Lib.hid hall; clear hmem hall
        by_cases hkl : k < nq
        · have hki : (k : Int) < (nq : Int) := by omega
          have hk20 : (k : Int) < 20 := by omega
          obtain ⟨b, off, rfl, _⟩ := Rws.addr qu_len (by decide) H3.out (by rw [HNQ.out]; omega)
          obtain ⟨q, hq9⟩ : ∃ q, qs[k]? = some q := ⟨_, List.getElem?_eq_getElem (by rw [HNQ.out]; exact hkl)⟩
          obtain ⟨Am, cm, hin, hc9⟩ := Rws.at qu_len H3.out hq9
          have cq5 : wr.cell? ⟨b, off + k * 6 + 5, none⟩ = some (.slice Am q.msgs.length cm) := hc9 5 _ rfl
          have hbq := HQM.out q (List.mem_of_getElem? hq9)
          have HBM := Lib.hid hbq.2; have hbl := hbq.1
          have HQ := Lib.hid hq9
          obtain ⟨m, hm⟩ : ∃ m, q.msgs.length = m := ⟨_, rfl⟩
          have HM := Lib.hid hm
          rw [hm] at cq5 hbl
          have HR := Lib.hid hin.2.2
          clear hc9 hq9 hm hin hbq
          go_wp2_with fail
          go_loopw [5, 8] (fun nv jv wr2 => ∃ j S : Nat, j ≤ m ∧ nv = .int .i64 S ∧ jv = .int .i64 j ∧ S ≤ 20 * 140737488355328 ∧ (∀ (j : Nat) (x : Pt), j < np → ps[j]? = some x → x.mem.length ≤ S) ∧ (∀ (j : Nat) (q : Qu), j < k → qs[j]? = some q → q.msgs.length ≤ S ∧ ∀ m ∈ q.msgs, m.length ≤ S) ∧ (∀ (i : Nat) (l : Msg), i < j → q.msgs[i]? = some l → l.length ≤ S) ∧ j ≤ S ∧ wr2 = wr) (fun _ jv _ => m - (intOf jv).toNat)
          case atStart => exact ⟨0, S, Nat.zero_le _, rfl, rfl, hS, HMEM.out, HALL.out, (fun j x hj => absurd hj (Nat.not_lt_zero _)), Nat.zero_le _, rfl⟩
          case round =>
            clear HMEM HALL hS
            obtain ⟨j, S, hj, rfl, rfl, hS, hmem, hall, hmsg, hjS, rfl⟩ := hrel
            have HMEM := Lib.hid hmem; have HALL := Lib.hid hall; have HMSG := Lib.hid hmsg; clear hmem hall hmsg
            by_cases hjl : j < m
            · have hji : (j : Int) < (m : Int) := by omega
              obtain ⟨b2, o2, rfl⟩ := HR.out.addr (by rw [HM.out]; omega)
              obtain ⟨l, hl⟩ : ∃ l, q.msgs[j]? = some l := ⟨_, List.getElem?_eq_getElem (by rw [HM.out]; exact hjl)⟩
              obtain ⟨A3, c3, k3, _, _, _⟩ := HR.out.at hl
              have hb3 := HBM.out l (List.mem_of_getElem? hl)
              have HL := Lib.hid hl
              obtain ⟨z, hz⟩ : ∃ z, l.length = z := ⟨_, rfl⟩
              have HZ := Lib.hid hz
              rw [hz] at k3 hb3
              clear hl hz
              have hsum : IntKind.i64.wrap ((S : Int) + (z : Int)) = ((S + z : Nat) : Int) := by rw [IntWalk.i64_in _ (by omega)]; omega
              have hsum2 : IntKind.i64.wrap (((S + z : Nat) : Int) + 5) = ((S + z + 5 : Nat) : Int) := by rw [IntWalk.i64_in _ (by omega)]; omega
              by_cases hbig : 8000 < S + z + 5
              · have hbi : (8000 : Int) < ((S + z + 5 : Nat) : Int) := by omega
                have hjb : (j : Int) < 140737488355328 := by omega
                generalize S + z + 5 = S5 at *
                generalize S + z = S4 at *
                go_wp2_with fail
                go_ret
                exact ⟨true, rfl, (fun h => by cases h), HB.out⟩
              · have hbi : ¬ (8000 : Int) < ((S + z + 5 : Nat) : Int) := by omega
                have hjb : (j : Int) < 140737488355328 := by omega
                have HSUM := Lib.hid (show S ≤ S + z + 5 ∧ z ≤ S + z + 5 ∧ j + 1 ≤ S + z + 5 ∧ S + z + 5 ≤ 20 * 140737488355328 by omega)
                clear hbig
                generalize S + z + 5 = S5 at *
                generalize S + z = S4 at *
                go_wp2_with fail
                go_roundw
                case rel => exact ⟨j + 1, S5, by omega, by first | rfl | (congr 1), by go_num, HSUM.out.2.2.2, at_mono HMEM.out fun x h => Nat.le_trans h HSUM.out.1, at_mono HALL.out fun x h => ⟨Nat.le_trans h.1 HSUM.out.1, fun m hm => Nat.le_trans (h.2 m hm) HSUM.out.1⟩, at_step (at_mono HMSG.out fun x h => Nat.le_trans h HSUM.out.1) HL.out (by rw [HZ.out]; exact HSUM.out.2.1), HSUM.out.2.2.1, trivial⟩
                case measure => simp [intOf]; omega
            · have hjm : m = j := by omega
              subst hjm
              have HQ2 := Lib.hid (show q.msgs.length ≤ S ∧ ∀ m ∈ q.msgs, m.length ≤ S from ⟨by rw [HM.out]; exact hjS, at_mem HM.out HMSG.out⟩)
              go_wp2_with fail
              go_roundw
              case rel => exact ⟨k + 1, S, by omega, rfl, by go_num, hS, HMEM.out, at_step HALL.out HQ.out HQ2.out, trivial⟩
              case measure => simp [intOf]; omega
        · have hkn : nq = k := by omega
          subst hkn
          have HMSG := HALL
          clear HALL hkl
          go_wp2_with fail
          go_loopw [5, 9] (fun nv iv wr2 => ∃ k S : Nat, k ≤ nn ∧ nv = .int .i64 S ∧ iv = .int .i64 k ∧ S ≤ 20 * 140737488355328 + k * 140737488355328 ∧ (∀ (j : Nat) (x : Pt), j < np → ps[j]? = some x → x.mem.length ≤ S) ∧ (∀ (j : Nat) (q : Qu), j < nq → qs[j]? = some q → q.msgs.length ≤ S ∧ ∀ m ∈ q.msgs, m.length ≤ S) ∧ (∀ (j : Nat) (x : Pn), j < k → pn[j]? = some x → x.img.length ≤ S) ∧ wr2 = wr) (fun _ iv _ => nn - (intOf iv).toNat)
          case atStart => exact ⟨0, S, Nat.zero_le _, rfl, rfl, by omega, HMEM.out, HMSG.out, (fun j x hj => absurd hj (Nat.not_lt_zero _)), rfl⟩
          case round =>
            clear HMEM HMSG hS
            obtain ⟨k, S, hk, rfl, rfl, hS, hmem, hmsg, hall, rfl⟩ := hrel
            have HMEM := Lib.hid hmem; have HMSG := Lib.hid hmsg; have HALL := Lib.hid hall; clear hmem hall hmsg
            by_cases hkl : k < nn
            · have hki : (k : Int) < (nn : Int) := by omega
              have hk20 : (k : Int) < 20 := by omega
              obtain ⟨b, off, rfl, _⟩ := Rws.addr pn_len (by decide) H2.out (by rw [HNN.out]; omega)
              obtain ⟨x, hx⟩ : ∃ x, pn[k]? = some x := ⟨_, List.getElem?_eq_getElem (by rw [HNN.out]; exact hkl)⟩
              obtain ⟨A0, c0, _, hc9⟩ := Rws.at pn_len H2.out hx
              have cm : wr.cell? ⟨b, off + k * 5 + 4, none⟩ = some (.slice A0 x.img.length c0) := hc9 4 _ rfl
              have hb := HIL.out x (List.mem_of_getElem? hx)
              have HX := Lib.hid hx
              obtain ⟨m, hm⟩ : ∃ m, x.img.length = m := ⟨_, rfl⟩
              have HM := Lib.hid hm
              rw [hm] at cm hb
              clear hc9 hx hm
              have hS2 : S ≤ 40 * 140737488355328 := Nat.le_trans hS (Nat.le_trans (Nat.add_le_add_left (Nat.mul_le_mul_right _ (show k ≤ 20 by omega)) _) (by decide))
              have HS := Lib.hid hS
              clear hS
              have hsum : IntKind.i64.wrap ((S : Int) + (m : Int)) = ((S + m : Nat) : Int) := by rw [IntWalk.i64_in _ (by omega)]; omega
              go_wp2_with fail
              go_roundw
              case rel => exact ⟨k + 1, S + m, by omega, by first | rfl | (congr 1), by go_num, (by have := HS.out; rw [Nat.add_mul, Nat.one_mul]; omega), at_mono HMEM.out fun x h => Nat.le_trans h (Nat.le_add_right _ _), at_mono HMSG.out fun x h => ⟨Nat.le_trans h.1 (Nat.le_add_right _ _), fun m hm => Nat.le_trans (h.2 m hm) (Nat.le_add_right _ _)⟩, at_step (at_mono HALL.out fun x h => Nat.le_trans h (Nat.le_add_right _ _)) HX.out (by rw [HM.out]; exact Nat.le_add_left _ _), trivial⟩
              case measure => simp [intOf]; omega
            · have hkn : nn = k := by omega
              subst hkn
              have HALLS := Lib.hid (show S ≤ 8000 → Tame ps pn qs nc from fun h8 => ⟨by rw [HNP.out]; exact HN4.out.1, by rw [HNQ.out]; exact HN4.out.2.1, by rw [HNN.out]; exact HN4.out.2.2.1, HN4.out.2.2.2, at_mem HNP.out (at_mono HMEM.out fun x h => Nat.le_trans h h8), at_mem HNQ.out (at_mono HMSG.out fun x h => ⟨Nat.le_trans h.1 h8, fun m hm => Nat.le_trans (h.2 m hm) h8⟩), at_mem HNN.out (at_mono HALL.out fun x h => Nat.le_trans h h8)⟩)
              have HD := Lib.hid (show decide ((8000 : Int) < (S : Int)) = false → S ≤ 8000 from fun h => by have := of_decide_eq_false h; omega)
              clear hS HALL hkl
              go_wp2_with fail
              go_ret
              exact ⟨_, rfl, fun h => HALLS.out (HD.out h), HB.out⟩
theorem great (fr : Int) (ps : List Pt) (pn : List Pn) (qs : List Qu) (Ap Aq Aw An Ac : Option Addr) (np cp nq cq nw cw nn cn nc cc : Nat) (hnp : ps.length = np) (hnn : pn.length = nn) (hnq : qs.length = nq)
    (hml : ∀ x ∈ ps, x.mem.length ≤ 140737488355328) (hqm : ∀ q ∈ qs, q.msgs.length ≤ 140737488355328 ∧ ∀ m ∈ q.msgs, m.length ≤ 140737488355328) (hil : ∀ x ∈ pn, x.img.length ≤ 140737488355328) (w : World) (h : Pts w Ap ps) (h2 : Pns w An pn) (h3 : Qus w Aq qs) : Calls Try.prog 9 #[.agg #[.int .i64 fr, .slice Ap np cp, .slice Aq nq cq], .agg #[.slice Aw nw cw, .slice An nn cn, .slice Ac nc cc]] w (BOut (fun v => v = false → Tame ps pn qs nc) w) := by
  by_cases hp : (20 : Int) < (np : Int)
  · exact great_a fr ps pn qs Ap Aq Aw An Ac np cp nq cq nw cw nn cn nc cc hp w
  by_cases hq : (20 : Int) < (nq : Int)
  · exact great_b fr ps pn qs Ap Aq Aw An Ac np cp nq cq nw cw nn cn nc cc (by omega) hq w
  by_cases hn : (20 : Int) < (nn : Int)
  · exact great_c fr ps pn qs Ap Aq Aw An Ac np cp nq cq nw cw nn cn nc cc (by omega) (by omega) hn w
  by_cases hc : (20 : Int) < (nc : Int)
  · exact great_d fr ps pn qs Ap Aq Aw An Ac np cp nq cq nw cw nn cn nc cc (by omega) (by omega) (by omega) hc w
  exact great_go fr ps pn qs Ap Aq Aw An Ac np cp nq cq nw cw nn cn nc cc hnp hnn hnq (by omega) (by omega) (by omega) (by omega) hml hqm hil w h h2 h3
end Go.Proofs.Ytnfjkpeifleogaa.mv
