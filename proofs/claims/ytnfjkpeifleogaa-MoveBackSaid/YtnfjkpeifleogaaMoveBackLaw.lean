/- The law MoveBack; no condition. -/
import Derived.Test.YtnfjkpeifleogaaRows
import Derived.Test.YtnfjkpeifleogaaMvN
import Derived.Deep.RegionHeld3
namespace Go.Proofs.Ytnfjkpeifleogaa.mv
open Go Go.ChangeShapes Go.WideShapes Go.ChangeAt Go.RowKit Go.Proofs.Ytnfjkpeifleogaa.rows
set_option maxRecDepth 100000 in
set_option maxHeartbeats 8000000 in
theorem backLaw (fr : Int) (ps : List Pt) (pn : List Pn) (qs : List Qu) (cs : List Ch) (Ap Aq Aw An Ac : Option Addr) (np cp nq cq nw cw nn cn nc cc : Nat) (hnp : ps.length = np) (hnn : pn.length = nn) (hnq : qs.length = nq) (hnc : cs.length = nc) (hml : ∀ x ∈ ps, x.mem.length ≤ 140737488355328) (hqm : ∀ q ∈ qs, q.msgs.length ≤ 140737488355328 ∧ ∀ m ∈ q.msgs, m.length ≤ 140737488355328) (hil : ∀ x ∈ pn, x.img.length ≤ 140737488355328) (pn2 : List Pn) (cs2 : List Ch) (Aw2 An2 Ac2 : Option Addr) (nw2 cw2 nn2 cn2 nc2 cc2 : Nat) (hnn2 : pn2.length = nn2) (hnc2 : cs2.length = nc2) (hil2 : ∀ x ∈ pn2, x.img.length ≤ 140737488355328) (w : World) (h : Pts w Ap ps) (h2 : Pns w An pn) (h3 : Qus w Aq qs) (h4 : Rd w Ac (chCells cs)) (h22 : Pns w An2 pn2) (h42 : Rd w Ac2 (chCells cs2)) : Calls Try.prog 4 #[.agg #[.int .i64 fr, .slice Ap np cp, .slice Aq nq cq], .agg #[.slice Aw nw cw, .slice An nn cn, .slice Ac nc cc], .agg #[.slice Aw2 nw2 cw2, .slice An2 nn2 cn2, .slice Ac2 nc2 cc2]] w fun e w' => e = .returned (.bool true) ∧ Below w.heap.size w w' := by
  have hB2 := ((((Below.refl w.heap.size w).alloc (Nat.le_refl _) (.cells #[.int .i64 fr, .slice Ap np cp, .slice Aq nq cq] 25)).alloc (by simp) (.cells #[.slice Aw nw cw, .slice An nn cn, .slice Ac nc cc] 30)).alloc (by simp; omega) (.cells #[.slice Aw2 nw2 cw2, .slice An2 nn2 cn2, .slice Ac2 nc2 cc2] 30))
  have G0 := Lib.hid (blk_alloc (blk_alloc (blk_new w #[.int .i64 fr, .slice Ap np cp, .slice Aq nq cq] 25) (.cells #[.slice Aw nw cw, .slice An nn cn, .slice Ac nc cc] 30)) (.cells #[.slice Aw2 nw2 cw2, .slice An2 nn2 cn2, .slice Ac2 nc2 cc2] 30))
  have G1 := Lib.hid (blk_alloc (show ((w.alloc (.cells #[.int .i64 fr, .slice Ap np cp, .slice Aq nq cq] 25)).alloc (.cells #[.slice Aw nw cw, .slice An nn cn, .slice Ac nc cc] 30)).heap[w.heap.size + 1]? = some (.cells #[.slice Aw nw cw, .slice An nn cn, .slice Ac nc cc] 30 (0, 0)) by have := blk_new (w.alloc (.cells #[.int .i64 fr, .slice Ap np cp, .slice Aq nq cq] 25)) #[.slice Aw nw cw, .slice An nn cn, .slice Ac nc cc] 30; simpa using this) (.cells #[.slice Aw2 nw2 cw2, .slice An2 nn2 cn2, .slice Ac2 nc2 cc2] 30))
  have G2 := Lib.hid (show (((w.alloc (.cells #[.int .i64 fr, .slice Ap np cp, .slice Aq nq cq] 25)).alloc (.cells #[.slice Aw nw cw, .slice An nn cn, .slice Ac nc cc] 30)).alloc (.cells #[.slice Aw2 nw2 cw2, .slice An2 nn2 cn2, .slice Ac2 nc2 cc2] 30)).heap[w.heap.size + 2]? = some (.cells #[.slice Aw2 nw2 cw2, .slice An2 nn2 cn2, .slice Ac2 nc2 cc2] 30 (0, 0)) by have := blk_new ((w.alloc (.cells #[.int .i64 fr, .slice Ap np cp, .slice Aq nq cq] 25)).alloc (.cells #[.slice Aw nw cw, .slice An nn cn, .slice Ac nc cc] 30)) #[.slice Aw2 nw2 cw2, .slice An2 nn2 cn2, .slice Ac2 nc2 cc2] 30; simpa using this)
  have HB := Lib.hid hB2
  have H1 := Lib.hid (h.below hB2); have H2 := Lib.hid (h2.below hB2); have H3 := Lib.hid (h3.below hB2); have H4 := Lib.hid (h4.below hB2); have H22 := Lib.hid (h22.below hB2); have H42 := Lib.hid (h42.below hB2)
  have HNP := Lib.hid hnp; have HNN := Lib.hid hnn; have HNQ := Lib.hid hnq; have HNC := Lib.hid hnc; have HNN2 := Lib.hid hnn2; have HNC2 := Lib.hid hnc2
  have HML := Lib.hid hml; have HQM := Lib.hid hqm; have HIL := Lib.hid hil; have HIL2 := Lib.hid hil2
  clear h h2 h3 h4 h22 h42 hB2 hnp hnn hnq hnc hnn2 hnc2 hml hqm hil hil2
  go_enter Try.func4, Try.ntmps4
  go_wp2_with fail
  generalize (((w.alloc (.cells #[.int .i64 fr, .slice Ap np cp, .slice Aq nq cq] 25)).alloc (.cells #[.slice Aw nw cw, .slice An nn cn, .slice Ac nc cc] 30)).alloc (.cells #[.slice Aw2 nw2 cw2, .slice An2 nn2 cn2, .slice Ac2 nc2 cc2] 30)) = wb at *
  refine (awake wb).mono ?_
  rintro e w1 ⟨rfl, b1⟩
  have D1 := Lib.hid b1; clear b1
  have S1 := Lib.hid (blk_below G0.out D1.out (blk_lt G0.out))
  have K1 := Lib.hid (blk_below G1.out D1.out (blk_lt G1.out))
  have L1 := Lib.hid (blk_below G2.out D1.out (blk_lt G2.out))
  have a0 := blk_cell S1.out 0
  have a1 := blk_cell S1.out 1
  have a2 := blk_cell S1.out 2
  have c0 := blk_cell K1.out 0
  have c1 := blk_cell K1.out 1
  have c2 := blk_cell K1.out 2
  have l0 := blk_cell L1.out 0
  have l1 := blk_cell L1.out 1
  have l2 := blk_cell L1.out 2
  have HT2 := Lib.hid (great fr ps pn qs Ap Aq Aw An Ac np cp nq cq nw cw nn cn nc cc HNP.out HNN.out HNQ.out HML.out HQM.out HIL.out w1 (H1.out.below D1.out) (H2.out.below D1.out) (H3.out.below D1.out))
  go_wp2_with fail
  refine HT2.out.mono ?_
  rintro e w2 ⟨v, rfl, hv, b2⟩
  clear HT2 a0 a1 a2 c0 c1 c2 l0 l1 l2
  have D2 := Lib.hid (D1.out.trans (b2.mono D1.out.size))
  clear b2 S1 K1 L1 D1
  have S1 := Lib.hid (blk_below G0.out D2.out (blk_lt G0.out))
  have K1 := Lib.hid (blk_below G1.out D2.out (blk_lt G1.out))
  have L1 := Lib.hid (blk_below G2.out D2.out (blk_lt G2.out))
  have a0 := blk_cell S1.out 0
  have a1 := blk_cell S1.out 1
  have a2 := blk_cell S1.out 2
  have c0 := blk_cell K1.out 0
  have c1 := blk_cell K1.out 1
  have c2 := blk_cell K1.out 2
  have l0 := blk_cell L1.out 0
  have l1 := blk_cell L1.out 1
  have l2 := blk_cell L1.out 2
  cases v
  case true =>
    clear hv
    go_wp2
    go_ret
    exact ⟨rfl, HB.out.trans (D2.out.mono HB.out.size)⟩
  case false =>
    obtain ⟨t1, t2, t3, t4, t5, t6, t7⟩ := hv rfl
    clear hv
    have hnp : np ≤ 20 := by rw [← HNP.out]; exact t1
    have hnq : nq ≤ 20 := by rw [← HNQ.out]; exact t2
    have hnn : nn ≤ 20 := by rw [← HNN.out]; exact t3
    have hnc := t4
    have ML := Lib.hid (show ∀ x ∈ ps, x.mem.length ≤ 1000000 from fun x hx => Nat.le_trans (t5 x hx) (by decide))
    have QM := Lib.hid (show ∀ q ∈ qs, q.msgs.length ≤ 1000000 ∧ ∀ m ∈ q.msgs, m.length ≤ 1000000 from fun q hq => ⟨Nat.le_trans (t6 q hq).1 (by decide), fun m hm => Nat.le_trans ((t6 q hq).2 m hm) (by decide)⟩)
    clear t1 t2 t3 t4 t5 t6 t7
    have HT3 := Lib.hid (great fr ps pn2 qs Ap Aq Aw2 An2 Ac2 np cp nq cq nw2 cw2 nn2 cn2 nc2 cc2 HNP.out HNN2.out HNQ.out HML.out HQM.out HIL2.out w2 (H1.out.below D2.out) (H22.out.below D2.out) (H3.out.below D2.out))
    go_wp2_with fail
    refine HT3.out.mono ?_
    rintro e w3 ⟨v, rfl, hv, b3⟩
    clear HT3 a0 a1 a2 c0 c1 c2 l0 l1 l2
    have D3 := Lib.hid (D2.out.trans (b3.mono D2.out.size))
    clear b3 S1 K1 L1 D2
    have S1 := Lib.hid (blk_below G0.out D3.out (blk_lt G0.out))
    have K1 := Lib.hid (blk_below G1.out D3.out (blk_lt G1.out))
    have L1 := Lib.hid (blk_below G2.out D3.out (blk_lt G2.out))
    have a0 := blk_cell S1.out 0
    have a1 := blk_cell S1.out 1
    have a2 := blk_cell S1.out 2
    have c0 := blk_cell K1.out 0
    have c1 := blk_cell K1.out 1
    have c2 := blk_cell K1.out 2
    have l0 := blk_cell L1.out 0
    have l1 := blk_cell L1.out 1
    have l2 := blk_cell L1.out 2
    cases v
    case true =>
      clear hv
      go_wp2
      go_ret
      exact ⟨rfl, HB.out.trans (D3.out.mono HB.out.size)⟩
    case false =>
      obtain ⟨_, _, t3, t4, _, _, _⟩ := hv rfl
      clear hv
      have hnn2 : nn2 ≤ 20 := by rw [← HNN2.out]; exact t3
      have hnc2 := t4
      clear t3 t4 HML HQM HIL HIL2
      have HT4 := Lib.hid (once fr ps pn Ap Aq Aw An Ac np cp nq cq nw cw nn cn nc cc HNP.out HNN.out (by omega) (by omega) w3 (H1.out.below D3.out) (H2.out.below D3.out))
      go_wp2_with fail
      refine HT4.out.mono ?_
      rintro e w4 ⟨v, rfl, hv, b4⟩
      clear HT4 a0 a1 a2 c0 c1 c2 l0 l1 l2
      have D4 := Lib.hid (D3.out.trans (b4.mono D3.out.size))
      clear b4 S1 K1 L1 D3
      have S1 := Lib.hid (blk_below G0.out D4.out (blk_lt G0.out))
      have K1 := Lib.hid (blk_below G1.out D4.out (blk_lt G1.out))
      have L1 := Lib.hid (blk_below G2.out D4.out (blk_lt G2.out))
      have a0 := blk_cell S1.out 0
      have a1 := blk_cell S1.out 1
      have a2 := blk_cell S1.out 2
      have c0 := blk_cell K1.out 0
      have c1 := blk_cell K1.out 1
      have c2 := blk_cell K1.out 2
      have l0 := blk_cell L1.out 0
      have l1 := blk_cell L1.out 1
      have l2 := blk_cell L1.out 2
      cases v
      case false =>
        clear hv
        go_wp2
        go_ret
        exact ⟨rfl, HB.out.trans (D4.out.mono HB.out.size)⟩
      case true =>
        have HU := Lib.hid (hv rfl)
        clear hv
        have HT5 := Lib.hid (once fr ps pn2 Ap Aq Aw2 An2 Ac2 np cp nq cq nw2 cw2 nn2 cn2 nc2 cc2 HNP.out HNN2.out (by omega) (by omega) w4 (H1.out.below D4.out) (H22.out.below D4.out))
        go_wp2_with fail
        refine HT5.out.mono ?_
        rintro e w5 ⟨v, rfl, hv, b5⟩
        clear HT5 a0 a1 a2 c0 c1 c2 l0 l1 l2
        have D5 := Lib.hid (D4.out.trans (b5.mono D4.out.size))
        clear b5 S1 K1 L1 D4
        have S1 := Lib.hid (blk_below G0.out D5.out (blk_lt G0.out))
        have K1 := Lib.hid (blk_below G1.out D5.out (blk_lt G1.out))
        have L1 := Lib.hid (blk_below G2.out D5.out (blk_lt G2.out))
        have a0 := blk_cell S1.out 0
        have a1 := blk_cell S1.out 1
        have a2 := blk_cell S1.out 2
        have c0 := blk_cell K1.out 0
        have c1 := blk_cell K1.out 1
        have c2 := blk_cell K1.out 2
        have l0 := blk_cell L1.out 0
        have l1 := blk_cell L1.out 1
        have l2 := blk_cell L1.out 2
        cases v
        case false =>
          clear hv
          go_wp2
          go_ret
          exact ⟨rfl, HB.out.trans (D5.out.mono HB.out.size)⟩
        case true =>
          have HU2 := Lib.hid (hv rfl).2
          clear hv
          obtain ⟨X, hX⟩ : ∃ X, moveP ps pn = X := ⟨_, rfl⟩
          obtain ⟨XQ, hXQ⟩ : ∃ X, moveQ ps pn qs cs = X := ⟨_, rfl⟩
          obtain ⟨Y, hY⟩ : ∃ Y, moveP X pn2 = Y := ⟨_, rfl⟩
          obtain ⟨YQ, hYQ⟩ : ∃ Y, moveQ X pn2 XQ cs2 = Y := ⟨_, rfl⟩
          have HX := Lib.hid hX; have HXQ := Lib.hid hXQ; have HY := Lib.hid hY; have HYQ := Lib.hid hYQ
          clear hX hXQ hY hYQ
          have LX := Lib.hid (show X.length = nn by rw [← HX.out, moveP_length, HNN.out])
          have LXQ := Lib.hid (show XQ.length = nc by rw [← HXQ.out, moveQ_length, HNC.out])
          have LY := Lib.hid (show Y.length = nn2 by rw [← HY.out, moveP_length, HNN2.out])
          have LYQ := Lib.hid (show YQ.length = nc2 by rw [← HYQ.out, moveQ_length, HNC2.out])
          have MX := Lib.hid (show ∀ x ∈ X, x.mem.length ≤ 1000000 by rw [← HX.out]; exact moveP_le (by decide) ML.out)
          have MY := Lib.hid (show ∀ x ∈ Y, x.mem.length ≤ 1000000 by rw [← HY.out]; exact moveP_le (by decide) MX.out)
          have QX := Lib.hid (show ∀ q ∈ XQ, q.msgs.length ≤ 1000000 ∧ ∀ m ∈ q.msgs, m.length ≤ 1000000 by rw [← HXQ.out]; exact moveQ_le QM.out)
          have QY := Lib.hid (show ∀ q ∈ YQ, q.msgs.length ≤ 1000000 ∧ ∀ m ∈ q.msgs, m.length ≤ 1000000 by rw [← HYQ.out]; exact moveQ_le QX.out)
          have HT6 := Lib.hid (move_rd fr ps pn qs cs Ap Aq Aw An Ac np cp nq cq nw cw nn cn nc cc HNP.out HNN.out HNQ.out HNC.out (by omega) (by omega) (by omega) (by omega) ML.out QM.out w5 (H1.out.below D5.out) (H2.out.below D5.out) (H3.out.below D5.out) (H4.out.below D5.out))
          go_wp2_with fail
          refine HT6.out.mono ?_
          rintro e w6 ⟨b6, Xp, Xpc, Xq, Xqc, rfl, rp, rq⟩
          clear HT6 a0 a1 a2 c0 c1 c2 l0 l1 l2
          have D6 := Lib.hid ((D5.out.trans (b6.mono D5.out.size)).alloc (D5.out.trans (b6.mono D5.out.size)).size (.cells #[.int .i64 fr, .slice Xp nn Xpc, .slice Xq nc Xqc] 25))
          have RPX := Lib.hid (Pts.below rp (ext1 w6 (.cells #[.int .i64 fr, .slice Xp nn Xpc, .slice Xq nc Xqc] 25))); have RQX := Lib.hid (Qus.below rq (ext1 w6 (.cells #[.int .i64 fr, .slice Xp nn Xpc, .slice Xq nc Xqc] 25)))
          have BX := Lib.hid (blk_new w6 #[.int .i64 fr, .slice Xp nn Xpc, .slice Xq nc Xqc] 25)
          replace S1 := Lib.hid (blk_alloc (blk_below S1.out b6 (blk_lt S1.out)) (.cells #[.int .i64 fr, .slice Xp nn Xpc, .slice Xq nc Xqc] 25))
          replace K1 := Lib.hid (blk_alloc (blk_below K1.out b6 (blk_lt K1.out)) (.cells #[.int .i64 fr, .slice Xp nn Xpc, .slice Xq nc Xqc] 25))
          replace L1 := Lib.hid (blk_alloc (blk_below L1.out b6 (blk_lt L1.out)) (.cells #[.int .i64 fr, .slice Xp nn Xpc, .slice Xq nc Xqc] 25))
          clear b6 rp rq D5
          rw [HX.out] at RPX; rw [HXQ.out] at RQX
          have x0 := blk_cell BX.out 0
          have x1 := blk_cell BX.out 1
          have x2 := blk_cell BX.out 2
          have a0 := blk_cell S1.out 0
          have a1 := blk_cell S1.out 1
          have a2 := blk_cell S1.out 2
          have c0 := blk_cell K1.out 0
          have c1 := blk_cell K1.out 1
          have c2 := blk_cell K1.out 2
          have l0 := blk_cell L1.out 0
          have l1 := blk_cell L1.out 1
          have l2 := blk_cell L1.out 2
          go_wp2_with fail
          generalize (w6.alloc (.cells #[.int .i64 fr, .slice Xp nn Xpc, .slice Xq nc Xqc] 25)) = v6 at *
          have HT7 := Lib.hid (move_rd fr X pn2 XQ cs2 Xp Xq Aw2 An2 Ac2 nn Xpc nc Xqc nw2 cw2 nn2 cn2 nc2 cc2 LX.out HNN2.out LXQ.out HNC2.out (by omega) (by omega) (by omega) (by omega) MX.out QX.out v6 RPX.out (H22.out.below D6.out) RQX.out (H42.out.below D6.out))
          go_wp2_with fail
          refine HT7.out.mono ?_
          rintro e w7 ⟨b7, Yp, Ypc, Yq, Yqc, rfl, rp, rq⟩
          clear HT7 a0 a1 a2 c0 c1 c2 l0 l1 l2 x0 x1 x2
          have D7 := Lib.hid ((D6.out.trans (b7.mono D6.out.size)).alloc (D6.out.trans (b7.mono D6.out.size)).size (.cells #[.int .i64 fr, .slice Yp nn2 Ypc, .slice Yq nc2 Yqc] 25))
          have RPY := Lib.hid (Pts.below rp (ext1 w7 (.cells #[.int .i64 fr, .slice Yp nn2 Ypc, .slice Yq nc2 Yqc] 25))); have RQY := Lib.hid (Qus.below rq (ext1 w7 (.cells #[.int .i64 fr, .slice Yp nn2 Ypc, .slice Yq nc2 Yqc] 25)))
          have BY := Lib.hid (blk_new w7 #[.int .i64 fr, .slice Yp nn2 Ypc, .slice Yq nc2 Yqc] 25)
          replace S1 := Lib.hid (blk_alloc (blk_below S1.out b7 (blk_lt S1.out)) (.cells #[.int .i64 fr, .slice Yp nn2 Ypc, .slice Yq nc2 Yqc] 25))
          replace K1 := Lib.hid (blk_alloc (blk_below K1.out b7 (blk_lt K1.out)) (.cells #[.int .i64 fr, .slice Yp nn2 Ypc, .slice Yq nc2 Yqc] 25))
          replace L1 := Lib.hid (blk_alloc (blk_below L1.out b7 (blk_lt L1.out)) (.cells #[.int .i64 fr, .slice Yp nn2 Ypc, .slice Yq nc2 Yqc] 25))
          replace BX := Lib.hid (blk_alloc (blk_below BX.out b7 (blk_lt BX.out)) (.cells #[.int .i64 fr, .slice Yp nn2 Ypc, .slice Yq nc2 Yqc] 25))
          replace RPX := Lib.hid (Pts.below (Pts.below RPX.out b7) (ext1 w7 (.cells #[.int .i64 fr, .slice Yp nn2 Ypc, .slice Yq nc2 Yqc] 25))); replace RQX := Lib.hid (Qus.below (Qus.below RQX.out b7) (ext1 w7 (.cells #[.int .i64 fr, .slice Yp nn2 Ypc, .slice Yq nc2 Yqc] 25)))
          clear b7 rp rq D6
          rw [HY.out] at RPY; rw [HYQ.out] at RQY
          have y0 := blk_cell BY.out 0
          have y1 := blk_cell BY.out 1
          have y2 := blk_cell BY.out 2
          have a0 := blk_cell S1.out 0
          have a1 := blk_cell S1.out 1
          have a2 := blk_cell S1.out 2
          have c0 := blk_cell K1.out 0
          have c1 := blk_cell K1.out 1
          have c2 := blk_cell K1.out 2
          have l0 := blk_cell L1.out 0
          have l1 := blk_cell L1.out 1
          have l2 := blk_cell L1.out 2
          go_wp2_with fail
          generalize (w7.alloc (.cells #[.int .i64 fr, .slice Yp nn2 Ypc, .slice Yq nc2 Yqc] 25)) = v7 at *
          have HT8 := Lib.hid (move_rd fr Y pn YQ cs Yp Yq Aw An Ac nn2 Ypc nc2 Yqc nw cw nn cn nc cc LY.out HNN.out LYQ.out HNC.out (by omega) (by omega) (by omega) (by omega) MY.out QY.out v7 RPY.out (H2.out.below D7.out) RQY.out (H4.out.below D7.out))
          go_wp2_with fail
          refine HT8.out.mono ?_
          rintro e w8 ⟨b8, Zp, Zpc, Zq, Zqc, rfl, rp, rq⟩
          clear HT8 a0 a1 a2 c0 c1 c2 l0 l1 l2 y0 y1 y2
          have D8 := Lib.hid ((D7.out.trans (b8.mono D7.out.size)).alloc (D7.out.trans (b8.mono D7.out.size)).size (.cells #[.int .i64 fr, .slice Zp nn Zpc, .slice Zq nc Zqc] 25))
          have RPZ := Lib.hid (Pts.below rp (ext1 w8 (.cells #[.int .i64 fr, .slice Zp nn Zpc, .slice Zq nc Zqc] 25))); have RQZ := Lib.hid (Qus.below rq (ext1 w8 (.cells #[.int .i64 fr, .slice Zp nn Zpc, .slice Zq nc Zqc] 25)))
          have BZ := Lib.hid (blk_new w8 #[.int .i64 fr, .slice Zp nn Zpc, .slice Zq nc Zqc] 25)
          replace S1 := Lib.hid (blk_alloc (blk_below S1.out b8 (blk_lt S1.out)) (.cells #[.int .i64 fr, .slice Zp nn Zpc, .slice Zq nc Zqc] 25))
          replace K1 := Lib.hid (blk_alloc (blk_below K1.out b8 (blk_lt K1.out)) (.cells #[.int .i64 fr, .slice Zp nn Zpc, .slice Zq nc Zqc] 25))
          replace L1 := Lib.hid (blk_alloc (blk_below L1.out b8 (blk_lt L1.out)) (.cells #[.int .i64 fr, .slice Zp nn Zpc, .slice Zq nc Zqc] 25))
          replace BX := Lib.hid (blk_alloc (blk_below BX.out b8 (blk_lt BX.out)) (.cells #[.int .i64 fr, .slice Zp nn Zpc, .slice Zq nc Zqc] 25))
          replace BY := Lib.hid (blk_alloc (blk_below BY.out b8 (blk_lt BY.out)) (.cells #[.int .i64 fr, .slice Zp nn Zpc, .slice Zq nc Zqc] 25))
          replace RPX := Lib.hid (Pts.below (Pts.below RPX.out b8) (ext1 w8 (.cells #[.int .i64 fr, .slice Zp nn Zpc, .slice Zq nc Zqc] 25))); replace RQX := Lib.hid (Qus.below (Qus.below RQX.out b8) (ext1 w8 (.cells #[.int .i64 fr, .slice Zp nn Zpc, .slice Zq nc Zqc] 25)))
          replace RPY := Lib.hid (Pts.below (Pts.below RPY.out b8) (ext1 w8 (.cells #[.int .i64 fr, .slice Zp nn Zpc, .slice Zq nc Zqc] 25))); replace RQY := Lib.hid (Qus.below (Qus.below RQY.out b8) (ext1 w8 (.cells #[.int .i64 fr, .slice Zp nn Zpc, .slice Zq nc Zqc] 25)))
          clear b8 rp rq D7
          go_wp2_with fail
          generalize (w8.alloc (.cells #[.int .i64 fr, .slice Zp nn Zpc, .slice Zq nc Zqc] 25)) = v8 at *
          have HSALL := Lib.hid (show ∀ w', Below v8.heap.size v8 w' → (Below v8.heap.size v8 w' ∧ w'.cell? ⟨w.heap.size + 1, 0, none⟩ = some (.slice Aw nw cw) ∧ w'.cell? ⟨w.heap.size + 1, 1, none⟩ = some (.slice An nn cn) ∧ w'.cell? ⟨w.heap.size + 1, 2, none⟩ = some (.slice Ac nc cc) ∧ w'.cell? ⟨w.heap.size + 2, 0, none⟩ = some (.slice Aw2 nw2 cw2) ∧ w'.cell? ⟨w.heap.size + 2, 1, none⟩ = some (.slice An2 nn2 cn2) ∧ w'.cell? ⟨w.heap.size + 2, 2, none⟩ = some (.slice Ac2 nc2 cc2) ∧ w'.cell? ⟨w6.heap.size, 0, none⟩ = some (.int .i64 fr) ∧ w'.cell? ⟨w6.heap.size, 1, none⟩ = some (.slice Xp nn Xpc) ∧ w'.cell? ⟨w6.heap.size, 2, none⟩ = some (.slice Xq nc Xqc) ∧ w'.cell? ⟨w7.heap.size, 0, none⟩ = some (.int .i64 fr) ∧ w'.cell? ⟨w7.heap.size, 1, none⟩ = some (.slice Yp nn2 Ypc) ∧ w'.cell? ⟨w7.heap.size, 2, none⟩ = some (.slice Yq nc2 Yqc)) from fun w' hb => ⟨hb, blk_cell (blk_below K1.out hb (blk_lt K1.out)) 0, blk_cell (blk_below K1.out hb (blk_lt K1.out)) 1, blk_cell (blk_below K1.out hb (blk_lt K1.out)) 2, blk_cell (blk_below L1.out hb (blk_lt L1.out)) 0, blk_cell (blk_below L1.out hb (blk_lt L1.out)) 1, blk_cell (blk_below L1.out hb (blk_lt L1.out)) 2, blk_cell (blk_below BX.out hb (blk_lt BX.out)) 0, blk_cell (blk_below BX.out hb (blk_lt BX.out)) 1, blk_cell (blk_below BX.out hb (blk_lt BX.out)) 2, blk_cell (blk_below BY.out hb (blk_lt BY.out)) 0, blk_cell (blk_below BY.out hb (blk_lt BY.out)) 1, blk_cell (blk_below BY.out hb (blk_lt BY.out)) 2⟩)
          have HTM := Lib.hid (fun W (hW : Below v8.heap.size v8 W) => keptIds fr X pn2 XQ cs2 Xp Xq Aw2 An2 Ac2 nn Xpc nc Xqc nw2 cw2 nn2 cn2 nc2 cc2 LX.out HNN2.out LXQ.out HNC2.out (by omega) (by omega) (by omega) (by omega) MX.out QX.out W (Pts.below RPX.out hW) (H22.out.below (D8.out.trans (hW.mono D8.out.size))) (Qus.below RQX.out hW) (H42.out.below (D8.out.trans (hW.mono D8.out.size))))
          have HTN := Lib.hid (fun W (hW : Below v8.heap.size v8 W) => keptIds fr Y pn YQ cs Yp Yq Aw An Ac nn2 Ypc nc2 Yqc nw cw nn cn nc cc LY.out HNN.out LYQ.out HNC.out (by omega) (by omega) (by omega) (by omega) MY.out QY.out W (Pts.below RPY.out hW) (H2.out.below (D8.out.trans (hW.mono D8.out.size))) (Qus.below RQY.out hW) (H4.out.below (D8.out.trans (hW.mono D8.out.size))))
          have hk8 : Below v8.heap.size v8 v8.drew := (Below.refl v8.heap.size v8).drew
          go_region_held3 (fun w' => Below v8.heap.size v8 w' ∧ w'.cell? ⟨w.heap.size + 1, 0, none⟩ = some (.slice Aw nw cw) ∧ w'.cell? ⟨w.heap.size + 1, 1, none⟩ = some (.slice An nn cn) ∧ w'.cell? ⟨w.heap.size + 1, 2, none⟩ = some (.slice Ac nc cc) ∧ w'.cell? ⟨w.heap.size + 2, 0, none⟩ = some (.slice Aw2 nw2 cw2) ∧ w'.cell? ⟨w.heap.size + 2, 1, none⟩ = some (.slice An2 nn2 cn2) ∧ w'.cell? ⟨w.heap.size + 2, 2, none⟩ = some (.slice Ac2 nc2 cc2) ∧ w'.cell? ⟨w6.heap.size, 0, none⟩ = some (.int .i64 fr) ∧ w'.cell? ⟨w6.heap.size, 1, none⟩ = some (.slice Xp nn Xpc) ∧ w'.cell? ⟨w6.heap.size, 2, none⟩ = some (.slice Xq nc Xqc) ∧ w'.cell? ⟨w7.heap.size, 0, none⟩ = some (.int .i64 fr) ∧ w'.cell? ⟨w7.heap.size, 1, none⟩ = some (.slice Yp nn2 Ypc) ∧ w'.cell? ⟨w7.heap.size, 2, none⟩ = some (.slice Yq nc2 Yqc))
            (first | (with_reducible exact HSALL.out _ hk8) | (with_reducible exact HSALL.out _ (by assumption)))
            (first
              | ((with_reducible refine (HTM.out _ (And.left (by assumption))).mono ?_); rintro e w9 ⟨b9, At, ct, rfl, rt⟩; have hk9 : Below v8.heap.size v8 w9 := Below.trans (And.left (by assumption)) (Below.mono b9 (Below.size (And.left (by assumption)))))
              | ((with_reducible refine (HTN.out _ (And.left (by assumption))).mono ?_); rintro e w10 ⟨b10, Ab, cb, rfl, rb⟩; have hk10 : Below v8.heap.size v8 w10 := Below.trans (And.left (by assumption)) (Below.mono b10 (Below.size (And.left (by assumption))))))
          have D10 := Lib.hid (D8.out.trans (hk10.mono D8.out.size))
          have RT := Lib.hid (rt.below b10); have RB := Lib.hid rb
          replace S1 := Lib.hid (blk_below S1.out hk10 (blk_lt S1.out))
          replace K1 := Lib.hid (blk_below K1.out hk10 (blk_lt K1.out))
          replace L1 := Lib.hid (blk_below L1.out hk10 (blk_lt L1.out))
          replace BX := Lib.hid (blk_below BX.out hk10 (blk_lt BX.out))
          replace BY := Lib.hid (blk_below BY.out hk10 (blk_lt BY.out))
          replace BZ := Lib.hid (blk_below BZ.out hk10 (blk_lt BZ.out))
          replace RPX := Lib.hid (Pts.below RPX.out hk10)
          replace RPY := Lib.hid (Pts.below RPY.out hk10)
          replace RPZ := Lib.hid (Pts.below RPZ.out hk10)
          clear HSALL HTM HTN rt rb hk8 hk9 b9 b10 RQX RQY RQZ
          have c0 := blk_cell K1.out 0
          have c1 := blk_cell K1.out 1
          have c2 := blk_cell K1.out 2
          have HT11 := Lib.hid (move_rd 0 [] pn [] cs none none Aw An Ac 0 0 0 0 nw cw nn cn nc cc rfl HNN.out rfl HNC.out (by omega) (by omega) (by omega) (by omega) (by simp) (by simp) w10 Pts.nil (H2.out.below D10.out) Qus.nil (H4.out.below D10.out))
          clear hk10
          go_wp2_with fail
          refine HT11.out.mono ?_
          rintro e w11 ⟨b11, Np, Npc, Nq, Nqc, rfl, rp, _⟩
          clear HT11 c0 c1 c2
          have D11 := Lib.hid ((D10.out.trans (b11.mono D10.out.size)).alloc (D10.out.trans (b11.mono D10.out.size)).size (.cells #[.int .i64 0, .slice Np nn Npc, .slice Nq nc Nqc] 25))
          have RPN := Lib.hid (Pts.below rp (ext1 w11 (.cells #[.int .i64 0, .slice Np nn Npc, .slice Nq nc Nqc] 25)))
          have BN := Lib.hid (blk_new w11 #[.int .i64 0, .slice Np nn Npc, .slice Nq nc Nqc] 25)
          replace BX := Lib.hid (blk_alloc (blk_below BX.out b11 (blk_lt BX.out)) (.cells #[.int .i64 0, .slice Np nn Npc, .slice Nq nc Nqc] 25))
          replace BZ := Lib.hid (blk_alloc (blk_below BZ.out b11 (blk_lt BZ.out)) (.cells #[.int .i64 0, .slice Np nn Npc, .slice Nq nc Nqc] 25))
          replace RPX := Lib.hid (Pts.below (Pts.below RPX.out b11) (ext1 w11 (.cells #[.int .i64 0, .slice Np nn Npc, .slice Nq nc Nqc] 25)))
          replace RPZ := Lib.hid (Pts.below (Pts.below RPZ.out b11) (ext1 w11 (.cells #[.int .i64 0, .slice Np nn Npc, .slice Nq nc Nqc] 25)))
          replace RT := Lib.hid ((RT.out.below b11).below (ext1 w11 (.cells #[.int .i64 0, .slice Np nn Npc, .slice Nq nc Nqc] 25))); replace RB := Lib.hid ((RB.out.below b11).below (ext1 w11 (.cells #[.int .i64 0, .slice Np nn Npc, .slice Nq nc Nqc] 25)))
          clear b11 rp S1 K1 L1 BY RPY D10
          have x0 := blk_cell BX.out 0
          have x1 := blk_cell BX.out 1
          have x2 := blk_cell BX.out 2
          have z0 := blk_cell BZ.out 0
          have z1 := blk_cell BZ.out 1
          have z2 := blk_cell BZ.out 2
          have n0 := blk_cell BN.out 0
          have n1 := blk_cell BN.out 1
          have n2 := blk_cell BN.out 2
          go_wp2_with fail
          generalize (w11.alloc (.cells #[.int .i64 0, .slice Np nn Npc, .slice Nq nc Nqc] 25)) = v11 at *
          clear x0 x1 x2 z0 z1 z2 n0 n1 n2
          obtain ⟨nt, hnt⟩ : ∃ nt, (keptL X pn2).length = nt := ⟨_, rfl⟩
          obtain ⟨nb, hnb⟩ : ∃ nb, (keptL Y pn).length = nb := ⟨_, rfl⟩
          rw [hnt, hnb]
          have hnt20 : nt ≤ 20 := by rw [← hnt]; exact Nat.le_trans (keptL_le _ _) (by rw [HNN2.out]; exact hnn2)
          have hnb20 : nb ≤ 20 := by rw [← hnb]; exact Nat.le_trans (keptL_le _ _) (by rw [HNN.out]; exact hnn)
          have HNT := Lib.hid hnt; have HNB := Lib.hid hnb; clear hnt hnb
          go_loopw [13] (fun iv wr => ∃ k : Nat, k ≤ nn ∧ iv = .int .i64 k ∧ Below v11.heap.size v11 wr) (fun iv _ => nn - (intOf iv).toNat)
          case atStart => exact ⟨0, Nat.zero_le _, rfl, Below.refl _ _⟩
          case round =>
            obtain ⟨k, hk, rfl, hb⟩ := hrel
            have BR := Lib.hid hb; clear hb
            have XR := Lib.hid (blk_below BX.out BR.out (blk_lt BX.out)); have ZR := Lib.hid (blk_below BZ.out BR.out (blk_lt BZ.out)); have NR := Lib.hid (blk_below BN.out BR.out (blk_lt BN.out))
            have z1 := blk_cell ZR.out 1
            have x1 := blk_cell XR.out 1
            by_cases hkl : k < nn
            · have hki : (k : Int) < (nn : Int) := by omega
              obtain ⟨pk, hpk⟩ : ∃ p, pn[k]? = some p := ⟨_, List.getElem?_eq_getElem (by rw [HNN.out]; exact hkl)⟩
              obtain ⟨x, hxe⟩ : ∃ x, (keptP ps pk).getD (freshP pk) = x := ⟨_, rfl⟩
              have hxk : X[k]? = some x := by rw [← HX.out, ← hxe]; exact moveP_at hpk
              have hxid : x.id = pk.id := by rw [← hxe]; exact moveP_id ps pk
              obtain ⟨bx, ox, rfl, _⟩ := Rws.addr pt_len (by decide) RPX.out (by rw [LX.out]; omega)
              obtain ⟨bz, oz, rfl, _⟩ := Rws.addr pt_len (by decide) RPZ.out (by rw [moveP_length, HNN.out]; omega)
              obtain ⟨bn, on, rfl, _⟩ := Rws.addr pt_len (by decide) RPN.out (by rw [moveP_length, HNN.out]; omega)
              obtain ⟨A1, d1, hin1, hcx⟩ := Rws.at pt_len (Pts.below RPX.out BR.out) hxk
              obtain ⟨A2, d2, hin2, hcz⟩ := Rws.at pt_len (Pts.below RPZ.out BR.out) (moveP_at (ps := Y) hpk)
              obtain ⟨A3, d3, hin3, hcn⟩ := Rws.at pt_len (Pts.below RPN.out BR.out) (moveP_nil hpk)
              have HPK := Lib.hid hpk; have HXE := Lib.hid hxe; have HXK := Lib.hid hxk; have HXID := Lib.hid hxid; clear hpk hxe hxk hxid
              have HCX := Lib.hid hcx; have HCZ := Lib.hid hcz; have HCN := Lib.hid hcn; have HI1 := Lib.hid hin1; have HI2 := Lib.hid hin2; have HI3 := Lib.hid hin3; clear hcx hcz hcn hin1 hin2 hin3
              have y0 := HCX.out 0 _ rfl
              dsimp only [Pt.cells, Nat.add_zero] at y0
              have HTT := Lib.hid (fun W (hW : Below wr.heap.size wr W) => has (keptL X pn2) x.id At nt ct HNT.out (by omega) W (RT.out.below (BR.out.trans (hW.mono BR.out.size))))
              have HTB := Lib.hid (fun W (hW : Below wr.heap.size wr W) => has (keptL Y pn) x.id Ab nb cb HNB.out (by omega) W (RB.out.below (BR.out.trans (hW.mono BR.out.size))))
              by_cases ht : x.id ∈ keptL X pn2
              · simp only [decide_eq_true ht] at HTT
                have HT := Lib.hid ht; clear ht
                go_wp2_with fail
                refine (HTT.out _ (Below.refl _ _)).mono ?_
                rintro e wa ⟨rfl, ba⟩
                have BA := Lib.hid ba; clear ba
                by_cases hbk : x.id ∈ keptL Y pn
                · simp only [decide_eq_true hbk] at HTB
                  have HBK := Lib.hid hbk; clear hbk
                  go_wp2_with fail
                  refine (HTB.out _ BA.out).mono ?_
                  rintro e wb2 ⟨rfl, bb⟩
                  have BB := Lib.hid (BA.out.trans (bb.mono BA.out.size)); clear bb
                  have xx1 := xc (blk_cell (blk_below XR.out BB.out (blk_lt XR.out)) 1)
                  have zz1 := xc (blk_cell (blk_below ZR.out BB.out (blk_lt ZR.out)) 1)
                  have nn1 := xc (blk_cell (blk_below NR.out BB.out (blk_lt NR.out)) 1)
                  have hz : (keptP Y pk).getD (freshP pk) = x := by
                    have := back_kept (ps := ps) HU.out.2 HU2.out HPK.out (by rw [HX.out, ← HXID.out]; exact HT.out) (by rw [HX.out, HY.out, ← HXID.out]; exact HBK.out)
                    rw [HX.out, HY.out] at this
                    rw [this]; exact HXE.out
                  have hcz := HCZ.out; have hin2 := HI2.out; rw [hz] at hcz hin2
                  have cx0 := xc ((BB.out.cell (p := ⟨_, _, none⟩) (World.block_lt_of_cell? wr _ (HCX.out 0 _ rfl))).trans (HCX.out 0 _ rfl))
                  have cx1 := xc ((BB.out.cell (p := ⟨_, _, none⟩) (World.block_lt_of_cell? wr _ (HCX.out 1 _ rfl))).trans (HCX.out 1 _ rfl))
                  have cx2 := xc ((BB.out.cell (p := ⟨_, _, none⟩) (World.block_lt_of_cell? wr _ (HCX.out 2 _ rfl))).trans (HCX.out 2 _ rfl))
                  have cx3 := xc ((BB.out.cell (p := ⟨_, _, none⟩) (World.block_lt_of_cell? wr _ (HCX.out 3 _ rfl))).trans (HCX.out 3 _ rfl))
                  have cx4 := xc ((BB.out.cell (p := ⟨_, _, none⟩) (World.block_lt_of_cell? wr _ (HCX.out 4 _ rfl))).trans (HCX.out 4 _ rfl))
                  have cx5 := xc ((BB.out.cell (p := ⟨_, _, none⟩) (World.block_lt_of_cell? wr _ (HCX.out 5 _ rfl))).trans (HCX.out 5 _ rfl))
                  have cx6 := xc ((BB.out.cell (p := ⟨_, _, none⟩) (World.block_lt_of_cell? wr _ (HCX.out 6 _ rfl))).trans (HCX.out 6 _ rfl))
                  have cx7 := xc ((BB.out.cell (p := ⟨_, _, none⟩) (World.block_lt_of_cell? wr _ (HCX.out 7 _ rfl))).trans (HCX.out 7 _ rfl))
                  have cx8 := xc ((BB.out.cell (p := ⟨_, _, none⟩) (World.block_lt_of_cell? wr _ (HCX.out 8 _ rfl))).trans (HCX.out 8 _ rfl))
                  have cx9 := xc ((BB.out.cell (p := ⟨_, _, none⟩) (World.block_lt_of_cell? wr _ (HCX.out 9 _ rfl))).trans (HCX.out 9 _ rfl))
                  have cx10 := xc ((BB.out.cell (p := ⟨_, _, none⟩) (World.block_lt_of_cell? wr _ (HCX.out 10 _ rfl))).trans (HCX.out 10 _ rfl))
                  have cx11 := xc ((BB.out.cell (p := ⟨_, _, none⟩) (World.block_lt_of_cell? wr _ (HCX.out 11 _ rfl))).trans (HCX.out 11 _ rfl))
                  have cx12 := xc ((BB.out.cell (p := ⟨_, _, none⟩) (World.block_lt_of_cell? wr _ (HCX.out 12 _ rfl))).trans (HCX.out 12 _ rfl))
                  have cx13 := xc ((BB.out.cell (p := ⟨_, _, none⟩) (World.block_lt_of_cell? wr _ (HCX.out 13 _ rfl))).trans (HCX.out 13 _ rfl))
                  dsimp only [Pt.cells, Nat.add_zero] at cx0 cx1 cx2 cx3 cx4 cx5 cx6 cx7 cx8 cx9 cx10 cx11 cx12 cx13
                  have cz0 := xc ((BB.out.cell (p := ⟨_, _, none⟩) (World.block_lt_of_cell? wr _ (hcz 0 _ rfl))).trans (hcz 0 _ rfl))
                  have cz1 := xc ((BB.out.cell (p := ⟨_, _, none⟩) (World.block_lt_of_cell? wr _ (hcz 1 _ rfl))).trans (hcz 1 _ rfl))
                  have cz2 := xc ((BB.out.cell (p := ⟨_, _, none⟩) (World.block_lt_of_cell? wr _ (hcz 2 _ rfl))).trans (hcz 2 _ rfl))
                  have cz3 := xc ((BB.out.cell (p := ⟨_, _, none⟩) (World.block_lt_of_cell? wr _ (hcz 3 _ rfl))).trans (hcz 3 _ rfl))
                  have cz4 := xc ((BB.out.cell (p := ⟨_, _, none⟩) (World.block_lt_of_cell? wr _ (hcz 4 _ rfl))).trans (hcz 4 _ rfl))
                  have cz5 := xc ((BB.out.cell (p := ⟨_, _, none⟩) (World.block_lt_of_cell? wr _ (hcz 5 _ rfl))).trans (hcz 5 _ rfl))
                  have cz6 := xc ((BB.out.cell (p := ⟨_, _, none⟩) (World.block_lt_of_cell? wr _ (hcz 6 _ rfl))).trans (hcz 6 _ rfl))
                  have cz7 := xc ((BB.out.cell (p := ⟨_, _, none⟩) (World.block_lt_of_cell? wr _ (hcz 7 _ rfl))).trans (hcz 7 _ rfl))
                  have cz8 := xc ((BB.out.cell (p := ⟨_, _, none⟩) (World.block_lt_of_cell? wr _ (hcz 8 _ rfl))).trans (hcz 8 _ rfl))
                  have cz9 := xc ((BB.out.cell (p := ⟨_, _, none⟩) (World.block_lt_of_cell? wr _ (hcz 9 _ rfl))).trans (hcz 9 _ rfl))
                  have cz10 := xc ((BB.out.cell (p := ⟨_, _, none⟩) (World.block_lt_of_cell? wr _ (hcz 10 _ rfl))).trans (hcz 10 _ rfl))
                  have cz11 := xc ((BB.out.cell (p := ⟨_, _, none⟩) (World.block_lt_of_cell? wr _ (hcz 11 _ rfl))).trans (hcz 11 _ rfl))
                  have cz12 := xc ((BB.out.cell (p := ⟨_, _, none⟩) (World.block_lt_of_cell? wr _ (hcz 12 _ rfl))).trans (hcz 12 _ rfl))
                  have cz13 := xc ((BB.out.cell (p := ⟨_, _, none⟩) (World.block_lt_of_cell? wr _ (hcz 13 _ rfl))).trans (hcz 13 _ rfl))
                  dsimp only [Pt.cells, Nat.add_zero] at cz0 cz1 cz2 cz3 cz4 cz5 cz6 cz7 cz8 cz9 cz10 cz11 cz12 cz13
                  have TE := fun v : Ext wb2.heap.size wb2 => part_eq x A2 A1 x.mem.length d2 d1 rfl (MX.out x (List.mem_of_getElem? HXK.out)) v.world ((hin2.2.2.below BB.out).below v.below) ((HI1.out.2.2.below BB.out).below v.below)
                  clear hz hcz hin2 nn1
                  go_wp2_with fail
                  refine region_ext (by kernel_rfl) (by kernel_rfl) ?_
                  try simp only [List.append_eq, List.cons_append, List.nil_append]
                  repeat (go_big_quiet_step (with_reducible exact calls_ext (Nat.le_refl _) (TE _)))
                  refine wpQuiet_nil ?_
                  intro v
                  have BV := Lib.hid (BB.out.trans (v.below.mono BB.out.size))
                  go_wp2
                  go_roundw
                  case rel => exact ⟨k + 1, by omega, by go_num, BR.out.trans (BV.out.mono BR.out.size)⟩
                  case measure => simp [intOf] <;> omega
                · simp only [decide_eq_false hbk] at HTB
                  have HBK := Lib.hid hbk; clear hbk
                  go_wp2_with fail
                  refine (HTB.out _ BA.out).mono ?_
                  rintro e wb2 ⟨rfl, bb⟩
                  have BB := Lib.hid (BA.out.trans (bb.mono BA.out.size)); clear bb
                  have xx1 := xc (blk_cell (blk_below XR.out BB.out (blk_lt XR.out)) 1)
                  have zz1 := xc (blk_cell (blk_below ZR.out BB.out (blk_lt ZR.out)) 1)
                  have nn1 := xc (blk_cell (blk_below NR.out BB.out (blk_lt NR.out)) 1)
                  have NT := fun v : Ext wb2.heap.size wb2 => HTT.out v.world (BB.out.trans (v.below.mono BB.out.size))
                  have NB := fun v : Ext wb2.heap.size wb2 => HTB.out v.world (BB.out.trans (v.below.mono BB.out.size))
                  clear xx1 nn1 zz1
                  go_wp2_with fail
                  refine region_ext (by kernel_rfl) (by kernel_rfl) ?_
                  try simp only [List.append_eq, List.cons_append, List.nil_append]
                  repeat (go_big_quiet_step (first | (with_reducible exact calls_ext (Nat.le_refl _) (NT _)) | (with_reducible exact calls_ext (Nat.le_refl _) (NB _))))
                  refine wpQuiet_nil ?_
                  intro v
                  have BV := Lib.hid (BB.out.trans (v.below.mono BB.out.size))
                  go_wp2
                  go_roundw
                  case rel => exact ⟨k + 1, by omega, by go_num, BR.out.trans (BV.out.mono BR.out.size)⟩
                  case measure => simp [intOf] <;> omega
              · simp only [decide_eq_false ht] at HTT
                have HT := Lib.hid ht; clear ht
                go_wp2_with fail
                refine (HTT.out _ (Below.refl _ _)).mono ?_
                rintro e wa ⟨rfl, ba⟩
                have BA := Lib.hid ba; clear ba
                by_cases hbk : x.id ∈ keptL Y pn
                · simp only [decide_eq_true hbk] at HTB
                  have HBK := Lib.hid hbk; clear hbk
                  have xx1 := xc (blk_cell (blk_below XR.out BA.out (blk_lt XR.out)) 1)
                  have zz1 := xc (blk_cell (blk_below ZR.out BA.out (blk_lt ZR.out)) 1)
                  have nn1 := xc (blk_cell (blk_below NR.out BA.out (blk_lt NR.out)) 1)
                  have NT := fun v : Ext wa.heap.size wa => HTT.out v.world (BA.out.trans (v.below.mono BA.out.size))
                  have NB := fun v : Ext wa.heap.size wa => HTB.out v.world (BA.out.trans (v.below.mono BA.out.size))
                  clear xx1 nn1 zz1
                  go_wp2_with fail
                  refine region_ext (by kernel_rfl) (by kernel_rfl) ?_
                  try simp only [List.append_eq, List.cons_append, List.nil_append]
                  repeat (go_big_quiet_step (first | (with_reducible exact calls_ext (Nat.le_refl _) (NT _)) | (with_reducible exact calls_ext (Nat.le_refl _) (NB _))))
                  refine wpQuiet_nil ?_
                  intro v
                  have BV := Lib.hid (BA.out.trans (v.below.mono BA.out.size))
                  go_wp2
                  go_roundw
                  case rel => exact ⟨k + 1, by omega, by go_num, BR.out.trans (BV.out.mono BR.out.size)⟩
                  case measure => simp [intOf] <;> omega
                · simp only [decide_eq_false hbk] at HTB
                  have HBK := Lib.hid hbk; clear hbk
                  have xx1 := xc (blk_cell (blk_below XR.out BA.out (blk_lt XR.out)) 1)
                  have zz1 := xc (blk_cell (blk_below ZR.out BA.out (blk_lt ZR.out)) 1)
                  have nn1 := xc (blk_cell (blk_below NR.out BA.out (blk_lt NR.out)) 1)
                  have hz : (keptP Y pk).getD (freshP pk) = freshP pk := by rw [back_not (List.mem_of_getElem? HPK.out) (by rw [← HXID.out]; exact HBK.out)]; rfl
                  have hcz := HCZ.out; have hin2 := HI2.out; rw [hz] at hcz hin2
                  have hcn := HCN.out; have hin3 := HI3.out
                  obtain ⟨f, hf⟩ : ∃ f, freshP pk = f := ⟨_, rfl⟩
                  have hfm : f.mem.length ≤ 1000000 := by rw [← hf]; exact Nat.le_trans (freshP_mem pk) (by decide)
                  rw [hf] at hcz hin2 hcn hin3
                  have cz0 := xc ((BA.out.cell (p := ⟨_, _, none⟩) (World.block_lt_of_cell? wr _ (hcz 0 _ rfl))).trans (hcz 0 _ rfl))
                  have cz1 := xc ((BA.out.cell (p := ⟨_, _, none⟩) (World.block_lt_of_cell? wr _ (hcz 1 _ rfl))).trans (hcz 1 _ rfl))
                  have cz2 := xc ((BA.out.cell (p := ⟨_, _, none⟩) (World.block_lt_of_cell? wr _ (hcz 2 _ rfl))).trans (hcz 2 _ rfl))
                  have cz3 := xc ((BA.out.cell (p := ⟨_, _, none⟩) (World.block_lt_of_cell? wr _ (hcz 3 _ rfl))).trans (hcz 3 _ rfl))
                  have cz4 := xc ((BA.out.cell (p := ⟨_, _, none⟩) (World.block_lt_of_cell? wr _ (hcz 4 _ rfl))).trans (hcz 4 _ rfl))
                  have cz5 := xc ((BA.out.cell (p := ⟨_, _, none⟩) (World.block_lt_of_cell? wr _ (hcz 5 _ rfl))).trans (hcz 5 _ rfl))
                  have cz6 := xc ((BA.out.cell (p := ⟨_, _, none⟩) (World.block_lt_of_cell? wr _ (hcz 6 _ rfl))).trans (hcz 6 _ rfl))
                  have cz7 := xc ((BA.out.cell (p := ⟨_, _, none⟩) (World.block_lt_of_cell? wr _ (hcz 7 _ rfl))).trans (hcz 7 _ rfl))
                  have cz8 := xc ((BA.out.cell (p := ⟨_, _, none⟩) (World.block_lt_of_cell? wr _ (hcz 8 _ rfl))).trans (hcz 8 _ rfl))
                  have cz9 := xc ((BA.out.cell (p := ⟨_, _, none⟩) (World.block_lt_of_cell? wr _ (hcz 9 _ rfl))).trans (hcz 9 _ rfl))
                  have cz10 := xc ((BA.out.cell (p := ⟨_, _, none⟩) (World.block_lt_of_cell? wr _ (hcz 10 _ rfl))).trans (hcz 10 _ rfl))
                  have cz11 := xc ((BA.out.cell (p := ⟨_, _, none⟩) (World.block_lt_of_cell? wr _ (hcz 11 _ rfl))).trans (hcz 11 _ rfl))
                  have cz12 := xc ((BA.out.cell (p := ⟨_, _, none⟩) (World.block_lt_of_cell? wr _ (hcz 12 _ rfl))).trans (hcz 12 _ rfl))
                  have cz13 := xc ((BA.out.cell (p := ⟨_, _, none⟩) (World.block_lt_of_cell? wr _ (hcz 13 _ rfl))).trans (hcz 13 _ rfl))
                  dsimp only [Pt.cells, Nat.add_zero] at cz0 cz1 cz2 cz3 cz4 cz5 cz6 cz7 cz8 cz9 cz10 cz11 cz12 cz13
                  have cn0 := xc ((BA.out.cell (p := ⟨_, _, none⟩) (World.block_lt_of_cell? wr _ (hcn 0 _ rfl))).trans (hcn 0 _ rfl))
                  have cn1 := xc ((BA.out.cell (p := ⟨_, _, none⟩) (World.block_lt_of_cell? wr _ (hcn 1 _ rfl))).trans (hcn 1 _ rfl))
                  have cn2 := xc ((BA.out.cell (p := ⟨_, _, none⟩) (World.block_lt_of_cell? wr _ (hcn 2 _ rfl))).trans (hcn 2 _ rfl))
                  have cn3 := xc ((BA.out.cell (p := ⟨_, _, none⟩) (World.block_lt_of_cell? wr _ (hcn 3 _ rfl))).trans (hcn 3 _ rfl))
                  have cn4 := xc ((BA.out.cell (p := ⟨_, _, none⟩) (World.block_lt_of_cell? wr _ (hcn 4 _ rfl))).trans (hcn 4 _ rfl))
                  have cn5 := xc ((BA.out.cell (p := ⟨_, _, none⟩) (World.block_lt_of_cell? wr _ (hcn 5 _ rfl))).trans (hcn 5 _ rfl))
                  have cn6 := xc ((BA.out.cell (p := ⟨_, _, none⟩) (World.block_lt_of_cell? wr _ (hcn 6 _ rfl))).trans (hcn 6 _ rfl))
                  have cn7 := xc ((BA.out.cell (p := ⟨_, _, none⟩) (World.block_lt_of_cell? wr _ (hcn 7 _ rfl))).trans (hcn 7 _ rfl))
                  have cn8 := xc ((BA.out.cell (p := ⟨_, _, none⟩) (World.block_lt_of_cell? wr _ (hcn 8 _ rfl))).trans (hcn 8 _ rfl))
                  have cn9 := xc ((BA.out.cell (p := ⟨_, _, none⟩) (World.block_lt_of_cell? wr _ (hcn 9 _ rfl))).trans (hcn 9 _ rfl))
                  have cn10 := xc ((BA.out.cell (p := ⟨_, _, none⟩) (World.block_lt_of_cell? wr _ (hcn 10 _ rfl))).trans (hcn 10 _ rfl))
                  have cn11 := xc ((BA.out.cell (p := ⟨_, _, none⟩) (World.block_lt_of_cell? wr _ (hcn 11 _ rfl))).trans (hcn 11 _ rfl))
                  have cn12 := xc ((BA.out.cell (p := ⟨_, _, none⟩) (World.block_lt_of_cell? wr _ (hcn 12 _ rfl))).trans (hcn 12 _ rfl))
                  have cn13 := xc ((BA.out.cell (p := ⟨_, _, none⟩) (World.block_lt_of_cell? wr _ (hcn 13 _ rfl))).trans (hcn 13 _ rfl))
                  dsimp only [Pt.cells, Nat.add_zero] at cn0 cn1 cn2 cn3 cn4 cn5 cn6 cn7 cn8 cn9 cn10 cn11 cn12 cn13
                  have TE := fun v : Ext wa.heap.size wa => part_eq f A2 A3 f.mem.length d2 d3 rfl hfm v.world ((hin2.2.2.below BA.out).below v.below) ((hin3.2.2.below BA.out).below v.below)
                  have NT := fun v : Ext wa.heap.size wa => HTT.out v.world (BA.out.trans (v.below.mono BA.out.size))
                  have NB := fun v : Ext wa.heap.size wa => HTB.out v.world (BA.out.trans (v.below.mono BA.out.size))
                  clear hz hcz hin2 hcn hin3 hf hfm xx1
                  go_wp2_with fail
                  refine region_ext (by kernel_rfl) (by kernel_rfl) ?_
                  try simp only [List.append_eq, List.cons_append, List.nil_append]
                  repeat (go_big_quiet_step (first | (with_reducible exact calls_ext (Nat.le_refl _) (NT _)) | (with_reducible exact calls_ext (Nat.le_refl _) (NB _)) | (with_reducible exact calls_ext (Nat.le_refl _) (TE _))))
                  refine wpQuiet_nil ?_
                  intro v
                  have BV := Lib.hid (BA.out.trans (v.below.mono BA.out.size))
                  go_wp2
                  go_roundw
                  case rel => exact ⟨k + 1, by omega, by go_num, BR.out.trans (BV.out.mono BR.out.size)⟩
                  case measure => simp [intOf] <;> omega
            · have hkn : nn = k := by omega
              subst hkn
              go_wp2
              go_ret
              exact ⟨rfl, HB.out.trans ((D11.out.trans (BR.out.mono D11.out.size)).mono HB.out.size)⟩
end Go.Proofs.Ytnfjkpeifleogaa.mv
