/- The law MoveMoves; no condition. -/
import Derived.Test.YtnfjkpeifleogaaRows
import Derived.Test.YtnfjkpeifleogaaMvW
namespace Go.Proofs.Ytnfjkpeifleogaa.mv
open Go Go.ChangeShapes Go.WideShapes Go.ChangeAt Go.RowKit Go.Proofs.Ytnfjkpeifleogaa.rows
set_option maxRecDepth 100000 in
set_option maxHeartbeats 8000000 in
theorem movesLaw (fr : Int) (ps : List Pt) (pn : List Pn) (qs : List Qu) (cs : List Ch) (Ap Aq Aw An Ac : Option Addr) (np cp nq cq nw cw nn cn nc cc : Nat) (hnp : ps.length = np) (hnn : pn.length = nn) (hnq : qs.length = nq) (hnc : cs.length = nc) (hml : ∀ x ∈ ps, x.mem.length ≤ 140737488355328) (hqm : ∀ q ∈ qs, q.msgs.length ≤ 140737488355328 ∧ ∀ m ∈ q.msgs, m.length ≤ 140737488355328) (hil : ∀ x ∈ pn, x.img.length ≤ 140737488355328) (w : World) (h : Pts w Ap ps) (h2 : Pns w An pn) (h3 : Qus w Aq qs) (h4 : Rd w Ac (chCells cs)) : Calls Try.prog 6 #[.agg #[.int .i64 fr, .slice Ap np cp, .slice Aq nq cq], .agg #[.slice Aw nw cw, .slice An nn cn, .slice Ac nc cc]] w fun e w' => e = .returned (.bool true) ∧ Below w.heap.size w w' := by
  have hB2 := (((Below.refl w.heap.size w).alloc (Nat.le_refl _) (.cells #[.int .i64 fr, .slice Ap np cp, .slice Aq nq cq] 25)).alloc (by simp) (.cells #[.slice Aw nw cw, .slice An nn cn, .slice Ac nc cc] 30))
  have hs2 : ((w.alloc (.cells #[.int .i64 fr, .slice Ap np cp, .slice Aq nq cq] 25)).alloc (.cells #[.slice Aw nw cw, .slice An nn cn, .slice Ac nc cc] 30)).heap.size = w.heap.size + 2 := by simp
  have G0 := Lib.hid (blk_alloc (blk_new w #[.int .i64 fr, .slice Ap np cp, .slice Aq nq cq] 25) (.cells #[.slice Aw nw cw, .slice An nn cn, .slice Ac nc cc] 30))
  have G1 := Lib.hid (show ((w.alloc (.cells #[.int .i64 fr, .slice Ap np cp, .slice Aq nq cq] 25)).alloc (.cells #[.slice Aw nw cw, .slice An nn cn, .slice Ac nc cc] 30)).heap[w.heap.size + 1]? = some (.cells #[.slice Aw nw cw, .slice An nn cn, .slice Ac nc cc] 30 (0, 0)) by have := blk_new (w.alloc (.cells #[.int .i64 fr, .slice Ap np cp, .slice Aq nq cq] 25)) #[.slice Aw nw cw, .slice An nn cn, .slice Ac nc cc] 30; simpa using this)
  have HB := Lib.hid hB2; have HS2 := Lib.hid hs2
  have H1 := Lib.hid (h.below hB2); have H2 := Lib.hid (h2.below hB2); have H3 := Lib.hid (h3.below hB2); have H4 := Lib.hid (h4.below hB2)
  have HNP := Lib.hid hnp; have HNN := Lib.hid hnn; have HNQ := Lib.hid hnq; have HNC := Lib.hid hnc
  have HML := Lib.hid hml; have HQM := Lib.hid hqm; have HIL := Lib.hid hil
  clear h h2 h3 h4 hB2 hs2 hnp hnn hnq hnc hml hqm hil
  have a0 := blk_cell G0.out 0; have a1 := blk_cell G0.out 1; have a2 := blk_cell G0.out 2; have c0 := blk_cell G1.out 0; have c1 := blk_cell G1.out 1; have c2 := blk_cell G1.out 2
  go_enter Try.func6, Try.ntmps6
  go_wp2_with fail
  generalize ((w.alloc (.cells #[.int .i64 fr, .slice Ap np cp, .slice Aq nq cq] 25)).alloc (.cells #[.slice Aw nw cw, .slice An nn cn, .slice Ac nc cc] 30)) = wb at *
  have HT1 := Lib.hid (great fr ps pn qs Ap Aq Aw An Ac np cp nq cq nw cw nn cn nc cc HNP.out HNN.out HNQ.out HML.out HQM.out HIL.out wb H1.out H2.out H3.out)
  refine HT1.out.mono ?_
  rintro e w1 ⟨v, rfl, hv, b1⟩
  have D1 := Lib.hid b1; clear b1 HT1 a0 a1 a2 c0 c1 c2
  cases v
  case true =>
    clear hv
    go_wp2
    go_ret
    exact ⟨rfl, HB.out.trans (D1.out.mono HB.out.size)⟩
  case false =>
    obtain ⟨t1, t2, t3, t4, t5, t6, t7⟩ := hv rfl
    clear hv
    have hnp : np ≤ 20 := by rw [← HNP.out]; exact t1
    have hnq : nq ≤ 20 := by rw [← HNQ.out]; exact t2
    have hnn : nn ≤ 20 := by rw [← HNN.out]; exact t3
    have hnc := t4
    have ML := Lib.hid (show ∀ x ∈ ps, x.mem.length ≤ 1000000 from fun x hx => Nat.le_trans (t5 x hx) (by decide))
    have QM := Lib.hid (show ∀ q ∈ qs, q.msgs.length ≤ 1000000 ∧ ∀ m ∈ q.msgs, m.length ≤ 1000000 from fun q hq => ⟨Nat.le_trans (t6 q hq).1 (by decide), fun m hm => Nat.le_trans ((t6 q hq).2 m hm) (by decide)⟩)
    have IL := Lib.hid (show ∀ y ∈ pn, y.img.length ≤ 1000000 from fun x hx => Nat.le_trans (t7 x hx) (by decide))
    clear t1 t2 t3 t4 t5 t6 t7 HML HQM HIL
    obtain ⟨X, hX⟩ : ∃ X, moveP ps pn = X := ⟨_, rfl⟩
    obtain ⟨Y, hY⟩ : ∃ X, moveQ ps pn qs cs = X := ⟨_, rfl⟩
    have LX := Lib.hid (show X.length = nn by rw [← hX, moveP_length, HNN.out]); have LY := Lib.hid (show Y.length = nc by rw [← hY, moveQ_length, HNC.out])
    have MX := Lib.hid (show ∀ x ∈ X, x.mem.length ≤ 1000000 by rw [← hX]; exact moveP_le (by decide) ML.out); have QY := Lib.hid (show ∀ q ∈ Y, q.msgs.length ≤ 1000000 ∧ ∀ m ∈ q.msgs, m.length ≤ 1000000 by rw [← hY]; exact moveQ_le QM.out)
    have HX := Lib.hid hX; have HY := Lib.hid hY; clear hX hY
    have S1 := Lib.hid (blk_below G0.out D1.out (blk_lt G0.out)); have K1 := Lib.hid (blk_below G1.out D1.out (blk_lt G1.out))
    have a0 := blk_cell S1.out 0
    have a1 := blk_cell S1.out 1
    have a2 := blk_cell S1.out 2
    have HT2 := Lib.hid (copy_state fr ps qs Ap Aq np nq cp cq HNP.out HNQ.out (by omega) (by omega) ML.out QM.out w1 (H1.out.below D1.out) (H3.out.below D1.out))
    go_wp2_with fail
    refine HT2.out.mono ?_
    rintro e w2 ⟨b2, Mp, mp, Mq, mq, rfl, gp, gq⟩
    clear HT2 a0 a1 a2
    have mq1 : Qus w2 Mq qs := by obtain ⟨A, c, e, _, _, k⟩ := GrowR.form gq; rw [(show Mq = A by injection e)]; exact k
    have D2 := Lib.hid (belowA (D1.out.trans (b2.mono D1.out.size)) (.cells #[.int .i64 fr, .slice Mp np mp, .slice Mq nq mq] 25))
    have MP := Lib.hid (Pts.below gp.pts (ext1 w2 (.cells #[.int .i64 fr, .slice Mp np mp, .slice Mq nq mq] 25))); have MQ := Lib.hid (Qus.below mq1 (ext1 w2 (.cells #[.int .i64 fr, .slice Mp np mp, .slice Mq nq mq] 25)))
    have M1 := Lib.hid (blk_new w2 #[.int .i64 fr, .slice Mp np mp, .slice Mq nq mq] 25)
    replace S1 := Lib.hid (blk_alloc (blk_below S1.out b2 (blk_lt S1.out)) (.cells #[.int .i64 fr, .slice Mp np mp, .slice Mq nq mq] 25))
    replace K1 := Lib.hid (blk_alloc (blk_below K1.out b2 (blk_lt K1.out)) (.cells #[.int .i64 fr, .slice Mp np mp, .slice Mq nq mq] 25))
    clear b2 gp gq mq1 D1
    have a0 := blk_cell S1.out 0
    have a1 := blk_cell S1.out 1
    have a2 := blk_cell S1.out 2
    have c0 := blk_cell K1.out 0
    have c1 := blk_cell K1.out 1
    have c2 := blk_cell K1.out 2
    have HT3 := Lib.hid (rmove fr ps pn qs cs Ap Aq Aw An Ac np cp nq cq nw cw nn cn nc cc HNP.out HNN.out HNQ.out HNC.out (by omega) (by omega) (by omega) (by omega) ML.out QM.out IL.out (w2.alloc (.cells #[.int .i64 fr, .slice Mp np mp, .slice Mq nq mq] 25)) (H1.out.below D2.out) (H2.out.below D2.out) (H3.out.below D2.out) (H4.out.below D2.out))
    go_wp2_with fail
    refine HT3.out.mono ?_
    rintro e w3 ⟨b3, Wp, wp, Wq, wq, rfl, wp1, wq1⟩
    clear HT3 a0 a1 a2 c0 c1 c2
    rw [HX.out] at wp1; rw [HY.out] at wq1
    have D3 := Lib.hid (belowA (D2.out.trans (b3.mono D2.out.size)) (.cells #[.int .i64 fr, .slice Wp nn wp, .slice Wq nc wq] 25))
    have WP := Lib.hid (Pts.below wp1 (ext1 w3 (.cells #[.int .i64 fr, .slice Wp nn wp, .slice Wq nc wq] 25))); have WQ := Lib.hid (Qus.below wq1 (ext1 w3 (.cells #[.int .i64 fr, .slice Wp nn wp, .slice Wq nc wq] 25)))
    have W1 := Lib.hid (blk_new w3 #[.int .i64 fr, .slice Wp nn wp, .slice Wq nc wq] 25)
    replace S1 := Lib.hid (blk_alloc (blk_below S1.out b3 (blk_lt S1.out)) (.cells #[.int .i64 fr, .slice Wp nn wp, .slice Wq nc wq] 25))
    replace K1 := Lib.hid (blk_alloc (blk_below K1.out b3 (blk_lt K1.out)) (.cells #[.int .i64 fr, .slice Wp nn wp, .slice Wq nc wq] 25))
    replace M1 := Lib.hid (blk_alloc (blk_below M1.out b3 (blk_lt M1.out)) (.cells #[.int .i64 fr, .slice Wp nn wp, .slice Wq nc wq] 25))
    replace MP := Lib.hid (Pts.below (Pts.below MP.out b3) (ext1 w3 (.cells #[.int .i64 fr, .slice Wp nn wp, .slice Wq nc wq] 25))); replace MQ := Lib.hid (Qus.below (Qus.below MQ.out b3) (ext1 w3 (.cells #[.int .i64 fr, .slice Wp nn wp, .slice Wq nc wq] 25)))
    clear b3 wp1 wq1 D2
    go_wp2_with fail
    generalize (w3.alloc (.cells #[.int .i64 fr, .slice Wp nn wp, .slice Wq nc wq] 25)) = v0 at *
    have J1 := Lib.hid (H1.out.below D3.out); have J2 := Lib.hid (H2.out.below D3.out); have J3 := Lib.hid (H3.out.below D3.out); have J4 := Lib.hid (H4.out.below D3.out)
    go_loopw [7] (fun tv wr => ∃ k : Nat, k ≤ 2 ∧ tv = .int .i64 k ∧ Below v0.heap.size v0 wr) (fun tv _ => 2 - (intOf tv).toNat)
    case atStart => exact ⟨0, Nat.zero_le _, rfl, Below.refl _ _⟩
    case round =>
      obtain ⟨k, hk, rfl, hb⟩ := hrel
      have BR := Lib.hid hb; clear hb
      have SR := Lib.hid (blk_below S1.out BR.out (blk_lt S1.out))
      have KR := Lib.hid (blk_below K1.out BR.out (blk_lt K1.out))
      have MR := Lib.hid (blk_below M1.out BR.out (blk_lt M1.out))
      have WR := Lib.hid (blk_below W1.out BR.out (blk_lt W1.out))
      by_cases hkl : k < 2
      · have hki : (k : Int) < 2 := by omega
        have m0 := blk_cell MR.out 0
        have m1 := blk_cell MR.out 1
        have m2 := blk_cell MR.out 2
        have c0 := blk_cell KR.out 0
        have c1 := blk_cell KR.out 1
        have c2 := blk_cell KR.out 2
        have HT4 := Lib.hid (move fr ps pn qs cs Mp Mq Aw An Ac np mp nq mq nw cw nn cn nc cc HNP.out HNN.out HNQ.out HNC.out (by omega) (by omega) (by omega) (by omega) ML.out QM.out wr (MP.out.below BR.out) (J2.out.below BR.out) (MQ.out.below BR.out) (J4.out.below BR.out))
        rw [HX.out, HY.out] at HT4
        go_wp2_with fail
        refine HT4.out.mono ?_
        rintro e w4 ⟨b4, Xp, xp, Xq, xq, rfl, gp, gq⟩
        rw [LX.out] at gp ⊢; rw [LY.out] at gq ⊢
        clear HT4 m0 m1 m2 c0 c1 c2
        have B4 := Lib.hid (belowA (BR.out.trans (b4.mono BR.out.size)) (.cells #[.int .i64 fr, .slice Xp nn xp, .slice Xq nc xq] 25))
        have GP := Lib.hid (gp.below (ext1 w4 (.cells #[.int .i64 fr, .slice Xp nn xp, .slice Xq nc xq] 25))); have GQ := Lib.hid (gq.below (ext1 w4 (.cells #[.int .i64 fr, .slice Xp nn xp, .slice Xq nc xq] 25)))
        have X1 := Lib.hid (blk_new w4 #[.int .i64 fr, .slice Xp nn xp, .slice Xq nc xq] 25)
        replace SR := Lib.hid (blk_alloc (blk_below SR.out b4 (blk_lt SR.out)) (.cells #[.int .i64 fr, .slice Xp nn xp, .slice Xq nc xq] 25))
        replace KR := Lib.hid (blk_alloc (blk_below KR.out b4 (blk_lt KR.out)) (.cells #[.int .i64 fr, .slice Xp nn xp, .slice Xq nc xq] 25))
        replace MR := Lib.hid (blk_alloc (blk_below MR.out b4 (blk_lt MR.out)) (.cells #[.int .i64 fr, .slice Xp nn xp, .slice Xq nc xq] 25))
        replace WR := Lib.hid (blk_alloc (blk_below WR.out b4 (blk_lt WR.out)) (.cells #[.int .i64 fr, .slice Xp nn xp, .slice Xq nc xq] 25))
        have zz : v0.heap.size ≤ wr.heap.size := BR.out.size
        clear b4 gp gq
        go_wp2_with fail
        generalize (w4.alloc (.cells #[.int .i64 fr, .slice Xp nn xp, .slice Xq nc xq] 25)) = v1 at *
        have HSALL := Lib.hid (show ∀ w', Below v1.heap.size v1 w' → (Below v1.heap.size v1 w' ∧ w'.cell? ⟨w.heap.size, 0, none⟩ = some (.int .i64 fr) ∧ w'.cell? ⟨w.heap.size, 1, none⟩ = some (.slice Ap np cp) ∧ w'.cell? ⟨w.heap.size, 2, none⟩ = some (.slice Aq nq cq) ∧ w'.cell? ⟨w.heap.size + 1, 0, none⟩ = some (.slice Aw nw cw) ∧ w'.cell? ⟨w.heap.size + 1, 1, none⟩ = some (.slice An nn cn) ∧ w'.cell? ⟨w.heap.size + 1, 2, none⟩ = some (.slice Ac nc cc) ∧ w'.cell? ⟨w2.heap.size, 0, none⟩ = some (.int .i64 fr) ∧ w'.cell? ⟨w2.heap.size, 1, none⟩ = some (.slice Mp np mp) ∧ w'.cell? ⟨w2.heap.size, 2, none⟩ = some (.slice Mq nq mq) ∧ w'.cell? ⟨w3.heap.size, 0, none⟩ = some (.int .i64 fr) ∧ w'.cell? ⟨w3.heap.size, 1, none⟩ = some (.slice Wp nn wp) ∧ w'.cell? ⟨w3.heap.size, 2, none⟩ = some (.slice Wq nc wq) ∧ w'.cell? ⟨w4.heap.size, 0, none⟩ = some (.int .i64 fr) ∧ w'.cell? ⟨w4.heap.size, 1, none⟩ = some (.slice Xp nn xp) ∧ w'.cell? ⟨w4.heap.size, 2, none⟩ = some (.slice Xq nc xq)) from fun w' hb => ⟨hb, blk_cell (blk_below SR.out hb (blk_lt SR.out)) 0, blk_cell (blk_below SR.out hb (blk_lt SR.out)) 1, blk_cell (blk_below SR.out hb (blk_lt SR.out)) 2, blk_cell (blk_below KR.out hb (blk_lt KR.out)) 0, blk_cell (blk_below KR.out hb (blk_lt KR.out)) 1, blk_cell (blk_below KR.out hb (blk_lt KR.out)) 2, blk_cell (blk_below MR.out hb (blk_lt MR.out)) 0, blk_cell (blk_below MR.out hb (blk_lt MR.out)) 1, blk_cell (blk_below MR.out hb (blk_lt MR.out)) 2, blk_cell (blk_below WR.out hb (blk_lt WR.out)) 0, blk_cell (blk_below WR.out hb (blk_lt WR.out)) 1, blk_cell (blk_below WR.out hb (blk_lt WR.out)) 2, blk_cell (blk_below X1.out hb (blk_lt X1.out)) 0, blk_cell (blk_below X1.out hb (blk_lt X1.out)) 1, blk_cell (blk_below X1.out hb (blk_lt X1.out)) 2⟩)
        have XP := Lib.hid GP.out.pts; have XQ := Lib.hid (show Qus v1 Xq Y by obtain ⟨A, c, e, _, _, k⟩ := GrowQ.form GQ.out; rw [(show Xq = A by injection e)]; exact k)
        have HE1 := Lib.hid (fun W (hW : Below v1.heap.size v1 W) => state_eq fr X Y Xp Xq Wp Wq nn nc xp xq wp wq LX.out LY.out (by omega) (by omega) MX.out QY.out W (Pts.below XP.out hW) (Pts.below (Pts.below WP.out B4.out) hW) (Qus.below XQ.out hW) (Qus.below (Qus.below WQ.out B4.out) hW))
        have HE2 := Lib.hid (fun W (hW : Below v1.heap.size v1 W) => state_eq fr ps qs Mp Mq Ap Aq np nq mp mq cp cq HNP.out HNQ.out (by omega) (by omega) ML.out QM.out W (Pts.below (Pts.below MP.out B4.out) hW) (Pts.below (Pts.below J1.out B4.out) hW) (Qus.below (Qus.below MQ.out B4.out) hW) (Qus.below (Qus.below J3.out B4.out) hW))
        have HI1 := Lib.hid (fun W (hW : Below v1.heap.size v1 W) => keptIds fr ps pn qs cs Mp Mq Aw An Ac np mp nq mq nw cw nn cn nc cc HNP.out HNN.out HNQ.out HNC.out (by omega) (by omega) (by omega) (by omega) ML.out QM.out W (Pts.below (Pts.below MP.out B4.out) hW) (Pns.below (Pns.below J2.out B4.out) hW) (Qus.below (Qus.below MQ.out B4.out) hW) ((J4.out.below B4.out).below hW))
        have HI2 := Lib.hid (fun W (hW : Below v1.heap.size v1 W) => rKept fr ps pn qs cs Ap Aq Aw An Ac np cp nq cq nw cw nn cn nc cc HNP.out HNN.out HNQ.out HNC.out (by omega) (by omega) (by omega) (by omega) W (Pts.below (Pts.below J1.out B4.out) hW) (Pns.below (Pns.below J2.out B4.out) hW) (Qus.below (Qus.below J3.out B4.out) hW) ((J4.out.below B4.out).below hW))
        have HI3 := Lib.hid (fun W (hW : Below v1.heap.size v1 W) => chanIds fr ps pn qs cs Mp Mq Aw An Ac np mp nq mq nw cw nn cn nc cc HNP.out HNN.out HNQ.out HNC.out (by omega) (by omega) (by omega) (by omega) ML.out QM.out W (Pts.below (Pts.below MP.out B4.out) hW) (Pns.below (Pns.below J2.out B4.out) hW) (Qus.below (Qus.below MQ.out B4.out) hW) ((J4.out.below B4.out).below hW))
        have HI4 := Lib.hid (fun W (hW : Below v1.heap.size v1 W) => rChannels fr ps pn qs cs Ap Aq Aw An Ac np cp nq cq nw cw nn cn nc cc HNP.out HNN.out HNQ.out HNC.out (by omega) (by omega) (by omega) (by omega) W (Pts.below (Pts.below J1.out B4.out) hW) (Pns.below (Pns.below J2.out B4.out) hW) (Qus.below (Qus.below J3.out B4.out) hW) ((J4.out.below B4.out).below hW))
        have hkL : (keptL ps pn).length ≤ 1000000 := Nat.le_trans (keptL_le _ _) (by rw [HNN.out]; omega)
        have hcL : (chanL ps pn qs cs).length ≤ 1000000 := Nat.le_trans (chanL_le _ _ _ _) (by rw [HNC.out]; omega)
        have hk1 : Below v1.heap.size v1 v1.drew := (Below.refl v1.heap.size v1).drew
        skip
        go_region_held3 (fun w' => Below v1.heap.size v1 w' ∧ w'.cell? ⟨w.heap.size, 0, none⟩ = some (.int .i64 fr) ∧ w'.cell? ⟨w.heap.size, 1, none⟩ = some (.slice Ap np cp) ∧ w'.cell? ⟨w.heap.size, 2, none⟩ = some (.slice Aq nq cq) ∧ w'.cell? ⟨w.heap.size + 1, 0, none⟩ = some (.slice Aw nw cw) ∧ w'.cell? ⟨w.heap.size + 1, 1, none⟩ = some (.slice An nn cn) ∧ w'.cell? ⟨w.heap.size + 1, 2, none⟩ = some (.slice Ac nc cc) ∧ w'.cell? ⟨w2.heap.size, 0, none⟩ = some (.int .i64 fr) ∧ w'.cell? ⟨w2.heap.size, 1, none⟩ = some (.slice Mp np mp) ∧ w'.cell? ⟨w2.heap.size, 2, none⟩ = some (.slice Mq nq mq) ∧ w'.cell? ⟨w3.heap.size, 0, none⟩ = some (.int .i64 fr) ∧ w'.cell? ⟨w3.heap.size, 1, none⟩ = some (.slice Wp nn wp) ∧ w'.cell? ⟨w3.heap.size, 2, none⟩ = some (.slice Wq nc wq) ∧ w'.cell? ⟨w4.heap.size, 0, none⟩ = some (.int .i64 fr) ∧ w'.cell? ⟨w4.heap.size, 1, none⟩ = some (.slice Xp nn xp) ∧ w'.cell? ⟨w4.heap.size, 2, none⟩ = some (.slice Xq nc xq))
          (first | (with_reducible exact HSALL.out _ hk1) | (with_reducible exact HSALL.out _ (by assumption)))
          (first
            | ((with_reducible refine (HE1.out _ (And.left (by assumption))).mono ?_); rintro e u1 ⟨rfl, d1⟩; have l1 : Below v1.heap.size v1 u1 := Below.trans (And.left (by assumption)) (Below.mono d1 (Below.size (And.left (by assumption)))))
            | ((with_reducible refine (HE2.out _ (And.left (by assumption))).mono ?_); rintro e u2 ⟨rfl, d2⟩; have l2 : Below v1.heap.size v1 u2 := Below.trans (And.left (by assumption)) (Below.mono d2 (Below.size (And.left (by assumption)))))
            | ((with_reducible refine (HI1.out _ (And.left (by assumption))).mono ?_); rintro e u3 ⟨d3, Ka, ka, rfl, rka⟩; have l3 : Below v1.heap.size v1 u3 := Below.trans (And.left (by assumption)) (Below.mono d3 (Below.size (And.left (by assumption)))))
            | ((with_reducible refine (HI2.out _ (And.left (by assumption))).mono ?_); rintro e u4 ⟨d4, Kb, kb, rfl, rkb⟩; have rka4 := rka.below d4; have l4 : Below v1.heap.size v1 u4 := Below.trans (And.left (by assumption)) (Below.mono d4 (Below.size (And.left (by assumption)))))
            | ((with_reducible refine (ints_same (keptL ps pn) Ka Kb (keptL ps pn).length ka kb rfl hkL _ rka4 rkb).mono ?_); rintro e u5 ⟨rfl, d5⟩; have l5 : Below v1.heap.size v1 u5 := Below.trans (And.left (by assumption)) (Below.mono d5 (Below.size (And.left (by assumption)))))
            | ((with_reducible refine (HI3.out _ (And.left (by assumption))).mono ?_); rintro e u6 ⟨d6, Ca, ca, rfl, rca⟩; have l6 : Below v1.heap.size v1 u6 := Below.trans (And.left (by assumption)) (Below.mono d6 (Below.size (And.left (by assumption)))))
            | ((with_reducible refine (HI4.out _ (And.left (by assumption))).mono ?_); rintro e u7 ⟨d7, Cb, cb, rfl, rcb⟩; have rca7 := rca.below d7; have l7 : Below v1.heap.size v1 u7 := Below.trans (And.left (by assumption)) (Below.mono d7 (Below.size (And.left (by assumption)))))
            | ((with_reducible refine (ints_same (chanL ps pn qs cs) Ca Cb (chanL ps pn qs cs).length ca cb rfl hcL _ rca7 rcb).mono ?_); rintro e u8 ⟨rfl, d8⟩; have l8 : Below v1.heap.size v1 u8 := Below.trans (And.left (by assumption)) (Below.mono d8 (Below.size (And.left (by assumption))))))
        have D9 := Lib.hid (B4.out.trans (l8.mono B4.out.size))
        obtain ⟨us, hus, hox, hmx⟩ := GP.out.below l8
        obtain ⟨us2, hus2, hoy, hmy⟩ := GQ.out.below l8
        rw [LX.out] at hox; rw [LY.out] at hoy
        have hz0 : v0.heap.size ≤ wr.heap.size + 4 := by omega
        obtain ⟨L0, hL0⟩ : ∃ L, wr.heap.size + 4 = L := ⟨_, rfl⟩
        rw [hL0] at hox hmx hoy hmy hz0
        have X2 := Lib.hid (blk_below X1.out l8 (blk_lt X1.out))
        have SP0 := Lib.hid (Spo.start (v := u8) hmx hmy)
        have HOX := Lib.hid hox; have HOY := Lib.hid hoy
        have HUL := Lib.hid (show us.length = nn by rw [← LX.out, ← hus, List.length_map]); have HUL2 := Lib.hid (show us2.length = nc by rw [← LY.out, ← hus2, List.length_map])
        have HUM := Lib.hid (show ∀ u ∈ us, u.1.mem.length ≤ 1000000 from fun u hu => MX.out _ (by rw [← hus]; exact List.mem_map_of_mem hu)); have HUM2 := Lib.hid (show ∀ u ∈ us2, u.1.msgs.length ≤ 1000000 ∧ ∀ m ∈ u.1.msgs, m.length ≤ 1000000 from fun u hu => QY.out _ (by rw [← hus2]; exact List.mem_map_of_mem hu))
        clear hL0 hox hoy hmx hmy hus hus2 GP GQ X1 XP XQ HE1 HE2 HI1 HI2 HI3 HI4 HSALL
        obtain ⟨v2, hv2⟩ : ∃ x : World, x = u8 := ⟨_, rfl⟩
        subst hv2
        go_wp2_with fail
        go_loopw [9] (fun iv wr => ∃ i : Nat, i ≤ nn ∧ iv = .int .i64 i ∧ Spo L0 us us2 v2 wr) (fun iv _ => nn - (intOf iv).toNat)
        case atStart => exact ⟨0, Nat.zero_le _, rfl, SP0.out⟩
        case round =>
          obtain ⟨i, hi, rfl, hsp⟩ := hrel
          have HS1 := Lib.hid hsp; clear hsp
          have x1 := blk_cell (HS1.out.1.2 _ _ _ (by decide) X2.out) 1
          by_cases hil : i < nn
          · have hii : (i : Int) < (nn : Int) := by omega
            obtain ⟨u, hu⟩ : ∃ u, us[i]? = some u := ⟨_, List.getElem?_eq_getElem (by rw [HUL.out]; exact hil)⟩
            obtain ⟨gx, cur, rfl, hgx, hcx⟩ := own_blkX HOX.out (by omega)
            have HGX := Lib.hid hgx; have HCX := Lib.hid hcx; have HU := Lib.hid hu; clear hgx hcx
            obtain ⟨m, hm⟩ : ∃ m, u.1.mem.length = m := ⟨_, rfl⟩
            have hm6 : (m : Int) ≤ 1000000 := by have := HUM.out u (List.mem_of_getElem? hu); omega
            have HMm := Lib.hid hm; clear hm hu
            go_wp2_with fail
            clear x1
            go_loopw [10] (fun jv wr => ∃ j : Nat, j ≤ m ∧ jv = .int .i64 j ∧ Spo L0 us us2 v2 wr) (fun jv _ => m - (intOf jv).toNat)
            case atStart => exact ⟨0, Nat.zero_le _, rfl, HS1.out⟩
            case round =>
              obtain ⟨j, hj, rfl, hsp⟩ := hrel
              have HS2 := Lib.hid hsp; clear hsp
              have x1 := blk_cell (HS2.out.1.2 _ _ _ (by decide) X2.out) 1
              have r13 := take_cell (HS2.out.1.2 _ _ _ (by decide) HGX.out) HCX.out (flat_at Pt.cells 14 pt_len us i u HU.out 13 _ rfl)
              rw [HMm.out] at r13
              by_cases hjm : j < m
              · have hjj : (j : Int) < (m : Int) := by omega
                have hjj0 : (0 : Int) ≤ (j : Int) := by omega
                rcases HS2.out.2.2.1 u (List.mem_of_getElem? HU.out) with h0 | ⟨g2, cs2, hA2, l1, _, hgc, hz⟩
                · rw [HMm.out] at h0; omega
                rw [hA2] at r13
                obtain ⟨z, hzz⟩ := hz j (by rw [HMm.out]; exact hjm)
                have bz : wr.cell? ⟨g2, j, none⟩ = some (.int .u8 z) := by rw [blk_cell hgc j, hzz]
                have fz := blk_frozen hgc j
                have HGC := Lib.hid hgc; clear hgc hz hzz hA2
                go_wp2_with fail
                go_roundw
                case rel => exact ⟨j + 1, by omega, by go_num, HS2.out.set HGC.out l1 j _⟩
                case measure => simp [intOf] <;> omega
              · have hjn : m = j := by omega
                subst hjn
                go_wp2_with fail
                go_roundw
                case rel => exact ⟨i + 1, by omega, by go_num, HS2.out⟩
                case measure => simp [intOf] <;> omega
          · have hin : nn = i := by omega
            subst hin
            have HSP := HS1
            clear SP0 HS1 hil
            go_wp2_with fail
            clear x1
            go_loopw [11] (fun iv wr => ∃ i : Nat, i ≤ nc ∧ iv = .int .i64 i ∧ Spo L0 us us2 v2 wr) (fun iv _ => nc - (intOf iv).toNat)
            case atStart => exact ⟨0, Nat.zero_le _, rfl, HSP.out⟩
            case round =>
              obtain ⟨i, hi, rfl, hsp⟩ := hrel
              have HS1 := Lib.hid hsp; clear hsp HSP
              have x2 := blk_cell (HS1.out.1.2 _ _ _ (by decide) X2.out) 2
              by_cases hil : i < nc
              · have hii : (i : Int) < (nc : Int) := by omega
                obtain ⟨u, hu⟩ : ∃ u, us2[i]? = some u := ⟨_, List.getElem?_eq_getElem (by rw [HUL2.out]; exact hil)⟩
                obtain ⟨gx, cur, rfl, hgx, hcx⟩ := own_blkX HOY.out (by omega)
                have HGX := Lib.hid hgx; have HCX := Lib.hid hcx; have HU := Lib.hid hu; clear hgx hcx
                obtain ⟨m, hm⟩ : ∃ m, u.1.msgs.length = m := ⟨_, rfl⟩
                have hum := HUM2.out u (List.mem_of_getElem? hu)
                have hm6 : (m : Int) ≤ 1000000 := by have := hum.1; omega
                have HMm := Lib.hid hm; have HUB := Lib.hid hum.2; clear hm hu hum
                go_wp2_with fail
                clear x2
                go_loopw [12] (fun jv wr => ∃ j : Nat, j ≤ m ∧ jv = .int .i64 j ∧ Spo L0 us us2 v2 wr) (fun jv _ => m - (intOf jv).toNat)
                case atStart => exact ⟨0, Nat.zero_le _, rfl, HS1.out⟩
                case round =>
                  obtain ⟨j, hj, rfl, hsp⟩ := hrel
                  have HS2 := Lib.hid hsp; clear hsp
                  have x2 := blk_cell (HS2.out.1.2 _ _ _ (by decide) X2.out) 2
                  have r5 := take_cell (HS2.out.1.2 _ _ _ (by decide) HGX.out) HCX.out (flat_at Qu.cells 6 qu_len us2 i u HU.out 5 _ rfl)
                  rw [HMm.out] at r5
                  by_cases hjm : j < m
                  · have hjj : (j : Int) < (m : Int) := by omega
                    have hjj0 : (0 : Int) ≤ (j : Int) := by omega
                    obtain ⟨l, hl⟩ : ∃ l, u.1.msgs[j]? = some l := ⟨_, List.getElem?_eq_getElem (by rw [HMm.out]; exact hjm)⟩
                    obtain ⟨q, hq⟩ : ∃ q, l.length = q := ⟨_, rfl⟩
                    have hq6 : (q : Int) ≤ 1000000 := by have := HUB.out l (List.mem_of_getElem? hl); omega
                    have HL := Lib.hid hl; have HQ := Lib.hid hq; clear hl hq
                    go_wp2_with fail
                    clear x2 r5
                    go_loopw [13] (fun tv wr => ∃ t : Nat, t ≤ q ∧ tv = .int .i64 t ∧ Spo L0 us us2 v2 wr) (fun tv _ => q - (intOf tv).toNat)
                    case atStart => exact ⟨0, Nat.zero_le _, rfl, HS2.out⟩
                    case round =>
                      obtain ⟨t, ht, rfl, hsp⟩ := hrel
                      have HS3 := Lib.hid hsp; clear hsp
                      have x2 := blk_cell (HS3.out.1.2 _ _ _ (by decide) X2.out) 2
                      have r5 := take_cell (HS3.out.1.2 _ _ _ (by decide) HGX.out) HCX.out (flat_at Qu.cells 6 qu_len us2 i u HU.out 5 _ rfl)
                      rw [HMm.out] at r5
                      obtain ⟨vs, hrow, hvs⟩ := HS3.out.2.2.2 u (List.mem_of_getElem? HU.out)
                      obtain ⟨A3, c3, hv3, hby⟩ := hvs j l HL.out
                      obtain ⟨bm, om, hAm, _⟩ := hrow.rd.addr (Nat.lt_of_le_of_lt (Nat.zero_le j) (List.getElem?_eq_some_iff.1 hv3).1)
                      rw [hAm] at r5 hrow
                      have rm := hrow.rd.cell hv3
                      rw [HQ.out] at rm hby
                      clear hvs hrow hv3 hAm
                      by_cases htq : t < q
                      · have htt : (t : Int) < (q : Int) := by omega
                        have htt0 : (0 : Int) ≤ (t : Int) := by omega
                        rcases hby with h0 | ⟨g2, cs2, rfl, l1, _, hgc, hz⟩
                        · omega
                        obtain ⟨z, hzz⟩ := hz t htq
                        have bz : wr.cell? ⟨g2, t, none⟩ = some (.int .u8 z) := by rw [blk_cell hgc t, hzz]
                        have fz := blk_frozen hgc t
                        have HGC := Lib.hid hgc; clear hgc hz hzz
                        go_wp2_with fail
                        go_roundw
                        case rel => exact ⟨t + 1, by omega, by go_num, HS3.out.set HGC.out l1 t _⟩
                        case measure => simp [intOf] <;> omega
                      · have htn : q = t := by omega
                        subst htn
                        clear hby
                        go_wp2_with fail
                        go_roundw
                        case rel => exact ⟨j + 1, by omega, by go_num, HS3.out⟩
                        case measure => simp [intOf] <;> omega
                  · have hjn : m = j := by omega
                    subst hjn
                    go_wp2_with fail
                    go_roundw
                    case rel => exact ⟨i + 1, by omega, by go_num, HS2.out⟩
                    case measure => simp [intOf] <;> omega
              · have hin : nc = i := by omega
                subst hin
                go_wp2_with fail
                go_roundw
                case rel => exact ⟨k + 1, by omega, by go_num, D9.out.trans (HS1.out.2.1.mono hz0)⟩
                case measure => simp [intOf] <;> omega
      · have hk2 : k = 2 := by omega
        subst hk2
        go_wp2_with fail
        go_ret
        exact ⟨rfl, HB.out.trans ((D3.out.trans (BR.out.mono D3.out.size)).mono HB.out.size)⟩
end Go.Proofs.Ytnfjkpeifleogaa.mv
