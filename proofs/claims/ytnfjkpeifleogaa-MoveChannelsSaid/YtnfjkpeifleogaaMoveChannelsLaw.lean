/- The law MoveChannels; no condition. -/
import Derived.Test.YtnfjkpeifleogaaRows
import Derived.Test.YtnfjkpeifleogaaMvL
namespace Go.Proofs.Ytnfjkpeifleogaa.mv
open Go Go.ChangeShapes Go.WideShapes Go.ChangeAt Go.RowKit Go.Proofs.Ytnfjkpeifleogaa.rows
set_option maxRecDepth 100000 in
set_option maxHeartbeats 8000000 in
theorem channels (fr : Int) (ps : List Pt) (pn : List Pn) (qs : List Qu) (cs : List Ch) (Ap Aq Aw An Ac : Option Addr) (np cp nq cq nw cw nn cn nc cc : Nat) (hnp : ps.length = np) (hnn : pn.length = nn) (hnq : qs.length = nq) (hnc : cs.length = nc) (hml : ∀ x ∈ ps, x.mem.length ≤ 140737488355328) (hqm : ∀ q ∈ qs, q.msgs.length ≤ 140737488355328 ∧ ∀ m ∈ q.msgs, m.length ≤ 140737488355328) (hil : ∀ x ∈ pn, x.img.length ≤ 140737488355328) (w : World) (h : Pts w Ap ps) (h2 : Pns w An pn) (h3 : Qus w Aq qs) (h4 : Rd w Ac (chCells cs)) : Calls Try.prog 7 #[.agg #[.int .i64 fr, .slice Ap np cp, .slice Aq nq cq], .agg #[.slice Aw nw cw, .slice An nn cn, .slice Ac nc cc]] w fun e w' => e = .returned (.bool true) ∧ Below w.heap.size w w' := by
  have hB2 := (((Below.refl w.heap.size w).alloc (Nat.le_refl _) (.cells #[.int .i64 fr, .slice Ap np cp, .slice Aq nq cq] 25)).alloc (by simp) (.cells #[.slice Aw nw cw, .slice An nn cn, .slice Ac nc cc] 30))
  have hs2 : ((w.alloc (.cells #[.int .i64 fr, .slice Ap np cp, .slice Aq nq cq] 25)).alloc (.cells #[.slice Aw nw cw, .slice An nn cn, .slice Ac nc cc] 30)).heap.size = w.heap.size + 2 := by simp
  have G0 := Lib.hid (blk_alloc (blk_new w #[.int .i64 fr, .slice Ap np cp, .slice Aq nq cq] 25) (.cells #[.slice Aw nw cw, .slice An nn cn, .slice Ac nc cc] 30))
  have G1 := Lib.hid (show ((w.alloc (.cells #[.int .i64 fr, .slice Ap np cp, .slice Aq nq cq] 25)).alloc (.cells #[.slice Aw nw cw, .slice An nn cn, .slice Ac nc cc] 30)).heap[w.heap.size + 1]? = some (.cells #[.slice Aw nw cw, .slice An nn cn, .slice Ac nc cc] 30 (0, 0)) by have := blk_new (w.alloc (.cells #[.int .i64 fr, .slice Ap np cp, .slice Aq nq cq] 25)) #[.slice Aw nw cw, .slice An nn cn, .slice Ac nc cc] 30; simpa using this)
  have HB := Lib.hid hB2; have HS2 := Lib.hid hs2
  have H1 := Lib.hid (h.below hB2); have H2 := Lib.hid (h2.below hB2); have H3 := Lib.hid (h3.below hB2); have H4 := Lib.hid (h4.below hB2)
  have HNP := Lib.hid hnp; have HNN := Lib.hid hnn; have HNQ := Lib.hid hnq; have HNC := Lib.hid hnc
  have HML := Lib.hid hml; have HQM := Lib.hid hqm; have HIL := Lib.hid hil
  clear h h2 h3 h4 hB2 hs2 hnp hnn hnq hnc hml hqm hil
  go_enter Try.func7, Try.ntmps7
  go_wp2_with fail
  generalize ((w.alloc (.cells #[.int .i64 fr, .slice Ap np cp, .slice Aq nq cq] 25)).alloc (.cells #[.slice Aw nw cw, .slice An nn cn, .slice Ac nc cc] 30)) = wb at *
  refine (awake wb).mono ?_
  rintro e w1 ⟨rfl, b1⟩
  have D1 := Lib.hid b1; clear b1
  have S1 := Lib.hid (blk_below G0.out D1.out (blk_lt G0.out)); have K1 := Lib.hid (blk_below G1.out D1.out (blk_lt G1.out))
  have a0 := blk_cell S1.out 0
  have a1 := blk_cell S1.out 1
  have a2 := blk_cell S1.out 2
  have c0 := blk_cell K1.out 0
  have c1 := blk_cell K1.out 1
  have c2 := blk_cell K1.out 2
  have T1 := great fr ps pn qs Ap Aq Aw An Ac np cp nq cq nw cw nn cn nc cc HNP.out HNN.out HNQ.out HML.out HQM.out HIL.out w1 (H1.out.below D1.out) (H2.out.below D1.out) (H3.out.below D1.out)
  have HT1 := Lib.hid T1; clear T1
  go_wp2_with fail
  refine HT1.out.mono ?_
  rintro e w2 ⟨v, rfl, hv, b2⟩
  clear HT1 a0 a1 a2 c0 c1 c2
  have D2 := Lib.hid (D1.out.trans (b2.mono D1.out.size))
  clear b2 S1 K1
  have S1 := Lib.hid (blk_below G0.out D2.out (blk_lt G0.out)); have K1 := Lib.hid (blk_below G1.out D2.out (blk_lt G1.out))
  have a0 := blk_cell S1.out 0
  have a1 := blk_cell S1.out 1
  have a2 := blk_cell S1.out 2
  have c0 := blk_cell K1.out 0
  have c1 := blk_cell K1.out 1
  have c2 := blk_cell K1.out 2
  cases v
  case true =>
    clear hv
    go_wp2
    go_ret
    exact ⟨rfl, HB.out.trans (D2.out.mono HB.out.size)⟩
  case false =>
    obtain ⟨t1, t2, t3, t4, t5, t6, t7⟩ := hv rfl
    clear hv
    have hnp : np ≤ 20 := by rw [← HNP.out]; exact t1
    have hnq : nq ≤ 20 := by rw [← HNQ.out]; exact t2
    have hnn : nn ≤ 20 := by rw [← HNN.out]; exact t3
    have hnc := t4
    have ML := Lib.hid (show ∀ x ∈ ps, x.mem.length ≤ 1000000 from fun x hx => Nat.le_trans (t5 x hx) (by decide))
    have QM := Lib.hid (show ∀ q ∈ qs, q.msgs.length ≤ 1000000 ∧ ∀ m ∈ q.msgs, m.length ≤ 1000000 from fun q hq => ⟨Nat.le_trans (t6 q hq).1 (by decide), fun m hm => Nat.le_trans ((t6 q hq).2 m hm) (by decide)⟩)
    clear t1 t2 t3 t4 t5 t6 t7 HML HQM HIL
    have T1 := once fr ps pn Ap Aq Aw An Ac np cp nq cq nw cw nn cn nc cc HNP.out HNN.out (by omega) (by omega) w2 (H1.out.below D2.out) (H2.out.below D2.out)
    have HT1 := Lib.hid T1; clear T1
    go_wp2_with fail
    refine HT1.out.mono ?_
    rintro e w3 ⟨v, rfl, hv, b3⟩
    clear HT1 a0 a1 a2 c0 c1 c2
    have D3 := Lib.hid (D2.out.trans (b3.mono D2.out.size))
    clear b3 S1 K1 D1 D2
    have S1 := Lib.hid (blk_below G0.out D3.out (blk_lt G0.out)); have K1 := Lib.hid (blk_below G1.out D3.out (blk_lt G1.out))
    have a0 := blk_cell S1.out 0
    have a1 := blk_cell S1.out 1
    have a2 := blk_cell S1.out 2
    have c0 := blk_cell K1.out 0
    have c1 := blk_cell K1.out 1
    have c2 := blk_cell K1.out 2
    cases v
    case false =>
      clear hv
      go_wp2
      go_ret
      exact ⟨rfl, HB.out.trans (D3.out.mono HB.out.size)⟩
    case true =>
      have HU := Lib.hid (hv rfl)
      clear hv
      have T1 := move_rd fr ps pn qs cs Ap Aq Aw An Ac np cp nq cq nw cw nn cn nc cc HNP.out HNN.out HNQ.out HNC.out (by omega) (by omega) (by omega) (by omega) ML.out QM.out w3 (H1.out.below D3.out) (H2.out.below D3.out) (H3.out.below D3.out) (H4.out.below D3.out)
      have HT1 := Lib.hid T1; clear T1
      go_wp2_with fail
      refine HT1.out.mono ?_
      rintro e w4 ⟨b4, Xp, xp, Xq, xq, rfl, rxp, rxq⟩
      clear HT1 a0 a1 a2 c0 c1 c2
      have D4 := Lib.hid ((D3.out.trans (b4.mono D3.out.size)).alloc (D3.out.trans (b4.mono D3.out.size)).size (.cells #[.int .i64 fr, .slice Xp nn xp, .slice Xq nc xq] 25))
      have RP := Lib.hid (Pts.below rxp (ext1 w4 (.cells #[.int .i64 fr, .slice Xp nn xp, .slice Xq nc xq] 25))); have RQ := Lib.hid (Qus.below rxq (ext1 w4 (.cells #[.int .i64 fr, .slice Xp nn xp, .slice Xq nc xq] 25)))
      have X1 := Lib.hid (blk_new w4 #[.int .i64 fr, .slice Xp nn xp, .slice Xq nc xq] 25)
      have S4 := Lib.hid (blk_below G0.out D4.out (blk_lt G0.out)); have K4 := Lib.hid (blk_below G1.out D4.out (blk_lt G1.out))
      clear b4 rxp rxq S1 K1 D3
      have a0 := blk_cell S4.out 0
      have a1 := blk_cell S4.out 1
      have a2 := blk_cell S4.out 2
      have c0 := blk_cell K4.out 0
      have c1 := blk_cell K4.out 1
      have c2 := blk_cell K4.out 2
      go_wp2_with fail
      generalize (w4.alloc (.cells #[.int .i64 fr, .slice Xp nn xp, .slice Xq nc xq] 25)) = w5 at *
      have T1 := keptIds fr ps pn qs cs Ap Aq Aw An Ac np cp nq cq nw cw nn cn nc cc HNP.out HNN.out HNQ.out HNC.out (by omega) (by omega) (by omega) (by omega) ML.out QM.out w5 (H1.out.below D4.out) (H2.out.below D4.out) (H3.out.below D4.out) (H4.out.below D4.out)
      obtain ⟨nk, hnk⟩ : ∃ nk, (keptL ps pn).length = nk := ⟨_, rfl⟩
      have hk20 : nk ≤ 20 := by rw [← hnk]; exact Nat.le_trans (keptL_le ps pn) (by rw [HNN.out]; exact hnn)
      have HNK := Lib.hid hnk; clear hnk
      have HT1 := Lib.hid T1; clear T1
      refine HT1.out.mono ?_
      rintro e w6 ⟨b6, Ak, ck, rfl, rk⟩
      rw [HNK.out]
      have RK := Lib.hid rk
      clear HT1 a0 a1 a2 c0 c1 c2 rk
      have D6 := Lib.hid (D4.out.trans (b6.mono D4.out.size))
      replace S4 := Lib.hid (blk_below S4.out b6 (blk_lt S4.out))
      replace K4 := Lib.hid (blk_below K4.out b6 (blk_lt K4.out))
      replace X1 := Lib.hid (blk_below X1.out b6 (blk_lt X1.out))
      replace RP := Lib.hid (Pts.below RP.out b6); replace RQ := Lib.hid (Qus.below RQ.out b6)
      clear b6 D4
      have x0 := blk_cell X1.out 0
      have x1 := blk_cell X1.out 1
      have x2 := blk_cell X1.out 2
      have c0 := blk_cell K4.out 0
      have c1 := blk_cell K4.out 1
      have c2 := blk_cell K4.out 2
      go_wp2_with fail
      clear x0 x1 x2 c0 c1 c2
      have J1 := Lib.hid (H1.out.below D6.out); have J3 := Lib.hid (H3.out.below D6.out); have J4 := Lib.hid (H4.out.below D6.out)
      go_loopw [7, 8] (fun nv iv wr => ∃ k : Nat, k ≤ nc ∧ iv = .int .i64 k ∧ nv = .int .i64 ((chanL ps pn qs (cs.take k)).length : Nat) ∧ Below w6.heap.size w6 wr) (fun _ iv _ => nc - (intOf iv).toNat)
      case atStart => exact ⟨0, Nat.zero_le _, rfl, rfl, Below.refl _ _⟩
      case round =>
        obtain ⟨k, hk, rfl, rfl, hb⟩ := hrel
        have BR := Lib.hid hb; clear hb
        have SR := Lib.hid (blk_below S4.out BR.out (blk_lt S4.out)); have KR := Lib.hid (blk_below K4.out BR.out (blk_lt K4.out)); have XR := Lib.hid (blk_below X1.out BR.out (blk_lt X1.out))
        have x0 := blk_cell XR.out 0
        have x1 := blk_cell XR.out 1
        have x2 := blk_cell XR.out 2
        have c0 := blk_cell KR.out 0
        have c1 := blk_cell KR.out 1
        have c2 := blk_cell KR.out 2
        by_cases hkl : k < nc
        · have hki : (k : Int) < (nc : Int) := by omega
          obtain ⟨ch, hch⟩ : ∃ ch, cs[k]? = some ch := ⟨_, List.getElem?_eq_getElem (by rw [HNC.out]; exact hkl)⟩
          obtain ⟨bc, oc, rfl, hbc⟩ := J4.out.addr (by rw [chCells_length, HNC.out]; omega)
          obtain ⟨y0, y1, y2, y3, y4⟩ := chCells_at cs k ch hch
          replace y0 := (J4.out.below BR.out).cell y0; replace y1 := (J4.out.below BR.out).cell y1; replace y2 := (J4.out.below BR.out).cell y2; replace y3 := (J4.out.below BR.out).cell y3; replace y4 := (J4.out.below BR.out).cell y4
          rw [← Nat.add_assoc] at y1 y2 y3 y4
          have HCH := Lib.hid hch; clear hch
          have s2 := blk_cell SR.out 2
          have s2a : (wr.alloc (.cells #[.int .i64 ch.id, .int .i64 ch.fr, .int .i64 ch.to, .int .i64 ch.cap, .int .i64 ch.sz] 50)).cell? ⟨w.heap.size, 2, none⟩ = some (.slice Aq nq cq) := blk_cell (blk_alloc SR.out _) 2
          go_wp2_with fail
          clear s2a s2 y0 y1 y2 y3 y4 x0 x1 x2 c0 c1 c2
          have CA := Lib.hid (blk_new wr #[.int .i64 ch.id, .int .i64 ch.fr, .int .i64 ch.to, .int .i64 ch.cap, .int .i64 ch.sz] 50)
          replace SR := Lib.hid (blk_alloc SR.out (.cells #[.int .i64 ch.id, .int .i64 ch.fr, .int .i64 ch.to, .int .i64 ch.cap, .int .i64 ch.sz] 50)); replace XR := Lib.hid (blk_alloc XR.out (.cells #[.int .i64 ch.id, .int .i64 ch.fr, .int .i64 ch.to, .int .i64 ch.cap, .int .i64 ch.sz] 50))
          replace BR := Lib.hid (BR.out.alloc BR.out.size (.cells #[.int .i64 ch.id, .int .i64 ch.fr, .int .i64 ch.to, .int .i64 ch.cap, .int .i64 ch.sz] 50))
          clear KR
          generalize (wr.alloc (.cells #[.int .i64 ch.id, .int .i64 ch.fr, .int .i64 ch.to, .int .i64 ch.cap, .int .i64 ch.sz] 50)) = wa at *
          go_loopw [10, 11] (fun zv jv w2 => ∃ (j : Nat) (z : Int), j ≤ nq ∧ zv = .int .i64 z ∧ jv = .int .i64 ((j : Int) - 1) ∧ WasQ qs ch (ch.fr ∈ keptL ps pn ∧ ch.to ∈ keptL ps pn) j z ∧ Below wa.heap.size wa w2) (fun _ jv _ => (intOf jv + 1).toNat)
          case atStart => exact ⟨nq, -1, Nat.le_refl _, rfl, by go_num, WasQ.start HNQ.out, Below.refl _ _⟩
          case round =>
            obtain ⟨j, z, hj, rfl, rfl, hwas, hb2⟩ := hrel
            have BI := Lib.hid hb2; have WQ := Lib.hid hwas; clear hb2 hwas
            have BJ := Lib.hid (BR.out.trans (BI.out.mono BR.out.size))
            have SI := Lib.hid (blk_below SR.out BI.out (blk_lt SR.out)); have XI := Lib.hid (blk_below XR.out BI.out (blk_lt XR.out)); have CI := Lib.hid (blk_below CA.out BI.out (blk_lt CA.out))
            rcases j with _ | j
            · have WE := Lib.hid (WasQ.end HU.out.2 WQ.out)
              clear WQ
              have e0 : (((0 : Nat) : Int) - 1) = -1 := rfl
              rw [e0]
              clear e0
              have hRA := Rws.addr qu_len (by decide) RQ.out (by rw [moveQ_length, HNC.out]; omega)
              obtain ⟨bq, oq, rfl, hbq⟩ := hRA
              obtain ⟨A1, c1, hin, hcy⟩ := Rws.at qu_len (Qus.below RQ.out BJ.out) (moveQ_at (ps := ps) (pn := pn) (qs := qs) HCH.out)
              have xx2 := xc (blk_cell XI.out 2); have ss2 := xc (blk_cell SI.out 2)
              have cc0 := xc (blk_cell CI.out 0)
              have cc1 := xc (blk_cell CI.out 1)
              have cc2 := xc (blk_cell CI.out 2)
              have cc3 := xc (blk_cell CI.out 3)
              have cc4 := xc (blk_cell CI.out 4)
              have yy0 := xc (hcy 0 _ rfl)
              have yy1 := xc (hcy 1 _ rfl)
              have yy2 := xc (hcy 2 _ rfl)
              have yy3 := xc (hcy 3 _ rfl)
              have yy4 := xc (hcy 4 _ rfl)
              have HT5 := Lib.hid (hcy 5 _ rfl)
              have HIN := Lib.hid hin
              clear hcy hin
              rcases WE.out with ⟨rfl, hqp⟩ | ⟨j0, q0, rfl, hq0, hqc, hqp⟩
              · rw [hqp] at HT5
                have yy5 := xc HT5.out
                have HQP := Lib.hid hqp
                clear HT5 HIN WE hqp
                dsimp only [Option.getD_none, List.length_nil, Qu.cells, Nat.add_zero] at yy0 yy1 yy2 yy3 yy4 yy5
                go_wp2_with fail
                refine region_ext (by kernel_rfl) (by kernel_rfl) ?_
                try simp only [List.append_eq, List.cons_append, List.nil_append]
                repeat (go_big_quiet_step (fail))
                refine wpQuiet_nil ?_
                intro v
                have BV := Lib.hid (BJ.out.trans (v.below.mono BJ.out.size))
                go_wp2
                go_roundw
                case rel => exact ⟨k + 1, by omega, by go_num, by rw [chanL_take HCH.out, HQP.out]; simp, BV.out⟩
                case measure => simp [intOf]; omega
              · rw [hqp] at HT5 HIN
                obtain ⟨qc, ql⟩ := q0
                have hqc2 : ch = qc := hqc.symm
                clear hqc
                subst hqc2
                dsimp only [Option.getD_some] at HT5 HIN hqp
                have HQP := Lib.hid hqp; have HQ0 := Lib.hid hq0; clear hqp hq0 WE
                obtain ⟨bs, os, rfl, hbs⟩ := Rws.addr qu_len (by decide) J3.out (by rw [HNQ.out]; have := (List.getElem?_eq_some_iff.1 HQ0.out).1; rw [HNQ.out] at this; omega)
                obtain ⟨A2, c2, hin2, hcz⟩ := Rws.at qu_len (Qus.below J3.out BJ.out) HQ0.out
                have hj0 : j0 < nq := by have := (List.getElem?_eq_some_iff.1 HQ0.out).1; rw [HNQ.out] at this; exact this
                have hj0i : (j0 : Int) < (nq : Int) := by omega
                have hj00 : (0 : Int) ≤ (j0 : Int) := by omega
                have hj01 : ((j0 : Int) < 0) = False := by simp
                have hqm := QM.out _ (List.mem_of_getElem? HQ0.out)
                obtain ⟨nl, hnl⟩ : ∃ nl, ql.length = nl := ⟨_, rfl⟩
                have TQ := fun x : Ext wr.heap.size wr => queue_eq ch ql A1 A2 nl c1 c2 hnl (by rw [← hnl]; exact hqm.1) hqm.2 x.world (HIN.out.2.2.below x.below) (hin2.2.2.below x.below)
                have zz0 := xc (hcz 0 _ rfl)
                have zz1 := xc (hcz 1 _ rfl)
                have zz2 := xc (hcz 2 _ rfl)
                have zz3 := xc (hcz 3 _ rfl)
                have zz4 := xc (hcz 4 _ rfl)
                have zz5 := xc (hcz 5 _ rfl)
                have yy5 := xc HT5.out
                dsimp only [Qu.cells, Nat.add_zero] at yy0 yy1 yy2 yy3 yy4 yy5 zz0 zz1 zz2 zz3 zz4 zz5
                rw [hnl] at yy5 zz5
                have HTQ := TQ
                clear TQ hcz HT5 HIN hin2 hqm hnl
                have hcl : (chanL ps pn qs (cs.take k)).length ≤ 20 := Nat.le_trans (chanL_le _ _ _ _) (Nat.le_trans (by rw [List.length_take]; exact Nat.min_le_left _ _) (Nat.le_trans hk hnc))
                go_wp2_with fail
                refine region_ext (by kernel_rfl) (by kernel_rfl) ?_
                try simp only [List.append_eq, List.cons_append, List.nil_append]
                repeat (go_big_quiet_step (fail))
                go_big_quiet_step (with_reducible exact calls_ext (Nat.le_refl _) (HTQ _))
                repeat (go_big_quiet_step (fail))
                refine wpQuiet_nil ?_
                intro v
                have BV := Lib.hid (BJ.out.trans (v.below.mono BJ.out.size))
                go_wp2
                go_roundw
                case rel => exact ⟨k + 1, by omega, by go_num, by rw [chanL_take HCH.out, HQP.out, Option.isSome_some, if_pos rfl]; go_num, BV.out⟩
                case measure => simp [intOf]; omega
            · have e0 : (((j + 1 : Nat) : Int) - 1) = (j : Int) := by omega
              rw [e0]
              clear e0
              have hji : (j : Int) < (nq : Int) := by omega
              have hj0 : (0 : Int) ≤ (j : Int) := by omega
              obtain ⟨q, hq⟩ : ∃ q, qs[j]? = some q := ⟨_, List.getElem?_eq_getElem (by rw [HNQ.out]; omega)⟩
              obtain ⟨bs, os, rfl, hbs⟩ := Rws.addr qu_len (by decide) J3.out (by rw [HNQ.out]; omega)
              obtain ⟨A2, c2, _, hcz⟩ := Rws.at qu_len (Qus.below J3.out BJ.out) hq
              have HQ := Lib.hid hq; clear hq
              have ss2 := xc (blk_cell SI.out 2)
              have cc0 := xc (blk_cell CI.out 0)
              have cc1 := xc (blk_cell CI.out 1)
              have cc2 := xc (blk_cell CI.out 2)
              have cc3 := xc (blk_cell CI.out 3)
              have cc4 := xc (blk_cell CI.out 4)
              have zz0 := xc (hcz 0 _ rfl)
              have zz1 := xc (hcz 1 _ rfl)
              have zz2 := xc (hcz 2 _ rfl)
              have zz3 := xc (hcz 3 _ rfl)
              have zz4 := xc (hcz 4 _ rfl)
              dsimp only [Qu.cells, Nat.add_zero] at zz0 zz1 zz2 zz3 zz4
              clear hcz
              have NF := fun x : Ext wr.heap.size wr => has (keptL ps pn) ch.fr Ak nk ck HNK.out (by omega) x.world (RK.out.below (BJ.out.trans (x.below.mono BJ.out.size)))
              have NT := fun x : Ext wr.heap.size wr => has (keptL ps pn) ch.to Ak nk ck HNK.out (by omega) x.world (RK.out.below (BJ.out.trans (x.below.mono BJ.out.size)))
              rcases ch_cases q.ch ch with hqc | hqc | hqc | hqc | hqc | hqc
              · rw [hqc] at zz0 zz1 zz2 zz3 zz4
                have HQC := Lib.hid hqc; clear hqc
                by_cases hf : ch.fr ∈ keptL ps pn
                · simp only [decide_eq_true hf] at NF
                  have HF := Lib.hid hf; clear hf
                  by_cases ht : ch.to ∈ keptL ps pn
                  · simp only [decide_eq_true ht] at NT
                    have HT := Lib.hid ht; clear ht
                    go_wp2_with fail
                    refine region_ext (by kernel_rfl) (by kernel_rfl) ?_
                    try simp only [List.append_eq, List.cons_append, List.nil_append]
                    repeat (go_big_quiet_step (first | (with_reducible exact calls_ext (Nat.le_refl _) (NF _)) | (with_reducible exact calls_ext (Nat.le_refl _) (NT _))))
                    refine wpQuiet_nil ?_
                    intro v
                    have BV := Lib.hid (BI.out.trans (v.below.mono BI.out.size))
                    go_wp2
                    go_roundw
                    case rel => exact ⟨j, j, by omega, rfl, by go_num, WasQ.yes HQ.out ⟨HQC.out, HF.out, HT.out⟩, BV.out⟩
                    case measure => simp [intOf] <;> omega
                  · simp only [decide_eq_false ht] at NT
                    have HT := Lib.hid ht; clear ht
                    go_wp2_with fail
                    refine region_ext (by kernel_rfl) (by kernel_rfl) ?_
                    try simp only [List.append_eq, List.cons_append, List.nil_append]
                    repeat (go_big_quiet_step (first | (with_reducible exact calls_ext (Nat.le_refl _) (NF _)) | (with_reducible exact calls_ext (Nat.le_refl _) (NT _))))
                    refine wpQuiet_nil ?_
                    intro v
                    have BV := Lib.hid (BI.out.trans (v.below.mono BI.out.size))
                    go_wp2
                    go_roundw
                    case rel => exact ⟨j, z, by omega, rfl, by go_num, WQ.out.no HQ.out (fun h => HT.out h.2.2), BV.out⟩
                    case measure => simp [intOf] <;> omega
                · simp only [decide_eq_false hf] at NF
                  have HF := Lib.hid hf; clear hf NT
                  go_wp2_with fail
                  refine region_ext (by kernel_rfl) (by kernel_rfl) ?_
                  try simp only [List.append_eq, List.cons_append, List.nil_append]
                  repeat (go_big_quiet_step (first | (with_reducible exact calls_ext (Nat.le_refl _) (NF _))))
                  refine wpQuiet_nil ?_
                  intro v
                  have BV := Lib.hid (BI.out.trans (v.below.mono BI.out.size))
                  go_wp2
                  go_roundw
                  case rel => exact ⟨j, z, by omega, rfl, by go_num, WQ.out.no HQ.out (fun h => HF.out h.2.1), BV.out⟩
                  case measure => simp [intOf] <;> omega
              · have hd := hqc; clear hqc
                have e1 : (q.ch.id == ch.id) = false := by rw [beq_eq_false_iff_ne]; exact hd
                have e3 : ¬ q.ch.id = ch.id := hd
                have HD := Lib.hid hd; clear hd NF NT
                go_wp2_with fail
                refine region_ext (by kernel_rfl) (by kernel_rfl) ?_
                try simp only [List.append_eq, List.cons_append, List.nil_append]
                repeat (go_big_quiet_step (fail))
                refine wpQuiet_nil ?_
                intro v
                have BV := Lib.hid (BI.out.trans (v.below.mono BI.out.size))
                go_wp2
                go_roundw
                case rel => exact ⟨j, z, by omega, rfl, by go_num, WQ.out.no HQ.out (fun h => HD.out (by rw [h.1])), BV.out⟩
                case measure => simp [intOf] <;> omega
              · obtain ⟨h0, hd⟩ := hqc
                rw [h0] at zz0
                clear h0
                have e1 : (q.ch.fr == ch.fr) = false := by rw [beq_eq_false_iff_ne]; exact hd
                have e3 : ¬ q.ch.fr = ch.fr := hd
                have HD := Lib.hid hd; clear hd NF NT
                go_wp2_with fail
                refine region_ext (by kernel_rfl) (by kernel_rfl) ?_
                try simp only [List.append_eq, List.cons_append, List.nil_append]
                repeat (go_big_quiet_step (fail))
                refine wpQuiet_nil ?_
                intro v
                have BV := Lib.hid (BI.out.trans (v.below.mono BI.out.size))
                go_wp2
                go_roundw
                case rel => exact ⟨j, z, by omega, rfl, by go_num, WQ.out.no HQ.out (fun h => HD.out (by rw [h.1])), BV.out⟩
                case measure => simp [intOf] <;> omega
              · obtain ⟨h0, h1, hd⟩ := hqc
                rw [h0] at zz0
                rw [h1] at zz1
                clear h0 h1
                have e1 : (q.ch.to == ch.to) = false := by rw [beq_eq_false_iff_ne]; exact hd
                have e3 : ¬ q.ch.to = ch.to := hd
                have HD := Lib.hid hd; clear hd NF NT
                go_wp2_with fail
                refine region_ext (by kernel_rfl) (by kernel_rfl) ?_
                try simp only [List.append_eq, List.cons_append, List.nil_append]
                repeat (go_big_quiet_step (fail))
                refine wpQuiet_nil ?_
                intro v
                have BV := Lib.hid (BI.out.trans (v.below.mono BI.out.size))
                go_wp2
                go_roundw
                case rel => exact ⟨j, z, by omega, rfl, by go_num, WQ.out.no HQ.out (fun h => HD.out (by rw [h.1])), BV.out⟩
                case measure => simp [intOf] <;> omega
              · obtain ⟨h0, h1, h2, hd⟩ := hqc
                rw [h0] at zz0
                rw [h1] at zz1
                rw [h2] at zz2
                clear h0 h1 h2
                have e1 : (q.ch.cap == ch.cap) = false := by rw [beq_eq_false_iff_ne]; exact hd
                have e3 : ¬ q.ch.cap = ch.cap := hd
                have HD := Lib.hid hd; clear hd NF NT
                go_wp2_with fail
                refine region_ext (by kernel_rfl) (by kernel_rfl) ?_
                try simp only [List.append_eq, List.cons_append, List.nil_append]
                repeat (go_big_quiet_step (fail))
                refine wpQuiet_nil ?_
                intro v
                have BV := Lib.hid (BI.out.trans (v.below.mono BI.out.size))
                go_wp2
                go_roundw
                case rel => exact ⟨j, z, by omega, rfl, by go_num, WQ.out.no HQ.out (fun h => HD.out (by rw [h.1])), BV.out⟩
                case measure => simp [intOf] <;> omega
              · obtain ⟨h0, h1, h2, h3, hd⟩ := hqc
                rw [h0] at zz0
                rw [h1] at zz1
                rw [h2] at zz2
                rw [h3] at zz3
                clear h0 h1 h2 h3
                have e1 : (q.ch.sz == ch.sz) = false := by rw [beq_eq_false_iff_ne]; exact hd
                have e3 : ¬ q.ch.sz = ch.sz := hd
                have HD := Lib.hid hd; clear hd NF NT
                go_wp2_with fail
                refine region_ext (by kernel_rfl) (by kernel_rfl) ?_
                try simp only [List.append_eq, List.cons_append, List.nil_append]
                repeat (go_big_quiet_step (fail))
                refine wpQuiet_nil ?_
                intro v
                have BV := Lib.hid (BI.out.trans (v.below.mono BI.out.size))
                go_wp2
                go_roundw
                case rel => exact ⟨j, z, by omega, rfl, by go_num, WQ.out.no HQ.out (fun h => HD.out (by rw [h.1])), BV.out⟩
                case measure => simp [intOf] <;> omega
        · have hkn : nc = k := by omega
          subst hkn
          rw [show cs.take nc = cs from List.take_of_length_le (by rw [HNC.out]; exact Nat.le_refl _)]
          have a0 := blk_cell SR.out 0
          have a1 := blk_cell SR.out 1
          have a2 := blk_cell SR.out 2
          have DR := Lib.hid (D6.out.trans (BR.out.mono D6.out.size))
          have T1 := chanIds fr ps pn qs cs Ap Aq Aw An Ac np cp nq cq nw cw nn cn nc cc HNP.out HNN.out HNQ.out HNC.out (by omega) (by omega) (by omega) (by omega) ML.out QM.out wr (H1.out.below DR.out) (H2.out.below DR.out) (H3.out.below DR.out) (H4.out.below DR.out)
          obtain ⟨nx, hnx⟩ : ∃ nx, (chanL ps pn qs cs).length = nx := ⟨_, rfl⟩
          have HNX := Lib.hid hnx; clear hnx
          have HT1 := Lib.hid T1; clear T1
          rw [HNX.out]
          go_wp2_with fail
          refine HT1.out.mono ?_
          rintro e w7 ⟨b7, Ax, cx, rfl, _⟩
          rw [HNX.out]
          have D7 := Lib.hid (DR.out.trans (b7.mono DR.out.size))
          clear HT1 b7
          go_wp2
          go_ret
          exact ⟨by simp, HB.out.trans (D7.out.mono HB.out.size)⟩
end Go.Proofs.Ytnfjkpeifleogaa.mv
