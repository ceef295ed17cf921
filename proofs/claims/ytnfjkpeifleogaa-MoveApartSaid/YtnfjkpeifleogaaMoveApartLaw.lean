/- The law MoveApart; no condition. -/
import Derived.Test.YtnfjkpeifleogaaRows
import Derived.Test.YtnfjkpeifleogaaMvZ5
import Derived.Deep.CutRange
import Derived.BigRegion
namespace Go.Proofs.Ytnfjkpeifleogaa.mv
open Go Go.ChangeShapes Go.WideShapes Go.ChangeAt Go.RowKit Go.Proofs.Ytnfjkpeifleogaa.rows
set_option maxRecDepth 100000 in
set_option maxHeartbeats 8000000 in
theorem apartLaw (i : Int) (b : UInt8) (fr : Int) (ps : List Pt) (pn : List Pn) (qs : List Qu) (cs : List Ch) (Ap Aq Aw An Ac : Option Addr) (np cp nq cq nw cw nn cn nc cc : Nat) (hnp : ps.length = np) (hnn : pn.length = nn) (hnq : qs.length = nq) (hnc : cs.length = nc) (hml : ∀ x ∈ ps, x.mem.length ≤ 140737488355328) (hqm : ∀ q ∈ qs, q.msgs.length ≤ 140737488355328 ∧ ∀ m ∈ q.msgs, m.length ≤ 140737488355328) (hil : ∀ x ∈ pn, x.img.length ≤ 140737488355328) (w : World) (h : Pts w Ap ps) (h2 : Pns w An pn) (h3 : Qus w Aq qs) (h4 : Rd w Ac (chCells cs)) : Calls Try.prog 5 #[.agg #[.int .i64 fr, .slice Ap np cp, .slice Aq nq cq], .agg #[.slice Aw nw cw, .slice An nn cn, .slice Ac nc cc], .int .i64 i, .int .u8 (b.toNat : Int)] w fun e w' => e = .returned (.bool true) ∧ Below w.heap.size w w' := by
  obtain ⟨l0, li, lz0, lz1, lz2⟩ := info_parts info_row
  have hB2 := (((Below.refl w.heap.size w).alloc (Nat.le_refl _) (.cells #[.int .i64 fr, .slice Ap np cp, .slice Aq nq cq] 25)).alloc (by simp) (.cells #[.slice Aw nw cw, .slice An nn cn, .slice Ac nc cc] 30))
  have hs2 : ((w.alloc (.cells #[.int .i64 fr, .slice Ap np cp, .slice Aq nq cq] 25)).alloc (.cells #[.slice Aw nw cw, .slice An nn cn, .slice Ac nc cc] 30)).heap.size = w.heap.size + 2 := by simp
  have G0 := Lib.hid (blk_alloc (blk_new w #[.int .i64 fr, .slice Ap np cp, .slice Aq nq cq] 25) (.cells #[.slice Aw nw cw, .slice An nn cn, .slice Ac nc cc] 30))
  have G1 := Lib.hid (show ((w.alloc (.cells #[.int .i64 fr, .slice Ap np cp, .slice Aq nq cq] 25)).alloc (.cells #[.slice Aw nw cw, .slice An nn cn, .slice Ac nc cc] 30)).heap[w.heap.size + 1]? = some (.cells #[.slice Aw nw cw, .slice An nn cn, .slice Ac nc cc] 30 (0, 0)) by have := blk_new (w.alloc (.cells #[.int .i64 fr, .slice Ap np cp, .slice Aq nq cq] 25)) #[.slice Aw nw cw, .slice An nn cn, .slice Ac nc cc] 30; simpa using this)
  have HB := Lib.hid hB2; have HS2 := Lib.hid hs2
  have H1 := Lib.hid (h.below hB2); have H2 := Lib.hid (h2.below hB2); have H3 := Lib.hid (h3.below hB2); have H4 := Lib.hid (h4.below hB2)
  have HNP := Lib.hid hnp; have HNN := Lib.hid hnn; have HNQ := Lib.hid hnq; have HNC := Lib.hid hnc
  have HML := Lib.hid hml; have HQM := Lib.hid hqm; have HIL := Lib.hid hil
  clear h h2 h3 h4 hB2 hs2 hnp hnn hnq hnc hml hqm hil
  go_enter Try.func5, Try.ntmps5
  go_wp2_with fail
  generalize ((w.alloc (.cells #[.int .i64 fr, .slice Ap np cp, .slice Aq nq cq] 25)).alloc (.cells #[.slice Aw nw cw, .slice An nn cn, .slice Ac nc cc] 30)) = wb at *
  refine (awake wb).mono ?_
  rintro e w1 ⟨rfl, b1⟩
  have D1 := Lib.hid b1; clear b1
  have S1 := Lib.hid (blk_below G0.out D1.out (blk_lt G0.out)); have K1 := Lib.hid (blk_below G1.out D1.out (blk_lt G1.out))
  have a0 := blk_cell S1.out 0
  have a1 := blk_cell S1.out 1
  have a2 := blk_cell S1.out 2
  have c0 := blk_cell K1.out 0
  have c1 := blk_cell K1.out 1
  have c2 := blk_cell K1.out 2
  have J1 := Lib.hid (H1.out.below D1.out); have J2 := Lib.hid (H2.out.below D1.out); have J3 := Lib.hid (H3.out.below D1.out); have J4 := Lib.hid (H4.out.below D1.out)
  have hg1 := fun W (hW : Below w1.heap.size w1 W) => great_x fr ps pn qs Ap Aq Aw An Ac np cp nq cq nw cw nn cn nc cc HNP.out HNN.out HNQ.out HML.out HQM.out HIL.out W (J1.out.below hW) (J2.out.below hW) (J3.out.below hW)
  have hk1 : Below w1.heap.size w1 w1.drew := (Below.refl w1.heap.size w1).drew
  have HSALL := Lib.hid (show ∀ w', Below w1.heap.size w1 w' → (Below w1.heap.size w1 w' ∧ w'.cell? ⟨w.heap.size, 0, none⟩ = some (.int .i64 fr) ∧ w'.cell? ⟨w.heap.size, 1, none⟩ = some (.slice Ap np cp) ∧ w'.cell? ⟨w.heap.size, 2, none⟩ = some (.slice Aq nq cq) ∧ w'.cell? ⟨w.heap.size + 1, 0, none⟩ = some (.slice Aw nw cw) ∧ w'.cell? ⟨w.heap.size + 1, 1, none⟩ = some (.slice An nn cn) ∧ w'.cell? ⟨w.heap.size + 1, 2, none⟩ = some (.slice Ac nc cc)) from fun w' hb => ⟨hb, blk_cell (blk_below S1.out hb (blk_lt S1.out)) 0, blk_cell (blk_below S1.out hb (blk_lt S1.out)) 1, blk_cell (blk_below S1.out hb (blk_lt S1.out)) 2, blk_cell (blk_below K1.out hb (blk_lt K1.out)) 0, blk_cell (blk_below K1.out hb (blk_lt K1.out)) 1, blk_cell (blk_below K1.out hb (blk_lt K1.out)) 2⟩)
  cases hgv : greatV ps pn qs nc
  case true =>
    simp only [hgv] at hg1
    have HG1 := Lib.hid hg1; clear hg1 hgv HML HQM HIL
    have NG := fun y : Ext w1.heap.size w1 => HG1.out y.world y.below
    have ka0 := xc a0
    have ka1 := xc a1
    have ka2 := xc a2
    have kc0 := xc c0
    have kc1 := xc c1
    have kc2 := xc c2
    go_wp2_with fail
    refine region_ext (by kernel_rfl) (by kernel_rfl) ?_
    try simp only [List.append_eq, List.cons_append, List.nil_append]
    repeat (go_big_quiet_step (first | (with_reducible exact calls_ext (Nat.le_refl _) (NG _))))
    refine wpQuiet_nil ?_
    intro v9
    go_wp2
    go_ret
    exact ⟨rfl, HB.out.trans ((D1.out.trans (v9.below.mono D1.out.size)).mono HB.out.size)⟩
  case false =>
    obtain ⟨t1, t2, t3, t4, t5, t6, t7⟩ := greatV_tame hgv
    simp only [hgv] at hg1
    have HG1 := Lib.hid hg1; clear hg1 hgv HML HQM HIL
    have hnp : np ≤ 20 := by rw [← HNP.out]; exact t1
    have hnq : nq ≤ 20 := by rw [← HNQ.out]; exact t2
    have hnn : nn ≤ 20 := by rw [← HNN.out]; exact t3
    have hnc := t4
    have ML := Lib.hid (show ∀ x ∈ ps, x.mem.length ≤ 999999 from fun x hx => Nat.le_trans (t5 x hx) (by decide))
    have QM := Lib.hid (show ∀ q ∈ qs, q.msgs.length ≤ 999999 ∧ ∀ m ∈ q.msgs, m.length ≤ 999999 from fun q hq => ⟨Nat.le_trans (t6 q hq).1 (by decide), fun m hm => Nat.le_trans ((t6 q hq).2 m hm) (by decide)⟩)
    have ML1 := Lib.hid (show ∀ x ∈ ps, x.mem.length ≤ 1000000 from fun x hx => Nat.le_trans (t5 x hx) (by decide))
    have QM1 := Lib.hid (show ∀ q ∈ qs, q.msgs.length ≤ 1000000 ∧ ∀ m ∈ q.msgs, m.length ≤ 1000000 from fun q hq => ⟨Nat.le_trans (t6 q hq).1 (by decide), fun m hm => Nat.le_trans ((t6 q hq).2 m hm) (by decide)⟩)
    clear t1 t2 t3 t4 t5 t6 t7
    obtain ⟨v, hv, ho1⟩ := once_x fr ps pn Ap Aq Aw An Ac np cp nq cq nw cw nn cn nc cc HNP.out HNN.out (by omega) (by omega)
    have HO1 := Lib.hid (fun W (hW : Below w1.heap.size w1 W) => ho1 W (J1.out.below hW) (J2.out.below hW)); clear ho1
    cases v
    case false =>
      clear hv
      have NG := fun y : Ext w1.heap.size w1 => HG1.out y.world y.below
      have NO := fun y : Ext w1.heap.size w1 => HO1.out y.world y.below
      have ka0 := xc a0
      have ka1 := xc a1
      have ka2 := xc a2
      have kc0 := xc c0
      have kc1 := xc c1
      have kc2 := xc c2
      go_wp2_with fail
      refine region_ext (by kernel_rfl) (by kernel_rfl) ?_
      try simp only [List.append_eq, List.cons_append, List.nil_append]
      repeat (go_big_quiet_step (first | (with_reducible exact calls_ext (Nat.le_refl _) (NG _)) | (with_reducible exact calls_ext (Nat.le_refl _) (NO _))))
      refine wpQuiet_nil ?_
      intro v9
      go_wp2
      go_ret
      exact ⟨rfl, HB.out.trans ((D1.out.trans (v9.below.mono D1.out.size)).mono HB.out.size)⟩
    case true =>
      have HU := Lib.hid (hv.1 rfl)
      clear hv
      by_cases hi0 : i < 0
      · have hi1 : (i < 0) = True := eq_true hi0
        have NG := fun y : Ext w1.heap.size w1 => HG1.out y.world y.below
        have NO := fun y : Ext w1.heap.size w1 => HO1.out y.world y.below
        have ka0 := xc a0
        have ka1 := xc a1
        have ka2 := xc a2
        have kc0 := xc c0
        have kc1 := xc c1
        have kc2 := xc c2
        go_wp2_with fail
        refine region_ext (by kernel_rfl) (by kernel_rfl) ?_
        try simp only [List.append_eq, List.cons_append, List.nil_append]
        repeat (go_big_quiet_step (first | (with_reducible exact calls_ext (Nat.le_refl _) (NG _)) | (with_reducible exact calls_ext (Nat.le_refl _) (NO _))))
        refine wpQuiet_nil ?_
        intro v9
        go_wp2
        go_ret
        exact ⟨rfl, HB.out.trans ((D1.out.trans (v9.below.mono D1.out.size)).mono HB.out.size)⟩
      have hi1 : (i < 0) = False := eq_false hi0
      by_cases hi2 : (np : Int) ≤ i
      · have hi3 : ((np : Int) ≤ i) = True := eq_true hi2
        have NG := fun y : Ext w1.heap.size w1 => HG1.out y.world y.below
        have NO := fun y : Ext w1.heap.size w1 => HO1.out y.world y.below
        have ka0 := xc a0
        have ka1 := xc a1
        have ka2 := xc a2
        have kc0 := xc c0
        have kc1 := xc c1
        have kc2 := xc c2
        go_wp2_with fail
        refine region_ext (by kernel_rfl) (by kernel_rfl) ?_
        try simp only [List.append_eq, List.cons_append, List.nil_append]
        repeat (go_big_quiet_step (first | (with_reducible exact calls_ext (Nat.le_refl _) (NG _)) | (with_reducible exact calls_ext (Nat.le_refl _) (NO _))))
        refine wpQuiet_nil ?_
        intro v9
        go_wp2
        go_ret
        exact ⟨rfl, HB.out.trans ((D1.out.trans (v9.below.mono D1.out.size)).mono HB.out.size)⟩
      obtain ⟨i0, rfl⟩ : ∃ i0 : Nat, i = (i0 : Int) := ⟨i.toNat, by omega⟩
      have hip : i0 < np := by omega
      have hi3 : ((np : Int) ≤ (i0 : Int)) = False := eq_false (by omega)
      have hi4 : (i0 : Int) < (np : Int) := by omega
      have hi5 : (0 : Int) ≤ (i0 : Int) := by omega
      obtain ⟨x, hx⟩ : ∃ x, ps[i0]? = some x := ⟨_, List.getElem?_eq_getElem (by rw [HNP.out]; exact hip)⟩
      obtain ⟨bp, op, rfl, _⟩ := Rws.addr pt_len (by decide) J1.out (by rw [HNP.out]; omega)
      obtain ⟨A1, c1x, hin, hc⟩ := Rws.at pt_len J1.out hx
      have y0 := hc 0 _ rfl
      dsimp only [Pt.cells, Nat.add_zero] at y0
      clear hin hc
      have LTP := Lib.hid (World.block_lt_of_cell? w1 _ y0)
      have HX := Lib.hid hx; clear hx
      have HY0 := Lib.hid (show ∀ W, Below w1.heap.size w1 W → W.cell? ⟨bp, op + i0 * 14, none⟩ = some (.int .i64 x.id) from fun W hW => (hW.cell (p := ⟨bp, op + i0 * 14, none⟩) LTP.out).trans y0)
      have HSA2 := Lib.hid (show ∀ w', Below w1.heap.size w1 w' → (Below w1.heap.size w1 w' ∧ w'.cell? ⟨w.heap.size, 0, none⟩ = some (.int .i64 fr) ∧ w'.cell? ⟨w.heap.size, 1, none⟩ = some (.slice (some ⟨bp, op, none⟩) np cp) ∧ w'.cell? ⟨w.heap.size, 2, none⟩ = some (.slice Aq nq cq) ∧ w'.cell? ⟨w.heap.size + 1, 0, none⟩ = some (.slice Aw nw cw) ∧ w'.cell? ⟨w.heap.size + 1, 1, none⟩ = some (.slice An nn cn) ∧ w'.cell? ⟨w.heap.size + 1, 2, none⟩ = some (.slice Ac nc cc) ∧ w'.cell? ⟨bp, op + i0 * 14, none⟩ = some (.int .i64 x.id)) from fun w' hb => ⟨hb, blk_cell (blk_below S1.out hb (blk_lt S1.out)) 0, blk_cell (blk_below S1.out hb (blk_lt S1.out)) 1, blk_cell (blk_below S1.out hb (blk_lt S1.out)) 2, blk_cell (blk_below K1.out hb (blk_lt K1.out)) 0, blk_cell (blk_below K1.out hb (blk_lt K1.out)) 1, blk_cell (blk_below K1.out hb (blk_lt K1.out)) 2, HY0.out _ hb⟩)
      have hkL : (keptL ps pn).length ≤ 1000000 := Nat.le_trans (keptL_le _ _) (by rw [HNN.out]; omega)
      have HK1 := Lib.hid (fun W (hW : Below w1.heap.size w1 W) => keptIds fr ps pn qs cs (some ⟨bp, op, none⟩) Aq Aw An Ac np cp nq cq nw cw nn cn nc cc HNP.out HNN.out HNQ.out HNC.out (by omega) (by omega) (by omega) (by omega) ML1.out QM1.out W (J1.out.below hW) (J2.out.below hW) (J3.out.below hW) (J4.out.below hW))
      have hh1 := fun W A c (hr : Rd W A (ints .i64 (keptL ps pn))) => has (keptL ps pn) x.id A (keptL ps pn).length c rfl hkL W hr
      by_cases hkm : x.id ∈ keptL ps pn
      · simp only [hkm, decide_true] at hh1
        have HH1 := Lib.hid hh1; clear hh1
        go_wp2_with fail
        go_region_held3 (fun w' => Below w1.heap.size w1 w' ∧ w'.cell? ⟨w.heap.size, 0, none⟩ = some (.int .i64 fr) ∧ w'.cell? ⟨w.heap.size, 1, none⟩ = some (.slice (some ⟨bp, op, none⟩) np cp) ∧ w'.cell? ⟨w.heap.size, 2, none⟩ = some (.slice Aq nq cq) ∧ w'.cell? ⟨w.heap.size + 1, 0, none⟩ = some (.slice Aw nw cw) ∧ w'.cell? ⟨w.heap.size + 1, 1, none⟩ = some (.slice An nn cn) ∧ w'.cell? ⟨w.heap.size + 1, 2, none⟩ = some (.slice Ac nc cc) ∧ w'.cell? ⟨bp, op + i0 * 14, none⟩ = some (.int .i64 x.id))
          (first | (with_reducible exact HSA2.out _ hk1) | (with_reducible exact HSA2.out _ (by assumption)))
          (first
            | ((with_reducible refine (HG1.out _ (And.left (by assumption))).mono ?_); rintro e u1 ⟨rfl, d1⟩; have l1 : Below w1.heap.size w1 u1 := Below.trans (And.left (by assumption)) (Below.mono d1 (Below.size (And.left (by assumption)))))
            | ((with_reducible refine (HO1.out _ (And.left (by assumption))).mono ?_); rintro e u2 ⟨rfl, d2⟩; have l2 : Below w1.heap.size w1 u2 := Below.trans (And.left (by assumption)) (Below.mono d2 (Below.size (And.left (by assumption)))))
            | ((with_reducible refine (HK1.out _ (And.left (by assumption))).mono ?_); rintro e u3 ⟨d3, Ka, ka, rfl, rka⟩; have l3 : Below w1.heap.size w1 u3 := Below.trans (And.left (by assumption)) (Below.mono d3 (Below.size (And.left (by assumption)))))
            | ((with_reducible refine (HH1.out _ _ _ rka).mono ?_); rintro e u4 ⟨rfl, d4⟩; have l4 : Below w1.heap.size w1 u4 := Below.trans (And.left (by assumption)) (Below.mono d4 (Below.size (And.left (by assumption))))))
        go_wp2
        go_ret
        exact ⟨rfl, HB.out.trans ((D1.out.trans (l4.mono D1.out.size)).mono HB.out.size)⟩
      simp only [hkm, decide_false] at hh1
      have HH1 := Lib.hid hh1; clear hh1
      go_wp2_with fail
      go_region_held3 (fun w' => Below w1.heap.size w1 w' ∧ w'.cell? ⟨w.heap.size, 0, none⟩ = some (.int .i64 fr) ∧ w'.cell? ⟨w.heap.size, 1, none⟩ = some (.slice (some ⟨bp, op, none⟩) np cp) ∧ w'.cell? ⟨w.heap.size, 2, none⟩ = some (.slice Aq nq cq) ∧ w'.cell? ⟨w.heap.size + 1, 0, none⟩ = some (.slice Aw nw cw) ∧ w'.cell? ⟨w.heap.size + 1, 1, none⟩ = some (.slice An nn cn) ∧ w'.cell? ⟨w.heap.size + 1, 2, none⟩ = some (.slice Ac nc cc) ∧ w'.cell? ⟨bp, op + i0 * 14, none⟩ = some (.int .i64 x.id))
        (first | (with_reducible exact HSA2.out _ hk1) | (with_reducible exact HSA2.out _ (by assumption)))
        (first
          | ((with_reducible refine (HG1.out _ (And.left (by assumption))).mono ?_); rintro e u1 ⟨rfl, d1⟩; have l1 : Below w1.heap.size w1 u1 := Below.trans (And.left (by assumption)) (Below.mono d1 (Below.size (And.left (by assumption)))))
          | ((with_reducible refine (HO1.out _ (And.left (by assumption))).mono ?_); rintro e u2 ⟨rfl, d2⟩; have l2 : Below w1.heap.size w1 u2 := Below.trans (And.left (by assumption)) (Below.mono d2 (Below.size (And.left (by assumption)))))
          | ((with_reducible refine (HK1.out _ (And.left (by assumption))).mono ?_); rintro e u3 ⟨d3, Ka, ka, rfl, rka⟩; have l3 : Below w1.heap.size w1 u3 := Below.trans (And.left (by assumption)) (Below.mono d3 (Below.size (And.left (by assumption)))))
          | ((with_reducible refine (HH1.out _ _ _ rka).mono ?_); rintro e u4 ⟨rfl, d4⟩; have l4 : Below w1.heap.size w1 u4 := Below.trans (And.left (by assumption)) (Below.mono d4 (Below.size (And.left (by assumption))))))
      obtain ⟨v3, hv3⟩ : ∃ x : World, x = u4 := ⟨_, rfl⟩
      subst hv3
      have D3 := Lib.hid (D1.out.trans (l4.mono D1.out.size))
      have SR := Lib.hid (blk_below S1.out l4 (blk_lt S1.out)); have KR := Lib.hid (blk_below K1.out l4 (blk_lt K1.out))
      have Q1 := Lib.hid (J1.out.below l4); have Q2 := Lib.hid (J2.out.below l4); have Q3 := Lib.hid (J3.out.below l4); have Q4 := Lib.hid (J4.out.below l4)
      have YY := Lib.hid (HY0.out _ l4)
      have HKM := Lib.hid hkm
      clear a0 a1 a2 c0 c1 c2 y0 l1 l2 l3 l4 d1 d2 d3 d4 rka HSALL HSA2 HY0 HK1 HH1 HG1 HO1 S1 K1 D1 J1 J2 J3 J4 hk1 hkm hkL
      have a0 := blk_cell SR.out 0; have a1 := blk_cell SR.out 1; have a2 := blk_cell SR.out 2
      have HT2 := Lib.hid (copy_sep fr ps qs (some ⟨bp, op, none⟩) Aq np nq cp cq HNP.out HNQ.out (by omega) (by omega) ML1.out QM1.out v3 Q1.out Q3.out)
      go_wp2_with fail
      refine HT2.out.mono ?_
      rintro e w5 ⟨b5, Ta, ta, Tb, tb, mid, rfl, hm1, hm2, gpp, gpq⟩
      clear HT2 a0 a1 a2
      have BA := Lib.hid (ext1 w5 (.cells #[.int .i64 fr, .slice Ta np ta, .slice Tb nq tb] 25))
      have hGP := GrowPS.below gpp BA.out hm2
      have hGQ := GrowRS.below gpq BA.out
      have T0 := Lib.hid (blk_new w5 #[.int .i64 fr, .slice Ta np ta, .slice Tb nq tb] 25)
      have b5a := b5.trans (BA.out.mono b5.size)
      have hmz : mid ≤ (w5.alloc (.cells #[.int .i64 fr, .slice Ta np ta, .slice Tb nq tb] 25)).heap.size := Nat.le_trans hm2 BA.out.size
      obtain ⟨gp, _, _, rfl, _⟩ := hGP.open HX.out
      have A0 := Lib.hid (show ApSt v3.heap.size mid v3 w5.heap.size gp fr np ta Tb nq tb ps qs _ from ⟨b5a, T0.out, hGP, hGQ, hm1, hmz⟩)
      obtain ⟨r, hr8, hrm⟩ : ∃ r : Nat, r < 8 ∧ ((b.toNat : Int)).tmod 8 = (r : Int) := ⟨b.toNat % 8, by omega, (Int.tmod_eq_emod_of_nonneg (by omega)).trans (by omega)⟩
      obtain ⟨z, hz, hset⟩ := pt_reg x r hr8
      have HZ := Lib.hid hz; have HSET := Lib.hid hset
      clear hGP hGQ T0 BA hz hset gpp gpq b5 b5a hm1 hm2 hmz
      have hxl := (List.getElem?_eq_some_iff.1 HX.out).1
      have HXL := Lib.hid hxl; clear hxl
      go_wp2_with fail
      generalize (w5.alloc (.cells #[.int .i64 fr, .slice (some ⟨gp, 0, none⟩) np ta, .slice Tb nq tb] 25)) = v0 at *
      have t1 := blk_cell A0.out.2.1 1
      have hr8i : (r : Int) < 8 := by omega
      have hr0 : (0 : Int) ≤ (r : Int) := by omega
      have hbw : IntKind.i64.wrap (b.toNat : Int) = (b.toNat : Int) := by have := b.toNat_lt; rw [IntKind.wrap_i64]; omega
      obtain ⟨yr, fr1⟩ := A0.out.cell HX.out HZ.out
      rw [← Nat.add_assoc] at yr fr1
      go_region
      obtain ⟨x1, x1c, x1m, x1i, x1k, x1s⟩ := HSET.out ((z + 1) % 4294967296)
      have A1 := Lib.hid (ApSt.drew (ApSt.set (x' := x1) A0.out HX.out (j := 3 + r) (u := .int .u32 ((z + 1) % 4294967296)) (by omega) x1c x1m))
      rw [← Nat.add_assoc] at A1
      generalize (v0.setCell ⟨gp, i0 * 14 + 3 + r, none⟩ (.int .u32 ((z + 1) % 4294967296))).drew = v1 at *
      clear t1 yr fr1 HZ HSET x1c A0
      have HX1 := Lib.hid (show (ps.set i0 x1)[i0]? = some x1 by rw [List.getElem?_set, if_pos rfl, if_pos HXL.out])
      have t1 := blk_cell A1.out.2.1 1
      obtain ⟨y11, f11⟩ := A1.out.cell HX1.out (j := 11) (u := .int .u32 x1.pc) (fun _ _ => rfl)
      go_upto_region 8 with fail
      have A2 := Lib.hid (ApSt.set (x' := { x1 with pc := (x1.pc + 1) % 4294967296 }) A1.out HX1.out (j := 11) (u := .int .u32 ((x1.pc + 1) % 4294967296)) (by omega) (fun _ _ => rfl) rfl)
      rw [List.set_set] at A2
      generalize (v1.setCell ⟨gp, i0 * 14 + 11, none⟩ (.int .u32 ((x1.pc + 1) % 4294967296))) = v2 at *
      clear t1 y11 f11 A1 HX1
      obtain ⟨x2, hx2⟩ : ∃ y : Pt, { x1 with pc := (x1.pc + 1) % 4294967296 } = y := ⟨_, rfl⟩
      have x2m : x2.mem = x.mem := by rw [← hx2]; exact x1m
      have x2i : x2.id = x.id := by rw [← hx2]; exact x1i
      have x2k : x2.keep = x.keep := by rw [← hx2]; exact x1k
      have x2s : x2.size = x.size := by rw [← hx2]; exact x1s
      rw [hx2] at A2
      clear hx2 x1m x1i x1k x1s
      have HX2 := Lib.hid (show (ps.set i0 x2)[i0]? = some x2 by rw [List.getElem?_set, if_pos rfl, if_pos HXL.out])
      have t1 := blk_cell A2.out.2.1 1
      obtain ⟨y12, f12⟩ := A2.out.cell HX2.out (j := 12) (u := .int .u8 x2.st) (fun _ _ => rfl)
      go_upto_region 9 with fail
      have A3 := Lib.hid (ApSt.set (x' := { x2 with st := (x2.st + 1) % 256 }) A2.out HX2.out (j := 12) (u := .int .u8 ((x2.st + 1) % 256)) (by omega) (fun _ _ => rfl) rfl)
      rw [List.set_set] at A3
      generalize (v2.setCell ⟨gp, i0 * 14 + 12, none⟩ (.int .u8 ((x2.st + 1) % 256))) = v4 at *
      clear t1 y12 f12 A2 HX2
      obtain ⟨x3, hx3⟩ : ∃ y : Pt, { x2 with st := (x2.st + 1) % 256 } = y := ⟨_, rfl⟩
      have x3m : x3.mem = x.mem := by rw [← hx3]; exact x2m
      have x3i : x3.id = x.id := by rw [← hx3]; exact x2i
      have x3k : x3.keep = x.keep := by rw [← hx3]; exact x2k
      have x3s : x3.size = x.size := by rw [← hx3]; exact x2s
      rw [hx3] at A3
      clear hx3 x2m x2i x2k x2s
      have HX3 := Lib.hid (show (ps.set i0 x3)[i0]? = some x3 by rw [List.getElem?_set, if_pos rfl, if_pos HXL.out])
      have t1 := blk_cell A3.out.2.1 1
      obtain ⟨Am, cm, y13⟩ := A3.out.memc HX3.out
      obtain ⟨m, hm⟩ : ∃ m, x3.mem.length = m := ⟨_, rfl⟩
      have hm6 : m ≤ 1000000 := by rw [← hm, x3m]; exact ML1.out x (List.mem_of_getElem? HX.out)
      have hm6i : (m : Int) ≤ 1000000 := by omega
      have HM := Lib.hid hm
      rw [hm] at y13
      clear hm
      go_upto_if 87 with fail
      go_cut [] from 88 (fun wc => ∃ xf : Pt, xf.mem.length = x.mem.length ∧ xf.id = x.id ∧ xf.keep = x.keep ∧ xf.size = x.size ∧ ApSt v3.heap.size mid v3 w5.heap.size gp fr np ta Tb nq tb (ps.set i0 xf) qs wc)
      case first =>
        by_cases hm0 : m = 0
        · subst hm0
          go_wp2_with fail
          go_meet
          exact ⟨x3, by rw [x3m], x3i, x3k, x3s, A3.out⟩
        have hmi : (0 : Int) < (m : Int) := by omega
        clear y13
        obtain ⟨r2, hr2, hrm2⟩ : ∃ r2 : Nat, r2 < m ∧ ((b.toNat : Int)).tmod (m : Int) = (r2 : Int) := ⟨b.toNat % m, Nat.mod_lt _ (by omega), (Int.ofNat_tmod b.toNat m).symm⟩
        obtain ⟨gm, cm2, z2, y13, ym, fm, hmset⟩ := A3.out.mem HX3.out (r := r2) (by rw [HM.out]; exact hr2)
        have HMS := Lib.hid hmset; clear hmset
        rw [HM.out] at y13
        have hr2i : (r2 : Int) < (m : Int) := by omega
        have hr20 : (0 : Int) ≤ (r2 : Int) := by omega
        have hm0i : ((m : Int) == 0) = false := by simp; omega
        go_wp2_with fail
        obtain ⟨b2, hb2⟩ := byte_of ((z2 + 1) % 256) (by omega) (by omega)
        have A4 := Lib.hid (ApSt.drew (HMS.out b2))
        rw [hb2, List.set_set] at A4
        clear HMS hb2
        go_region
        all_goals (go_wp2_with fail; go_meet)
        all_goals exact ⟨{ x3 with mem := x3.mem.set r2 b2 }, by rw [← x3m]; simp, x3i, x3k, x3s, A4.out⟩
      case rest =>
        obtain ⟨xf, xfm, xfi, xfk, xfs, ha⟩ := hcut
        have AF := Lib.hid ha
        clear ha A3 HX3 t1 y13 x3m x3i x3k x3s HM hm6 hm6i HXL
        go_wp2_with fail
        go_loopw [10] (fun kv wr => ∃ k : Nat, k ≤ nq ∧ kv = .int .i64 k ∧ ApSt v3.heap.size mid v3 w5.heap.size gp fr np ta Tb nq tb (ps.set i0 xf) (touchL (touch x.id [b]) k qs) wr) (fun kv _ => nq - (intOf kv).toNat)
        case atStart => exact ⟨0, Nat.zero_le _, rfl, by rw [touchL_zero]; exact AF.out⟩
        case round =>
          obtain ⟨k, hk, rfl, ha⟩ := hrel
          have HA := Lib.hid ha; clear ha
          have t2 := blk_cell HA.out.2.1 2
          by_cases hkl : k < nq
          · have hki : (k : Int) < (nq : Int) := by omega
            have hki0 : (0 : Int) ≤ (k : Int) := by omega
            obtain ⟨q, hq⟩ : ∃ q, qs[k]? = some q := ⟨_, List.getElem?_eq_getElem (by rw [HNQ.out]; exact hkl)⟩
            obtain ⟨gq, Al, dl, vs, rfl, hcq, ⟨csq, hgq⟩, hown, hpush⟩ := HA.out.queue (touchL_at (touch x.id [b]) hq)
            have y0 := hcq 0 _ rfl
            have y1 := hcq 1 _ rfl
            have y2 := hcq 2 _ rfl
            have y3 := hcq 3 _ rfl
            have y4 := hcq 4 _ rfl
            have y5 := hcq 5 _ rfl
            dsimp only [Qu.cells, Nat.add_zero] at y0 y1 y2 y3 y4 y5
            have HQ := Lib.hid hq; have HOWN := Lib.hid hown; have HP := Lib.hid hpush; have HGQ := Lib.hid hgq; have HCQ := Lib.hid hcq; clear hq hown hpush hgq hcq
            have Y5 := Lib.hid y5; clear y5
            obtain ⟨nl, hnl⟩ : ∃ nl, q.msgs.length = nl := ⟨_, rfl⟩
            have HNL := Lib.hid hnl
            have hnli : (nl : Int) ≤ 999999 := by have := (QM.out q (List.mem_of_getElem? HQ.out)).1; omega
            rw [hnl] at Y5 HOWN HP
            clear hnl
            go_wp2_with fail
            clear y0 y1 y2 y3 y4
            have CB := Lib.hid (blk_new wr #[.int .i64 q.ch.id, .int .i64 q.ch.fr, .int .i64 q.ch.to, .int .i64 q.ch.cap, .int .i64 q.ch.sz] 50)
            have BC := Lib.hid (ext1 wr (.cells #[.int .i64 q.ch.id, .int .i64 q.ch.fr, .int .i64 q.ch.to, .int .i64 q.ch.cap, .int .i64 q.ch.sz] 50))
            generalize (wr.alloc (.cells #[.int .i64 q.ch.id, .int .i64 q.ch.fr, .int .i64 q.ch.to, .int .i64 q.ch.cap, .int .i64 q.ch.sz] 50)) = wq at *
            have BQ := Lib.hid (HA.out.1.trans (BC.out.mono HA.out.1.size))
            have TQ := Lib.hid (blk_below HA.out.2.1 BC.out (blk_lt HA.out.2.1))
            have qc1 := xc (blk_cell CB.out 1); have qc2 := xc (blk_cell CB.out 2)
            have qa1 := xc (blk_cell (blk_below SR.out BQ.out (blk_lt SR.out)) 1)
            have qy := xc ((BQ.out.cell (p := ⟨bp, op + i0 * 14, none⟩) (World.block_lt_of_cell? v3 _ YY.out)).trans YY.out)
            clear t2
            go_cut [140] from 108 to 155 (fun sc wc => sc = .bool (decide (q.ch.fr = x.id ∨ q.ch.to = x.id)) ∧ Below wq.heap.size wq wc)
            case first =>
              by_cases hcf : q.ch.fr = x.id
              · have hd1 : decide (q.ch.fr = x.id) = true := decide_eq_true hcf
                have hd2 : (q.ch.fr == x.id) = true := by simp [hcf]
                refine region_ext (by kernel_rfl) (by kernel_rfl) ?_
                try simp only [List.append_eq, List.cons_append, List.nil_append]
                repeat (go_big_quiet_step (fail))
                refine wpQuiet_nil ?_
                intro v9
                go_wp2_with fail
                go_meet
                exact ⟨by simp [hcf], v9.below⟩
              have hd1 : decide (q.ch.fr = x.id) = false := decide_eq_false hcf
              have hd2 : (q.ch.fr == x.id) = false := by simp [hcf]
              by_cases hct : q.ch.to = x.id
              · have hd3 : decide (q.ch.to = x.id) = true := decide_eq_true hct
                have hd4 : (q.ch.to == x.id) = true := by simp [hct]
                refine region_ext (by kernel_rfl) (by kernel_rfl) ?_
                try simp only [List.append_eq, List.cons_append, List.nil_append]
                repeat (go_big_quiet_step (fail))
                refine wpQuiet_nil ?_
                intro v9
                go_wp2_with fail
                go_meet
                exact ⟨by simp [hct], v9.below⟩
              have hd3 : decide (q.ch.to = x.id) = false := decide_eq_false hct
              have hd4 : (q.ch.to == x.id) = false := by simp [hct]
              refine region_ext (by kernel_rfl) (by kernel_rfl) ?_
              try simp only [List.append_eq, List.cons_append, List.nil_append]
              repeat (go_big_quiet_step (fail))
              refine wpQuiet_nil ?_
              intro v9
              go_wp2_with fail
              go_meet
              exact ⟨by simp [hcf, hct], v9.below⟩
            case rest =>
              obtain ⟨rfl, hb9⟩ := hcut
              have B9 := Lib.hid hb9; clear hb9 qc1 qc2 qa1 qy
              obtain ⟨vn, hvn⟩ : ∃ y : World, y = wc := ⟨_, rfl⟩
              subst hvn
              have BN := Lib.hid (BC.out.trans (B9.out.mono BC.out.size))
              by_cases hor : q.ch.fr = x.id ∨ q.ch.to = x.id
              · have HTY := Lib.hid (show touch x.id [b] q = { q with msgs := q.msgs ++ [[b]] } from if_pos hor)
                simp only [hor, decide_true]
                clear hor
                go_wp2_with fail
                have TN := Lib.hid (blk_below TQ.out B9.out (blk_lt TQ.out))
                have HON := Lib.hid (own_below HOWN.out BN.out)
                have yn := (BN.out.cell (p := ⟨gq, k * 6 + 5, none⟩) (World.block_lt_of_cell? wr _ Y5.out)).trans Y5.out
                have t2 := blk_cell TN.out 2
                have t2a : ∀ o, (vn.alloc o).cell? ⟨w5.heap.size, 2, none⟩ = some (.slice (some ⟨gq, 0, none⟩) nq tb) := fun o => blk_cell (blk_alloc TN.out o) 2
                have t2b : ∀ o o2, ((vn.alloc o).alloc o2).cell? ⟨w5.heap.size, 2, none⟩ = some (.slice (some ⟨gq, 0, none⟩) nq tb) := fun o o2 => blk_cell (blk_alloc (blk_alloc TN.out o) o2) 2
                have hyl := World.block_lt_of_cell? vn _ yn
                have yna : ∀ o, (vn.alloc o).cell? ⟨gq, k * 6 + 5, none⟩ = some (.slice Al nl dl) := fun o => ((ext1 vn o).cell (p := ⟨gq, k * 6 + 5, none⟩) hyl).trans yn
                have ynb : ∀ o o2, ((vn.alloc o).alloc o2).cell? ⟨gq, k * 6 + 5, none⟩ = some (.slice Al nl dl) := fun o o2 => (((ext1 vn o).trans ((ext1 (vn.alloc o) o2).mono (ext1 vn o).size)).cell (p := ⟨gq, k * 6 + 5, none⟩) hyl).trans yn
                have B1 := Lib.hid (ext2d vn (.cells #[.int .u8 (b.toNat : Int)] 5) (.cells #[.slice (some ⟨vn.heap.size, 0, none⟩) 1 1] 38))
                have HO1 := Lib.hid (own_below HON.out B1.out)
                have HNEW := Lib.hid (news_new vn (.cells #[.int .u8 (b.toNat : Int)] 5) (.slice (some ⟨vn.heap.size, 0, none⟩) 1 1) 38)
                have hmv : mid ≤ vn.heap.size := Nat.le_trans HA.out.2.2.2.2.2 BN.out.size
                have HMW := Lib.hid (msg_new vn b (.cells #[.slice (some ⟨vn.heap.size, 0, none⟩) 1 1] 38) hmv)
                have TQ1 := Lib.hid (blk_below TN.out B1.out (blk_lt TN.out))
                have QQ1 := Lib.hid (blk_below HGQ.out (BN.out.trans (B1.out.mono BN.out.size)) (blk_lt HGQ.out))
                have hz1 : mid ≤ (((vn.alloc (.cells #[.int .u8 (b.toNat : Int)] 5)).alloc (.cells #[.slice (some ⟨vn.heap.size, 0, none⟩) 1 1] 38)).drew).heap.size := Nat.le_trans hmv B1.out.size
                go_region_law (first
                  | (refine step_append_lies _ rfl (.tmp 149) (.tmp 152) 51 rfl mid 38 l0 (.slice none 0 0) 1 24 Try.underlying51 li lz0 lz1 lz2 rfl (by decide) _ nl vs rfl HO1.out _ 1 _ [.slice (some ⟨vn.heap.size, 0, none⟩) 1 1] rfl rfl HNEW.out (by intro u hu; simp at hu; subst hu; rfl) (by decide) (by unfold maxLen; omega) (by omega) hz1 _ rfl ?_; intro g6 c6 w6 hown6 hg6 hat6 hlt6; have KX6 := Lib.hid (KeptX.grown HO1.out hg6); have t2c := blk_cell (KX6.out.2 _ _ _ (by decide) TQ1.out) 2; have Q6 := Lib.hid (KX6.out.2 _ _ _ (by decide) QQ1.out); have y6 := (blk_cell Q6.out (k * 6 + 5)).trans ((blk_cell HGQ.out (k * 6 + 5)).symm.trans Y5.out); have f6 := blk_frozen Q6.out (k * 6 + 5))
                  | fail)
                all_goals (go_wp2_with fail; go_roundw)
                all_goals first
                  | (simp [intOf]; omega)
                  | exact ⟨k + 1, by omega, by go_num, by rw [← touchL_set (touch x.id [b]) HQ.out, HTY.out]; exact (HP.out _ _ _ [b] g6 c6 (BN.out.trans (B1.out.mono BN.out.size)) HMW.out hown6 hg6 hat6).2⟩
                skip
              have HTN := Lib.hid (show touch x.id [b] q = q from if_neg hor)
              simp only [hor, decide_false]
              clear hor
              go_wp2
              go_roundw
              case rel => exact ⟨k + 1, by omega, by go_num, by rw [touchL_same _ HQ.out HTN.out]; exact HA.out.below BN.out⟩
              case measure => simp [intOf] <;> omega
          · have hkn : nq = k := by omega
            subst hkn
            have HE := Lib.hid (show ApSt v3.heap.size mid v3 w5.heap.size gp fr np ta Tb nq tb (ps.set i0 xf) (qs.map (touch x.id [b])) wr by have h := HA.out; rwa [touchL_all _ _ HNQ.out] at h)
            clear HA AF
            go_upto_region 17 with fail
            clear t2
            obtain ⟨X, hX⟩ : ∃ X, moveP ps pn = X := ⟨_, rfl⟩
            obtain ⟨Y, hY⟩ : ∃ X, moveQ ps pn qs cs = X := ⟨_, rfl⟩
            have LX := Lib.hid (show X.length = nn by rw [← hX, moveP_length, HNN.out]); have LY := Lib.hid (show Y.length = nc by rw [← hY, moveQ_length, HNC.out])
            have MX := Lib.hid (show ∀ x ∈ X, x.mem.length ≤ 1000000 by rw [← hX]; exact moveP_le (by decide) ML1.out); have QY := Lib.hid (show ∀ q ∈ Y, q.msgs.length ≤ 1000000 ∧ ∀ m ∈ q.msgs, m.length ≤ 1000000 by rw [← hY]; exact moveQ_le QM1.out)
            have HTX := Lib.hid (show moveP (ps.set i0 xf) pn = X by rw [← hX]; exact moveP_apart HU.out.1 HX.out xfi xfk xfs HKM.out)
            have HTY := Lib.hid (show moveQ (ps.set i0 xf) pn (qs.map (touch x.id [b])) cs = Y by rw [← hY]; exact moveQ_apart HU.out.1 HU.out.2 HX.out xfi xfk xfs HKM.out)
            have HSX := Lib.hid hX; have HSY := Lib.hid hY; clear hX hY
            have ML2 := Lib.hid (show ∀ y ∈ ps.set i0 xf, y.mem.length ≤ 1000000 from fun y hy => by rcases List.mem_or_eq_of_mem_set hy with h | h; exact ML1.out y h; rw [h, xfm]; exact ML1.out x (List.mem_of_getElem? HX.out))
            have QM2 := Lib.hid (show ∀ q ∈ qs.map (touch x.id [b]), q.msgs.length ≤ 1000000 ∧ ∀ m ∈ q.msgs, m.length ≤ 1000000 from fun q hq => by obtain ⟨q0, h0, rfl⟩ := List.mem_map.1 hq; exact touch_le (QM.out q0 h0) (by simp))
            have HNP2 := Lib.hid (show (ps.set i0 xf).length = np by rw [List.length_set, HNP.out]); have HNQ2 := Lib.hid (show (qs.map (touch x.id [b])).length = nq by rw [List.length_map, HNQ.out])
            have PT := Lib.hid (show Pts wr (some ⟨gp, 0, none⟩) (ps.set i0 xf) by obtain ⟨A, c, e, k⟩ := GrowPS.form HE.out.2.2.1; injection e with e; rw [e]; exact k)
            have QT := Lib.hid (show Qus wr Tb (qs.map (touch x.id [b])) by obtain ⟨A, c, e, k⟩ := GrowRS.form HE.out.2.2.2.1; injection e with e; rw [e]; exact k)
            have BE := Lib.hid HE.out.1; have TE := Lib.hid HE.out.2.1
            clear HE
            have SE := Lib.hid (blk_below SR.out BE.out (blk_lt SR.out)); have KE := Lib.hid (blk_below KR.out BE.out (blk_lt KR.out))
            have E1 := Lib.hid (Pts.below Q1.out BE.out); have E2 := Lib.hid (Pns.below Q2.out BE.out); have E3 := Lib.hid (Qus.below Q3.out BE.out); have E4 := Lib.hid (Q4.out.below BE.out)
            have HSALL := Lib.hid (show ∀ w', Below wr.heap.size wr w' → (Below wr.heap.size wr w' ∧ w'.cell? ⟨w.heap.size, 0, none⟩ = some (.int .i64 fr) ∧ w'.cell? ⟨w.heap.size, 1, none⟩ = some (.slice (some ⟨bp, op, none⟩) np cp) ∧ w'.cell? ⟨w.heap.size, 2, none⟩ = some (.slice Aq nq cq) ∧ w'.cell? ⟨w.heap.size + 1, 0, none⟩ = some (.slice Aw nw cw) ∧ w'.cell? ⟨w.heap.size + 1, 1, none⟩ = some (.slice An nn cn) ∧ w'.cell? ⟨w.heap.size + 1, 2, none⟩ = some (.slice Ac nc cc) ∧ w'.cell? ⟨w5.heap.size, 0, none⟩ = some (.int .i64 fr) ∧ w'.cell? ⟨w5.heap.size, 1, none⟩ = some (.slice (some ⟨gp, 0, none⟩) np ta) ∧ w'.cell? ⟨w5.heap.size, 2, none⟩ = some (.slice Tb nq tb)) from fun w' hb => ⟨hb, blk_cell (blk_below SE.out hb (blk_lt SE.out)) 0, blk_cell (blk_below SE.out hb (blk_lt SE.out)) 1, blk_cell (blk_below SE.out hb (blk_lt SE.out)) 2, blk_cell (blk_below KE.out hb (blk_lt KE.out)) 0, blk_cell (blk_below KE.out hb (blk_lt KE.out)) 1, blk_cell (blk_below KE.out hb (blk_lt KE.out)) 2, blk_cell (blk_below TE.out hb (blk_lt TE.out)) 0, blk_cell (blk_below TE.out hb (blk_lt TE.out)) 1, blk_cell (blk_below TE.out hb (blk_lt TE.out)) 2⟩)
            have HM1 := Lib.hid (fun W (hW : Below wr.heap.size wr W) => move_rd fr ps pn qs cs (some ⟨bp, op, none⟩) Aq Aw An Ac np cp nq cq nw cw nn cn nc cc HNP.out HNN.out HNQ.out HNC.out (by omega) (by omega) (by omega) (by omega) ML1.out QM1.out W (Pts.below E1.out hW) (Pns.below E2.out hW) (Qus.below E3.out hW) (E4.out.below hW))
            have HM2 := Lib.hid (fun W (hW : Below wr.heap.size wr W) => move_rd fr (ps.set i0 xf) pn (qs.map (touch x.id [b])) cs (some ⟨gp, 0, none⟩) Tb Aw An Ac np ta nq tb nw cw nn cn nc cc HNP2.out HNN.out HNQ2.out HNC.out (by omega) (by omega) (by omega) (by omega) ML2.out QM2.out W (Pts.below PT.out hW) (Pns.below E2.out hW) (Qus.below QT.out hW) (E4.out.below hW))
            rw [HSX.out, HSY.out] at HM1; rw [HTX.out, HTY.out] at HM2
            have hk1 : Below wr.heap.size wr wr.drew := (Below.refl wr.heap.size wr).drew
            go_wp2_with fail
            go_region_held3 (fun w' => Below wr.heap.size wr w' ∧ w'.cell? ⟨w.heap.size, 0, none⟩ = some (.int .i64 fr) ∧ w'.cell? ⟨w.heap.size, 1, none⟩ = some (.slice (some ⟨bp, op, none⟩) np cp) ∧ w'.cell? ⟨w.heap.size, 2, none⟩ = some (.slice Aq nq cq) ∧ w'.cell? ⟨w.heap.size + 1, 0, none⟩ = some (.slice Aw nw cw) ∧ w'.cell? ⟨w.heap.size + 1, 1, none⟩ = some (.slice An nn cn) ∧ w'.cell? ⟨w.heap.size + 1, 2, none⟩ = some (.slice Ac nc cc) ∧ w'.cell? ⟨w5.heap.size, 0, none⟩ = some (.int .i64 fr) ∧ w'.cell? ⟨w5.heap.size, 1, none⟩ = some (.slice (some ⟨gp, 0, none⟩) np ta) ∧ w'.cell? ⟨w5.heap.size, 2, none⟩ = some (.slice Tb nq tb))
              (first | (with_reducible exact HSALL.out _ hk1) | (with_reducible exact HSALL.out _ (by assumption)))
              (first
                | ((with_reducible refine (HM1.out _ (And.left (by assumption))).mono ?_); rintro e u1 ⟨d1, Xa, xa, Xb, xb, rfl, p1, q1⟩; have l1 : Below wr.heap.size wr u1 := Below.trans (And.left (by assumption)) (Below.mono d1 (Below.size (And.left (by assumption)))))
                | ((with_reducible refine (HM2.out _ (And.left (by assumption))).mono ?_); rintro e u2 ⟨d2, Ya, ya, Yb, yb, rfl, p2, q2⟩; have p12 := Pts.below p1 d2; have q12 := Qus.below q1 d2; have l2 : Below wr.heap.size wr u2 := Below.trans (And.left (by assumption)) (Below.mono d2 (Below.size (And.left (by assumption)))))
                | ((with_reducible refine (state_eq fr X Y Xa Xb Ya Yb nn nc xa xb ya yb LX.out LY.out (by omega) (by omega) MX.out QY.out _ p12 p2 q12 q2).mono ?_); rintro e u3 ⟨rfl, d3⟩; have l3 : Below wr.heap.size wr u3 := Below.trans (And.left (by assumption)) (Below.mono d3 (Below.size (And.left (by assumption))))))
            go_wp2
            go_ret
            have b9 := BE.out.trans (l3.mono BE.out.size)
            exact ⟨rfl, HB.out.trans ((D3.out.trans (b9.mono D3.out.size)).mono HB.out.size)⟩
end Go.Proofs.Ytnfjkpeifleogaa.mv
