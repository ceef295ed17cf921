/- The law MoveKeeps; no condition. -/
import Derived.Test.YtnfjkpeifleogaaRows
import Derived.Test.YtnfjkpeifleogaaMvM
import Derived.Deep.RegionHeld3
import Derived.Deep.Cut
namespace Go.Proofs.Ytnfjkpeifleogaa.mv
open Go Go.ChangeShapes Go.WideShapes Go.ChangeAt Go.RowKit Go.Proofs.Ytnfjkpeifleogaa.rows
set_option maxRecDepth 100000 in
set_option maxHeartbeats 8000000 in
theorem keepsLaw (fr : Int) (ps : List Pt) (pn : List Pn) (qs : List Qu) (cs : List Ch) (Ap Aq Aw An Ac : Option Addr) (np cp nq cq nw cw nn cn nc cc : Nat) (hnp : ps.length = np) (hnn : pn.length = nn) (hnq : qs.length = nq) (hnc : cs.length = nc) (hml : ∀ x ∈ ps, x.mem.length ≤ 140737488355328) (hqm : ∀ q ∈ qs, q.msgs.length ≤ 140737488355328 ∧ ∀ m ∈ q.msgs, m.length ≤ 140737488355328) (hil : ∀ x ∈ pn, x.img.length ≤ 140737488355328) (w : World) (h : Pts w Ap ps) (h2 : Pns w An pn) (h3 : Qus w Aq qs) (h4 : Rd w Ac (chCells cs)) : Calls Try.prog 3 #[.agg #[.int .i64 fr, .slice Ap np cp, .slice Aq nq cq], .agg #[.slice Aw nw cw, .slice An nn cn, .slice Ac nc cc]] w fun e w' => e = .returned (.bool true) ∧ Below w.heap.size w w' := by
  have hB2 := (((Below.refl w.heap.size w).alloc (Nat.le_refl _) (.cells #[.int .i64 fr, .slice Ap np cp, .slice Aq nq cq] 25)).alloc (by simp) (.cells #[.slice Aw nw cw, .slice An nn cn, .slice Ac nc cc] 30))
  have hs2 : ((w.alloc (.cells #[.int .i64 fr, .slice Ap np cp, .slice Aq nq cq] 25)).alloc (.cells #[.slice Aw nw cw, .slice An nn cn, .slice Ac nc cc] 30)).heap.size = w.heap.size + 2 := by simp
  have G0 := Lib.hid (blk_alloc (blk_new w #[.int .i64 fr, .slice Ap np cp, .slice Aq nq cq] 25) (.cells #[.slice Aw nw cw, .slice An nn cn, .slice Ac nc cc] 30))
  have G1 := Lib.hid (show ((w.alloc (.cells #[.int .i64 fr, .slice Ap np cp, .slice Aq nq cq] 25)).alloc (.cells #[.slice Aw nw cw, .slice An nn cn, .slice Ac nc cc] 30)).heap[w.heap.size + 1]? = some (.cells #[.slice Aw nw cw, .slice An nn cn, .slice Ac nc cc] 30 (0, 0)) by have := blk_new (w.alloc (.cells #[.int .i64 fr, .slice Ap np cp, .slice Aq nq cq] 25)) #[.slice Aw nw cw, .slice An nn cn, .slice Ac nc cc] 30; simpa using this)
  have HB := Lib.hid hB2; have HS2 := Lib.hid hs2
  have H1 := Lib.hid (h.below hB2); have H2 := Lib.hid (h2.below hB2); have H3 := Lib.hid (h3.below hB2); have H4 := Lib.hid (h4.below hB2)
  have HNP := Lib.hid hnp; have HNN := Lib.hid hnn; have HNQ := Lib.hid hnq; have HNC := Lib.hid hnc
  have HML := Lib.hid hml; have HQM := Lib.hid hqm; have HIL := Lib.hid hil
  clear h h2 h3 h4 hB2 hs2 hnp hnn hnq hnc hml hqm hil
  go_enter Try.func3, Try.ntmps3
  go_wp2_with fail
  generalize ((w.alloc (.cells #[.int .i64 fr, .slice Ap np cp, .slice Aq nq cq] 25)).alloc (.cells #[.slice Aw nw cw, .slice An nn cn, .slice Ac nc cc] 30)) = wb at *
  refine (awake wb).mono ?_
  rintro e w1 ⟨rfl, b1⟩
  have D1 := Lib.hid b1; clear b1
  have S1 := Lib.hid (blk_below G0.out D1.out (blk_lt G0.out)); have K1 := Lib.hid (blk_below G1.out D1.out (blk_lt G1.out))
  have a0 := blk_cell S1.out 0
  have a1 := blk_cell S1.out 1
  have a2 := blk_cell S1.out 2
  have c0 := blk_cell K1.out 0
  have c1 := blk_cell K1.out 1
  have c2 := blk_cell K1.out 2
  have T1 := great fr ps pn qs Ap Aq Aw An Ac np cp nq cq nw cw nn cn nc cc HNP.out HNN.out HNQ.out HML.out HQM.out HIL.out w1 (H1.out.below D1.out) (H2.out.below D1.out) (H3.out.below D1.out)
  have HT1 := Lib.hid T1; clear T1
  go_wp2_with fail
  refine HT1.out.mono ?_
  rintro e w2 ⟨v, rfl, hv, b2⟩
  clear HT1 a0 a1 a2 c0 c1 c2
  have D2 := Lib.hid (D1.out.trans (b2.mono D1.out.size))
  clear b2 S1 K1
  have S1 := Lib.hid (blk_below G0.out D2.out (blk_lt G0.out)); have K1 := Lib.hid (blk_below G1.out D2.out (blk_lt G1.out))
  have a0 := blk_cell S1.out 0
  have a1 := blk_cell S1.out 1
  have a2 := blk_cell S1.out 2
  have c0 := blk_cell K1.out 0
  have c1 := blk_cell K1.out 1
  have c2 := blk_cell K1.out 2
  cases v
  case true =>
    clear hv
    go_wp2
    go_ret
    exact ⟨rfl, HB.out.trans (D2.out.mono HB.out.size)⟩
  case false =>
    obtain ⟨t1, t2, t3, t4, t5, t6, t7⟩ := hv rfl
    clear hv
    have hnp : np ≤ 20 := by rw [← HNP.out]; exact t1
    have hnq : nq ≤ 20 := by rw [← HNQ.out]; exact t2
    have hnn : nn ≤ 20 := by rw [← HNN.out]; exact t3
    have hnc := t4
    have ML := Lib.hid (show ∀ x ∈ ps, x.mem.length ≤ 1000000 from fun x hx => Nat.le_trans (t5 x hx) (by decide))
    have QM := Lib.hid (show ∀ q ∈ qs, q.msgs.length ≤ 1000000 ∧ ∀ m ∈ q.msgs, m.length ≤ 1000000 from fun q hq => ⟨Nat.le_trans (t6 q hq).1 (by decide), fun m hm => Nat.le_trans ((t6 q hq).2 m hm) (by decide)⟩)
    clear t1 t2 t3 t4 t5 t6 t7 HML HQM HIL
    have T1 := once fr ps pn Ap Aq Aw An Ac np cp nq cq nw cw nn cn nc cc HNP.out HNN.out (by omega) (by omega) w2 (H1.out.below D2.out) (H2.out.below D2.out)
    have HT1 := Lib.hid T1; clear T1
    go_wp2_with fail
    refine HT1.out.mono ?_
    rintro e w3 ⟨v, rfl, hv, b3⟩
    clear HT1 a0 a1 a2 c0 c1 c2
    have D3 := Lib.hid (D2.out.trans (b3.mono D2.out.size))
    clear b3 S1 K1 D1 D2
    have S1 := Lib.hid (blk_below G0.out D3.out (blk_lt G0.out)); have K1 := Lib.hid (blk_below G1.out D3.out (blk_lt G1.out))
    have a0 := blk_cell S1.out 0
    have a1 := blk_cell S1.out 1
    have a2 := blk_cell S1.out 2
    have c0 := blk_cell K1.out 0
    have c1 := blk_cell K1.out 1
    have c2 := blk_cell K1.out 2
    cases v
    case false =>
      clear hv
      go_wp2
      go_ret
      exact ⟨rfl, HB.out.trans (D3.out.mono HB.out.size)⟩
    case true =>
      have HU := Lib.hid (hv rfl)
      clear hv
      have T1 := keptIds fr ps pn qs cs Ap Aq Aw An Ac np cp nq cq nw cw nn cn nc cc HNP.out HNN.out HNQ.out HNC.out (by omega) (by omega) (by omega) (by omega) ML.out QM.out w3 (H1.out.below D3.out) (H2.out.below D3.out) (H3.out.below D3.out) (H4.out.below D3.out)
      obtain ⟨nk, hnk⟩ : ∃ nk, (keptL ps pn).length = nk := ⟨_, rfl⟩
      have hk20 : nk ≤ 20 := by rw [← hnk]; exact Nat.le_trans (keptL_le ps pn) (by rw [HNN.out]; exact hnn)
      have HNK := Lib.hid hnk; clear hnk
      have HT1 := Lib.hid T1; clear T1
      go_wp2_with fail
      refine HT1.out.mono ?_
      rintro e w4 ⟨b4, Ak, ck, rfl, rk⟩
      rw [HNK.out]
      have RK := Lib.hid rk
      clear HT1 a0 a1 a2 c0 c1 c2 rk
      have D4 := Lib.hid (D3.out.trans (b4.mono D3.out.size))
      replace S1 := Lib.hid (blk_below S1.out b4 (blk_lt S1.out))
      replace K1 := Lib.hid (blk_below K1.out b4 (blk_lt K1.out))
      clear b4 D3
      go_wp2_with fail
      have HSALL := Lib.hid (show ∀ w', Below w4.heap.size w4 w' → (Below w4.heap.size w4 w' ∧ w'.cell? ⟨w.heap.size, 0, none⟩ = some (.int .i64 fr) ∧ w'.cell? ⟨w.heap.size, 1, none⟩ = some (.slice Ap np cp) ∧ w'.cell? ⟨w.heap.size, 2, none⟩ = some (.slice Aq nq cq) ∧ w'.cell? ⟨w.heap.size + 1, 0, none⟩ = some (.slice Aw nw cw) ∧ w'.cell? ⟨w.heap.size + 1, 1, none⟩ = some (.slice An nn cn) ∧ w'.cell? ⟨w.heap.size + 1, 2, none⟩ = some (.slice Ac nc cc)) from fun w' hb => ⟨hb, blk_cell (blk_below S1.out hb (blk_lt S1.out)) 0, blk_cell (blk_below S1.out hb (blk_lt S1.out)) 1, blk_cell (blk_below S1.out hb (blk_lt S1.out)) 2, blk_cell (blk_below K1.out hb (blk_lt K1.out)) 0, blk_cell (blk_below K1.out hb (blk_lt K1.out)) 1, blk_cell (blk_below K1.out hb (blk_lt K1.out)) 2⟩)
      have HTM := Lib.hid (fun W (hW : Below w4.heap.size w4 W) => move_gr fr ps pn qs cs Ap Aq Aw An Ac np cp nq cq nw cw nn cn nc cc HNP.out HNN.out HNQ.out HNC.out (by omega) (by omega) (by omega) (by omega) ML.out QM.out W (H1.out.below (D4.out.trans (hW.mono D4.out.size))) (H2.out.below (D4.out.trans (hW.mono D4.out.size))) (H3.out.below (D4.out.trans (hW.mono D4.out.size))) (H4.out.below (D4.out.trans (hW.mono D4.out.size))))
      have HTN := Lib.hid (fun W (hW : Below w4.heap.size w4 W) => move_gr 0 [] pn [] cs none none Aw An Ac 0 0 0 0 nw cw nn cn nc cc rfl HNN.out rfl HNC.out (by omega) (by omega) (by omega) (by omega) (by simp) (by simp) W Pts.nil (H2.out.below (D4.out.trans (hW.mono D4.out.size))) Qus.nil (H4.out.below (D4.out.trans (hW.mono D4.out.size))))
      have hk4 : Below w4.heap.size w4 w4.drew := (Below.refl w4.heap.size w4).drew
      go_cut [6, 7] from 26 (fun s6 s7 wc => ∃ (g6 g7 : Nat) (Xp : Option Addr) (xp : Nat) (Xq : Option Addr) (xq : Nat) (Np : Option Addr) (xnp : Nat) (Nq : Option Addr) (xnq : Nat), s6 = .pointer (some ⟨g6, 0, none⟩) ∧ s7 = .pointer (some ⟨g7, 0, none⟩) ∧ After w4 (.slice Xp nn xp) (.slice Np nn xnp) (moveP ps pn) (moveP [] pn) (.int .i64 fr) (.slice Xp nn xp) (.slice Xq nc xq) (.int .i64 0) (.slice Np nn xnp) (.slice Nq nc xnq) g6 g7 wc)
      case first =>
        go_region_held3 (fun w' => Below w4.heap.size w4 w' ∧ w'.cell? ⟨w.heap.size, 0, none⟩ = some (.int .i64 fr) ∧ w'.cell? ⟨w.heap.size, 1, none⟩ = some (.slice Ap np cp) ∧ w'.cell? ⟨w.heap.size, 2, none⟩ = some (.slice Aq nq cq) ∧ w'.cell? ⟨w.heap.size + 1, 0, none⟩ = some (.slice Aw nw cw) ∧ w'.cell? ⟨w.heap.size + 1, 1, none⟩ = some (.slice An nn cn) ∧ w'.cell? ⟨w.heap.size + 1, 2, none⟩ = some (.slice Ac nc cc))
          (first | (with_reducible exact HSALL.out _ hk4) | (with_reducible exact HSALL.out _ (by assumption)) | (refine HSALL.out _ ?_; repeat' (first | (with_reducible assumption) | (with_reducible exact And.left (by assumption)) | (with_reducible exact Below.refl _ _) | (with_reducible refine belowD ?_) | (with_reducible refine belowA ?_ _) | (with_reducible refine belowS ?_ ?_ _ _) | omega | (simp; omega))))
          (first
            | ((with_reducible refine (HTM.out _ (And.left (by assumption))).mono ?_); rintro e w5 ⟨b5, Xp, xp, Xq, xq, rfl, rxp⟩; have hk5 : Below w4.heap.size w4 w5 := Below.trans (And.left (by assumption)) (Below.mono b5 (Below.size (And.left (by assumption)))); have z5 := hk5.size; (try have k1 := zfacts (g := w4.heap.size) (by first | exact blk_drew (blk_new w4 _ _) | exact blk_drew (blk_alloc (blk_new w4 _ _) _)) b5); (try have k2 := zfacts (g := w4.heap.size + 1) (blk_drew (blk_new2 w4 _ _ _)) b5); (try have n1 := Nat.ne_of_lt (blk_lt k1.1)); (try have p1 := (Nat.ne_of_lt (blk_lt k1.1)).symm))
            | ((with_reducible refine (HTN.out _ (And.left (by assumption))).mono ?_); rintro e w6 ⟨b6, Np, xnp, Nq, xnq, rfl, rnp⟩; have hk6 : Below w4.heap.size w4 w6 := Below.trans (And.left (by assumption)) (Below.mono b6 (Below.size (And.left (by assumption)))); have z6 := hk6.size; have q56 : Below w5.heap.size w5 w6 := (by first | exact b6 | exact (ext1 w5 _).trans (b6.mono (ext1 w5 _).size) | exact (belowA (ext1 w5 _) _).trans (b6.mono (belowA (ext1 w5 _) _).size)); have GX := rxp.below q56; (try have m1 := zfacts (g := w4.heap.size) (by first | exact k1.1 | exact blk_alloc k1.1 _ | exact blk_alloc (blk_alloc k1.1 _) _) b6); (try have m2 := zfacts (g := w4.heap.size + 1) (by first | exact k2.1 | exact blk_alloc k2.1 _ | exact blk_alloc (blk_alloc k2.1 _) _) b6); (try have m3 := zfacts (g := w5.heap.size) (by first | exact blk_new w5 _ _ | exact blk_alloc (blk_new w5 _ _) _) b6); (try have m4 := zfacts (g := w5.heap.size + 1) (blk_new2 w5 _ _ _) b6); (try have n2 := Nat.ne_of_lt (blk_lt m1.1)); (try have p2 := (Nat.ne_of_lt (blk_lt m1.1)).symm); (try have n3 := Nat.ne_of_lt (blk_lt m3.1)); (try have p3 := (Nat.ne_of_lt (blk_lt m3.1)).symm)))
        all_goals (go_wp2_with fail; go_meet)
        all_goals refine ⟨_, _, Xp, xp, Xq, xq, Np, xnp, Nq, xnq, rfl, rfl, ?_⟩
        · exact after_a1 hk6 GX rnp _ _ _ _ _ _
        · exact after_a2 hk6 GX rnp _ _ _ _ _ _
        · exact after_c hk6 GX rnp m3.1 (by (first | exact Nat.le_refl _ | exact Nat.le_succ _ | exact z5 | exact Nat.le_trans z5 (Nat.le_succ _))) _ _ _ _ _ _
        · exact after_d hk6 GX rnp m3.1 (by (first | exact Nat.le_refl _ | exact Nat.le_succ _ | exact z5 | exact Nat.le_trans z5 (Nat.le_succ _))) m4.1 (by (first | exact Nat.le_refl _ | exact Nat.le_succ _ | exact z5 | exact Nat.le_trans z5 (Nat.le_succ _))) (by (first | exact n1 | exact p1 | exact n2 | exact n3 | exact Nat.ne_of_lt (Nat.lt_succ_self _) | exact Nat.ne_of_gt (Nat.lt_succ_self _))) _ _ _ _ _ _
        · exact after_b hk6 GX rnp m3.1 (by (first | exact Nat.le_refl _ | exact Nat.le_succ _ | exact z5 | exact Nat.le_trans z5 (Nat.le_succ _))) _ _ _ _ _ _
        · exact after_d hk6 GX rnp m4.1 (by (first | exact Nat.le_refl _ | exact Nat.le_succ _ | exact z5 | exact Nat.le_trans z5 (Nat.le_succ _))) m3.1 (by (first | exact Nat.le_refl _ | exact Nat.le_succ _ | exact z5 | exact Nat.le_trans z5 (Nat.le_succ _))) (by (first | exact n1 | exact p1 | exact n2 | exact n3 | exact Nat.ne_of_lt (Nat.lt_succ_self _) | exact Nat.ne_of_gt (Nat.lt_succ_self _))) _ _ _ _ _ _
        · exact after_c hk6 GX rnp m1.1 (by (first | exact Nat.le_refl _ | exact Nat.le_succ _ | exact z5 | exact Nat.le_trans z5 (Nat.le_succ _))) _ _ _ _ _ _
        · exact after_d hk6 GX rnp m1.1 (by (first | exact Nat.le_refl _ | exact Nat.le_succ _ | exact z5 | exact Nat.le_trans z5 (Nat.le_succ _))) m3.1 (by (first | exact Nat.le_refl _ | exact Nat.le_succ _ | exact z5 | exact Nat.le_trans z5 (Nat.le_succ _))) (by (first | exact n1 | exact p1 | exact n2 | exact n3 | exact Nat.ne_of_lt (Nat.lt_succ_self _) | exact Nat.ne_of_gt (Nat.lt_succ_self _))) _ _ _ _ _ _
        · exact after_d hk6 GX rnp m1.1 (by (first | exact Nat.le_refl _ | exact Nat.le_succ _ | exact z5 | exact Nat.le_trans z5 (Nat.le_succ _))) m2.1 (by (first | exact Nat.le_refl _ | exact Nat.le_succ _ | exact z5 | exact Nat.le_trans z5 (Nat.le_succ _))) (by (first | exact n1 | exact p1 | exact n2 | exact n3 | exact Nat.ne_of_lt (Nat.lt_succ_self _) | exact Nat.ne_of_gt (Nat.lt_succ_self _))) _ _ _ _ _ _
        · exact after_b hk6 GX rnp m1.1 (by (first | exact Nat.le_refl _ | exact Nat.le_succ _ | exact z5 | exact Nat.le_trans z5 (Nat.le_succ _))) _ _ _ _ _ _
        · exact after_d hk6 GX rnp m3.1 (by (first | exact Nat.le_refl _ | exact Nat.le_succ _ | exact z5 | exact Nat.le_trans z5 (Nat.le_succ _))) m1.1 (by (first | exact Nat.le_refl _ | exact Nat.le_succ _ | exact z5 | exact Nat.le_trans z5 (Nat.le_succ _))) (by (first | exact n1 | exact p1 | exact n2 | exact n3 | exact Nat.ne_of_lt (Nat.lt_succ_self _) | exact Nat.ne_of_gt (Nat.lt_succ_self _))) _ _ _ _ _ _
        · exact after_d hk6 GX rnp m2.1 (by (first | exact Nat.le_refl _ | exact Nat.le_succ _ | exact z5 | exact Nat.le_trans z5 (Nat.le_succ _))) m1.1 (by (first | exact Nat.le_refl _ | exact Nat.le_succ _ | exact z5 | exact Nat.le_trans z5 (Nat.le_succ _))) (by (first | exact n1 | exact p1 | exact n2 | exact n3 | exact Nat.ne_of_lt (Nat.lt_succ_self _) | exact Nat.ne_of_gt (Nat.lt_succ_self _))) _ _ _ _ _ _
      case rest =>
        obtain ⟨g6, g7, Xp, xp, Xq, xq, Np, xnp, Nq, xnq, rfl, rfl, hb, hx, hn, gx, gn⟩ := hcut
        have D5 := Lib.hid (D4.out.trans (hb.mono D4.out.size)); have X1 := Lib.hid hx; have N1 := Lib.hid hn; have RPX := Lib.hid gx.pts; have RPN := Lib.hid gn.pts
        replace S1 := Lib.hid (blk_below S1.out hb (blk_lt S1.out))
        replace K1 := Lib.hid (blk_below K1.out hb (blk_lt K1.out))
        replace RK := Lib.hid (RK.out.below hb)
        clear hb hx hn gx gn HSALL HTM HTN hk4 D4
        have x0 := blk_cell X1.out 0; have x1 := blk_cell X1.out 1; have n1 := blk_cell N1.out 1; have a0 := blk_cell S1.out 0; have c1 := blk_cell K1.out 1
        go_wp2_with fail
        clear x0 x1 n1 a0 c1
        have J1 := Lib.hid (H1.out.below D5.out); have J2 := Lib.hid (H2.out.below D5.out)
        go_loopw [8] (fun iv wr => ∃ k : Nat, k ≤ nn ∧ iv = .int .i64 k ∧ Below wc.heap.size wc wr) (fun iv _ => nn - (intOf iv).toNat)
        case atStart => exact ⟨0, Nat.zero_le _, rfl, Below.refl _ _⟩
        case round =>
          obtain ⟨k, hk, rfl, hb⟩ := hrel
          have BR := Lib.hid hb; clear hb
          have SR := Lib.hid (blk_below S1.out BR.out (blk_lt S1.out)); have KR := Lib.hid (blk_below K1.out BR.out (blk_lt K1.out)); have XR := Lib.hid (blk_below X1.out BR.out (blk_lt X1.out)); have NR := Lib.hid (blk_below N1.out BR.out (blk_lt N1.out))
          have x1 := blk_cell XR.out 1
          have c1 := blk_cell KR.out 1
          by_cases hkl : k < nn
          · have hki : (k : Int) < (nn : Int) := by omega
            obtain ⟨pk, hpk⟩ : ∃ p, pn[k]? = some p := ⟨_, List.getElem?_eq_getElem (by rw [HNN.out]; exact hkl)⟩
            obtain ⟨bp, op, rfl, _⟩ := Rws.addr pn_len (by decide) J2.out (by rw [HNN.out]; omega)
            obtain ⟨A0, d0, _, hcp⟩ := Rws.at pn_len (Pns.below J2.out BR.out) hpk
            have y0 := hcp 0 _ rfl
            have y1 := hcp 1 _ rfl
            have y2 := hcp 2 _ rfl
            have y3 := hcp 3 _ rfl
            have y4 := hcp 4 _ rfl
            simp only [Nat.add_zero] at y0
            have HPK := Lib.hid hpk; clear hpk hcp
            have s1 := blk_cell SR.out 1
            have s1a : (wr.alloc (.cells #[.int .i64 pk.id, .int .i64 pk.base, .int .i64 pk.size, .bool pk.keep, .slice A0 pk.img.length d0] 40)).cell? ⟨w.heap.size, 1, none⟩ = some (.slice Ap np cp) := blk_cell (blk_alloc SR.out _) 1
            go_wp2_with fail
            clear s1a s1 y0 y1 y2 y3 y4 x1 c1
            have PA := Lib.hid (blk_new wr #[.int .i64 pk.id, .int .i64 pk.base, .int .i64 pk.size, .bool pk.keep, .slice A0 pk.img.length d0] 40)
            replace SR := Lib.hid (blk_alloc SR.out (.cells #[.int .i64 pk.id, .int .i64 pk.base, .int .i64 pk.size, .bool pk.keep, .slice A0 pk.img.length d0] 40)); replace XR := Lib.hid (blk_alloc XR.out (.cells #[.int .i64 pk.id, .int .i64 pk.base, .int .i64 pk.size, .bool pk.keep, .slice A0 pk.img.length d0] 40)); replace NR := Lib.hid (blk_alloc NR.out (.cells #[.int .i64 pk.id, .int .i64 pk.base, .int .i64 pk.size, .bool pk.keep, .slice A0 pk.img.length d0] 40))
            replace BR := Lib.hid (BR.out.alloc BR.out.size (.cells #[.int .i64 pk.id, .int .i64 pk.base, .int .i64 pk.size, .bool pk.keep, .slice A0 pk.img.length d0] 40))
            clear KR
            generalize (wr.alloc (.cells #[.int .i64 pk.id, .int .i64 pk.base, .int .i64 pk.size, .bool pk.keep, .slice A0 pk.img.length d0] 40)) = wa at *
            go_loopw [10, 11] (fun zv jv w2 => ∃ (j : Nat) (z : Int), j ≤ np ∧ zv = .int .i64 z ∧ jv = .int .i64 j ∧ WasP ps pk j z ∧ Below wa.heap.size wa w2) (fun _ jv _ => np - (intOf jv).toNat)
            case atStart => exact ⟨0, -1, Nat.zero_le _, rfl, rfl, WasP.start, Below.refl _ _⟩
            case round =>
              obtain ⟨j, z, hj, rfl, rfl, hwas, hb2⟩ := hrel
              have BI := Lib.hid hb2; have WQ := Lib.hid hwas; clear hb2 hwas
              have BJ := Lib.hid (BR.out.trans (BI.out.mono BR.out.size))
              have SI := Lib.hid (blk_below SR.out BI.out (blk_lt SR.out)); have XI := Lib.hid (blk_below XR.out BI.out (blk_lt XR.out)); have NI := Lib.hid (blk_below NR.out BI.out (blk_lt NR.out)); have PI := Lib.hid (blk_below PA.out BI.out (blk_lt PA.out))
              have s1 := blk_cell SI.out 1
              by_cases hjl : j < np
              · have hji : (j : Int) < (np : Int) := by omega
                obtain ⟨q, hq⟩ : ∃ q, ps[j]? = some q := ⟨_, List.getElem?_eq_getElem (by rw [HNP.out]; omega)⟩
                obtain ⟨bs, os, rfl, _⟩ := Rws.addr pt_len (by decide) J1.out (by rw [HNP.out]; omega)
                obtain ⟨A2, c2, _, hcz⟩ := Rws.at pt_len (Pts.below J1.out BJ.out) hq
                have HQ := Lib.hid hq; clear hq
                have ss1 := xc (blk_cell SI.out 1)
                have pp0 := xc (blk_cell PI.out 0); have pp2 := xc (blk_cell PI.out 2); have pp3 := xc (blk_cell PI.out 3)
                have zz0 := xc (hcz 0 _ rfl); have zz1 := xc (hcz 1 _ rfl); have zz2 := xc (hcz 2 _ rfl)
                dsimp only [Pt.cells, Nat.add_zero] at zz0 zz1 zz2
                clear hcz
                by_cases hid : q.id = pk.id
                · rw [hid] at zz0
                  cases hqk : q.keep with
                  | false =>
                    rw [hqk] at zz2
                    go_wp2_with fail
                    refine region_ext (by kernel_rfl) (by kernel_rfl) ?_
                    try simp only [List.append_eq, List.cons_append, List.nil_append]
                    repeat (go_big_quiet_step (fail))
                    refine wpQuiet_nil ?_
                    intro v
                    have BV := Lib.hid (BI.out.trans (v.below.mono BI.out.size))
                    go_wp2
                    go_roundw
                    case rel => exact ⟨j + 1, z, by omega, rfl, by go_num, WQ.out.no HQ.out (fun h => by have := h.2.1; rw [hqk] at this; cases this), BV.out⟩
                    case measure => simp [intOf] <;> omega
                  | true =>
                    rw [hqk] at zz2
                    cases hpk2 : pk.keep with
                    | false =>
                      simp only [hpk2] at pp3
                      go_wp2_with fail
                      refine region_ext (by kernel_rfl) (by kernel_rfl) ?_
                      try simp only [List.append_eq, List.cons_append, List.nil_append]
                      repeat (go_big_quiet_step (fail))
                      refine wpQuiet_nil ?_
                      intro v
                      have BV := Lib.hid (BI.out.trans (v.below.mono BI.out.size))
                      go_wp2
                      go_roundw
                      case rel => exact ⟨j + 1, z, by omega, rfl, by go_num, WQ.out.no HQ.out (fun h => by have := h.2.2.1; rw [hpk2] at this; cases this), BV.out⟩
                      case measure => simp [intOf] <;> omega
                    | true =>
                      simp only [hpk2] at pp3
                      by_cases hsz : q.size = pk.size
                      · rw [hsz] at zz1
                        go_wp2_with fail
                        refine region_ext (by kernel_rfl) (by kernel_rfl) ?_
                        try simp only [List.append_eq, List.cons_append, List.nil_append]
                        repeat (go_big_quiet_step (fail))
                        refine wpQuiet_nil ?_
                        intro v
                        have BV := Lib.hid (BI.out.trans (v.below.mono BI.out.size))
                        go_wp2
                        go_roundw
                        case rel => exact ⟨j + 1, j, by omega, rfl, by go_num, WasP.yes HQ.out ⟨hid, hqk, hpk2, hsz⟩, BV.out⟩
                        case measure => simp [intOf] <;> omega
                      · have e1 : (q.size == pk.size) = false := by rw [beq_eq_false_iff_ne]; exact hsz
                        go_wp2_with fail
                        refine region_ext (by kernel_rfl) (by kernel_rfl) ?_
                        try simp only [List.append_eq, List.cons_append, List.nil_append]
                        repeat (go_big_quiet_step (fail))
                        refine wpQuiet_nil ?_
                        intro v
                        have BV := Lib.hid (BI.out.trans (v.below.mono BI.out.size))
                        go_wp2
                        go_roundw
                        case rel => exact ⟨j + 1, z, by omega, rfl, by go_num, WQ.out.no HQ.out (fun h => hsz h.2.2.2), BV.out⟩
                        case measure => simp [intOf] <;> omega
                · have e1 : (q.id == pk.id) = false := by rw [beq_eq_false_iff_ne]; exact hid
                  go_wp2_with fail
                  refine region_ext (by kernel_rfl) (by kernel_rfl) ?_
                  try simp only [List.append_eq, List.cons_append, List.nil_append]
                  repeat (go_big_quiet_step (fail))
                  refine wpQuiet_nil ?_
                  intro v
                  have BV := Lib.hid (BI.out.trans (v.below.mono BI.out.size))
                  go_wp2
                  go_roundw
                  case rel => exact ⟨j + 1, z, by omega, rfl, by go_num, WQ.out.no HQ.out (fun h => hid h.1), BV.out⟩
                  case measure => simp [intOf] <;> omega
              · have hjn : np = j := by omega
                subst hjn
                have WE := Lib.hid (WasP.end HU.out.1 HU.out.2 (List.mem_of_getElem? HPK.out) HNP.out WQ.out)
                clear WQ
                have hpm := List.mem_of_getElem? HPK.out
                obtain ⟨bx, ox, rfl, _⟩ := Rws.addr pt_len (by decide) RPX.out (by rw [moveP_length, HNN.out]; omega)
                obtain ⟨bn, on, rfl, _⟩ := Rws.addr pt_len (by decide) RPN.out (by rw [moveP_length, HNN.out]; omega)
                have p0 := blk_cell PI.out 0
                have HTH := Lib.hid (has (keptL ps pn) pk.id Ak nk ck HNK.out (by omega) wr (RK.out.below BJ.out))
                obtain ⟨A1, d1, hin1, hcx⟩ := Rws.at pt_len (Pts.below RPX.out BJ.out) (moveP_at (ps := ps) HPK.out)
                rcases WE.out with ⟨rfl, hkp, hnm⟩ | ⟨j0, x0, rfl, hj0, hx0, hkp, hnm⟩
                · simp only [decide_eq_false hnm] at HTH
                  have HNM := Lib.hid hnm; clear hnm WE
                  have HKP := Lib.hid hkp; clear hkp
                  rw [HKP.out] at hcx hin1
                  have HCX := Lib.hid hcx; have HI1 := Lib.hid hin1; clear hcx hin1
                  go_wp2_with fail
                  refine HTH.out.mono ?_
                  rintro e w7 ⟨rfl, b7⟩
                  clear HTH p0
                  have B7 := Lib.hid b7; clear b7
                  skip
                  have x1 := xc (blk_cell (blk_below XI.out B7.out (blk_lt XI.out)) 1)
                  have n1 := xc (blk_cell (blk_below NI.out B7.out (blk_lt NI.out)) 1)
                  have s1 := xc (blk_cell (blk_below SI.out B7.out (blk_lt SI.out)) 1)
                  have hcn := HCX.out; have hin := HI1.out
                  rw [Option.getD_none] at hcn hin
                  obtain ⟨f, hf⟩ : ∃ f, freshP pk = f := ⟨_, rfl⟩
                  have hfm : f.mem.length ≤ 1000000 := by rw [← hf]; exact Nat.le_trans (freshP_mem pk) (by decide)
                  obtain ⟨A3, d3, hin3, hc3⟩ := Rws.at pt_len (Pts.below RPN.out BJ.out) (moveP_nil HPK.out)
                  rw [hf] at hcn hin hin3 hc3
                  have cx0 := xc ((B7.out.cell (p := ⟨_, _, none⟩) (World.block_lt_of_cell? wr _ (hcn 0 _ rfl))).trans (hcn 0 _ rfl))
                  have cx1 := xc ((B7.out.cell (p := ⟨_, _, none⟩) (World.block_lt_of_cell? wr _ (hcn 1 _ rfl))).trans (hcn 1 _ rfl))
                  have cx2 := xc ((B7.out.cell (p := ⟨_, _, none⟩) (World.block_lt_of_cell? wr _ (hcn 2 _ rfl))).trans (hcn 2 _ rfl))
                  have cx3 := xc ((B7.out.cell (p := ⟨_, _, none⟩) (World.block_lt_of_cell? wr _ (hcn 3 _ rfl))).trans (hcn 3 _ rfl))
                  have cx4 := xc ((B7.out.cell (p := ⟨_, _, none⟩) (World.block_lt_of_cell? wr _ (hcn 4 _ rfl))).trans (hcn 4 _ rfl))
                  have cx5 := xc ((B7.out.cell (p := ⟨_, _, none⟩) (World.block_lt_of_cell? wr _ (hcn 5 _ rfl))).trans (hcn 5 _ rfl))
                  have cx6 := xc ((B7.out.cell (p := ⟨_, _, none⟩) (World.block_lt_of_cell? wr _ (hcn 6 _ rfl))).trans (hcn 6 _ rfl))
                  have cx7 := xc ((B7.out.cell (p := ⟨_, _, none⟩) (World.block_lt_of_cell? wr _ (hcn 7 _ rfl))).trans (hcn 7 _ rfl))
                  have cx8 := xc ((B7.out.cell (p := ⟨_, _, none⟩) (World.block_lt_of_cell? wr _ (hcn 8 _ rfl))).trans (hcn 8 _ rfl))
                  have cx9 := xc ((B7.out.cell (p := ⟨_, _, none⟩) (World.block_lt_of_cell? wr _ (hcn 9 _ rfl))).trans (hcn 9 _ rfl))
                  have cx10 := xc ((B7.out.cell (p := ⟨_, _, none⟩) (World.block_lt_of_cell? wr _ (hcn 10 _ rfl))).trans (hcn 10 _ rfl))
                  have cx11 := xc ((B7.out.cell (p := ⟨_, _, none⟩) (World.block_lt_of_cell? wr _ (hcn 11 _ rfl))).trans (hcn 11 _ rfl))
                  have cx12 := xc ((B7.out.cell (p := ⟨_, _, none⟩) (World.block_lt_of_cell? wr _ (hcn 12 _ rfl))).trans (hcn 12 _ rfl))
                  have cx13 := xc ((B7.out.cell (p := ⟨_, _, none⟩) (World.block_lt_of_cell? wr _ (hcn 13 _ rfl))).trans (hcn 13 _ rfl))
                  dsimp only [Pt.cells, Nat.add_zero] at cx0 cx1 cx2 cx3 cx4 cx5 cx6 cx7 cx8 cx9 cx10 cx11 cx12 cx13
                  have cn0 := xc ((B7.out.cell (p := ⟨_, _, none⟩) (World.block_lt_of_cell? wr _ (hc3 0 _ rfl))).trans (hc3 0 _ rfl))
                  have cn1 := xc ((B7.out.cell (p := ⟨_, _, none⟩) (World.block_lt_of_cell? wr _ (hc3 1 _ rfl))).trans (hc3 1 _ rfl))
                  have cn2 := xc ((B7.out.cell (p := ⟨_, _, none⟩) (World.block_lt_of_cell? wr _ (hc3 2 _ rfl))).trans (hc3 2 _ rfl))
                  have cn3 := xc ((B7.out.cell (p := ⟨_, _, none⟩) (World.block_lt_of_cell? wr _ (hc3 3 _ rfl))).trans (hc3 3 _ rfl))
                  have cn4 := xc ((B7.out.cell (p := ⟨_, _, none⟩) (World.block_lt_of_cell? wr _ (hc3 4 _ rfl))).trans (hc3 4 _ rfl))
                  have cn5 := xc ((B7.out.cell (p := ⟨_, _, none⟩) (World.block_lt_of_cell? wr _ (hc3 5 _ rfl))).trans (hc3 5 _ rfl))
                  have cn6 := xc ((B7.out.cell (p := ⟨_, _, none⟩) (World.block_lt_of_cell? wr _ (hc3 6 _ rfl))).trans (hc3 6 _ rfl))
                  have cn7 := xc ((B7.out.cell (p := ⟨_, _, none⟩) (World.block_lt_of_cell? wr _ (hc3 7 _ rfl))).trans (hc3 7 _ rfl))
                  have cn8 := xc ((B7.out.cell (p := ⟨_, _, none⟩) (World.block_lt_of_cell? wr _ (hc3 8 _ rfl))).trans (hc3 8 _ rfl))
                  have cn9 := xc ((B7.out.cell (p := ⟨_, _, none⟩) (World.block_lt_of_cell? wr _ (hc3 9 _ rfl))).trans (hc3 9 _ rfl))
                  have cn10 := xc ((B7.out.cell (p := ⟨_, _, none⟩) (World.block_lt_of_cell? wr _ (hc3 10 _ rfl))).trans (hc3 10 _ rfl))
                  have cn11 := xc ((B7.out.cell (p := ⟨_, _, none⟩) (World.block_lt_of_cell? wr _ (hc3 11 _ rfl))).trans (hc3 11 _ rfl))
                  have cn12 := xc ((B7.out.cell (p := ⟨_, _, none⟩) (World.block_lt_of_cell? wr _ (hc3 12 _ rfl))).trans (hc3 12 _ rfl))
                  have cn13 := xc ((B7.out.cell (p := ⟨_, _, none⟩) (World.block_lt_of_cell? wr _ (hc3 13 _ rfl))).trans (hc3 13 _ rfl))
                  dsimp only [Pt.cells, Nat.add_zero] at cn0 cn1 cn2 cn3 cn4 cn5 cn6 cn7 cn8 cn9 cn10 cn11 cn12 cn13
                  have TE := fun v : Ext w7.heap.size w7 => part_eq f A1 A3 f.mem.length d1 d3 rfl hfm v.world ((hin.2.2.below B7.out).below v.below) ((hin3.2.2.below B7.out).below v.below)
                  clear hcn hin hf hfm hin3 hc3 s1
                  go_wp2_with fail
                  refine region_ext (by kernel_rfl) (by kernel_rfl) ?_
                  try simp only [List.append_eq, List.cons_append, List.nil_append]
                  repeat (go_big_quiet_step (with_reducible exact calls_ext (Nat.le_refl _) (TE _)))
                  refine wpQuiet_nil ?_
                  intro v
                  have BV := Lib.hid (BJ.out.trans ((B7.out.trans (v.below.mono B7.out.size)).mono BJ.out.size))
                  go_wp2
                  go_roundw
                  case rel => exact ⟨k + 1, by omega, by go_num, BV.out⟩
                  case measure => simp [intOf] <;> omega
                · simp only [decide_eq_true hnm] at HTH
                  have hj0i : (j0 : Int) < (np : Int) := by omega
                  have hj00 : (0 : Int) ≤ (j0 : Int) := by omega
                  have hj01 : ((j0 : Int) < 0) = False := by simp
                  have HNM := Lib.hid hnm; clear hnm WE
                  have HKP := Lib.hid hkp; clear hkp
                  rw [HKP.out] at hcx hin1
                  have HCX := Lib.hid hcx; have HI1 := Lib.hid hin1; clear hcx hin1
                  go_wp2_with fail
                  refine HTH.out.mono ?_
                  rintro e w7 ⟨rfl, b7⟩
                  clear HTH p0
                  have B7 := Lib.hid b7; clear b7
                  skip
                  have x1 := xc (blk_cell (blk_below XI.out B7.out (blk_lt XI.out)) 1)
                  have n1 := xc (blk_cell (blk_below NI.out B7.out (blk_lt NI.out)) 1)
                  have s1 := xc (blk_cell (blk_below SI.out B7.out (blk_lt SI.out)) 1)
                  have hcn := HCX.out; have hin := HI1.out
                  rw [Option.getD_some] at hcn hin
                  have hfm := ML.out x0 (List.mem_of_getElem? hx0)
                  obtain ⟨bs, os, rfl, _⟩ := Rws.addr pt_len (by decide) J1.out (by rw [HNP.out]; omega)
                  obtain ⟨A3, d3, hin3, hc3⟩ := Rws.at pt_len (Pts.below J1.out BJ.out) hx0
                  have cx0 := xc ((B7.out.cell (p := ⟨_, _, none⟩) (World.block_lt_of_cell? wr _ (hcn 0 _ rfl))).trans (hcn 0 _ rfl))
                  have cx1 := xc ((B7.out.cell (p := ⟨_, _, none⟩) (World.block_lt_of_cell? wr _ (hcn 1 _ rfl))).trans (hcn 1 _ rfl))
                  have cx2 := xc ((B7.out.cell (p := ⟨_, _, none⟩) (World.block_lt_of_cell? wr _ (hcn 2 _ rfl))).trans (hcn 2 _ rfl))
                  have cx3 := xc ((B7.out.cell (p := ⟨_, _, none⟩) (World.block_lt_of_cell? wr _ (hcn 3 _ rfl))).trans (hcn 3 _ rfl))
                  have cx4 := xc ((B7.out.cell (p := ⟨_, _, none⟩) (World.block_lt_of_cell? wr _ (hcn 4 _ rfl))).trans (hcn 4 _ rfl))
                  have cx5 := xc ((B7.out.cell (p := ⟨_, _, none⟩) (World.block_lt_of_cell? wr _ (hcn 5 _ rfl))).trans (hcn 5 _ rfl))
                  have cx6 := xc ((B7.out.cell (p := ⟨_, _, none⟩) (World.block_lt_of_cell? wr _ (hcn 6 _ rfl))).trans (hcn 6 _ rfl))
                  have cx7 := xc ((B7.out.cell (p := ⟨_, _, none⟩) (World.block_lt_of_cell? wr _ (hcn 7 _ rfl))).trans (hcn 7 _ rfl))
                  have cx8 := xc ((B7.out.cell (p := ⟨_, _, none⟩) (World.block_lt_of_cell? wr _ (hcn 8 _ rfl))).trans (hcn 8 _ rfl))
                  have cx9 := xc ((B7.out.cell (p := ⟨_, _, none⟩) (World.block_lt_of_cell? wr _ (hcn 9 _ rfl))).trans (hcn 9 _ rfl))
                  have cx10 := xc ((B7.out.cell (p := ⟨_, _, none⟩) (World.block_lt_of_cell? wr _ (hcn 10 _ rfl))).trans (hcn 10 _ rfl))
                  have cx11 := xc ((B7.out.cell (p := ⟨_, _, none⟩) (World.block_lt_of_cell? wr _ (hcn 11 _ rfl))).trans (hcn 11 _ rfl))
                  have cx12 := xc ((B7.out.cell (p := ⟨_, _, none⟩) (World.block_lt_of_cell? wr _ (hcn 12 _ rfl))).trans (hcn 12 _ rfl))
                  have cx13 := xc ((B7.out.cell (p := ⟨_, _, none⟩) (World.block_lt_of_cell? wr _ (hcn 13 _ rfl))).trans (hcn 13 _ rfl))
                  dsimp only [Pt.cells, Nat.add_zero] at cx0 cx1 cx2 cx3 cx4 cx5 cx6 cx7 cx8 cx9 cx10 cx11 cx12 cx13
                  have cn0 := xc ((B7.out.cell (p := ⟨_, _, none⟩) (World.block_lt_of_cell? wr _ (hc3 0 _ rfl))).trans (hc3 0 _ rfl))
                  have cn1 := xc ((B7.out.cell (p := ⟨_, _, none⟩) (World.block_lt_of_cell? wr _ (hc3 1 _ rfl))).trans (hc3 1 _ rfl))
                  have cn2 := xc ((B7.out.cell (p := ⟨_, _, none⟩) (World.block_lt_of_cell? wr _ (hc3 2 _ rfl))).trans (hc3 2 _ rfl))
                  have cn3 := xc ((B7.out.cell (p := ⟨_, _, none⟩) (World.block_lt_of_cell? wr _ (hc3 3 _ rfl))).trans (hc3 3 _ rfl))
                  have cn4 := xc ((B7.out.cell (p := ⟨_, _, none⟩) (World.block_lt_of_cell? wr _ (hc3 4 _ rfl))).trans (hc3 4 _ rfl))
                  have cn5 := xc ((B7.out.cell (p := ⟨_, _, none⟩) (World.block_lt_of_cell? wr _ (hc3 5 _ rfl))).trans (hc3 5 _ rfl))
                  have cn6 := xc ((B7.out.cell (p := ⟨_, _, none⟩) (World.block_lt_of_cell? wr _ (hc3 6 _ rfl))).trans (hc3 6 _ rfl))
                  have cn7 := xc ((B7.out.cell (p := ⟨_, _, none⟩) (World.block_lt_of_cell? wr _ (hc3 7 _ rfl))).trans (hc3 7 _ rfl))
                  have cn8 := xc ((B7.out.cell (p := ⟨_, _, none⟩) (World.block_lt_of_cell? wr _ (hc3 8 _ rfl))).trans (hc3 8 _ rfl))
                  have cn9 := xc ((B7.out.cell (p := ⟨_, _, none⟩) (World.block_lt_of_cell? wr _ (hc3 9 _ rfl))).trans (hc3 9 _ rfl))
                  have cn10 := xc ((B7.out.cell (p := ⟨_, _, none⟩) (World.block_lt_of_cell? wr _ (hc3 10 _ rfl))).trans (hc3 10 _ rfl))
                  have cn11 := xc ((B7.out.cell (p := ⟨_, _, none⟩) (World.block_lt_of_cell? wr _ (hc3 11 _ rfl))).trans (hc3 11 _ rfl))
                  have cn12 := xc ((B7.out.cell (p := ⟨_, _, none⟩) (World.block_lt_of_cell? wr _ (hc3 12 _ rfl))).trans (hc3 12 _ rfl))
                  have cn13 := xc ((B7.out.cell (p := ⟨_, _, none⟩) (World.block_lt_of_cell? wr _ (hc3 13 _ rfl))).trans (hc3 13 _ rfl))
                  dsimp only [Pt.cells, Nat.add_zero] at cn0 cn1 cn2 cn3 cn4 cn5 cn6 cn7 cn8 cn9 cn10 cn11 cn12 cn13
                  have TE := fun v : Ext w7.heap.size w7 => part_eq x0 A1 A3 x0.mem.length d1 d3 rfl hfm v.world ((hin.2.2.below B7.out).below v.below) ((hin3.2.2.below B7.out).below v.below)
                  clear hcn hin hfm hin3 hc3 hx0 n1
                  go_wp2_with fail
                  refine region_ext (by kernel_rfl) (by kernel_rfl) ?_
                  try simp only [List.append_eq, List.cons_append, List.nil_append]
                  repeat (go_big_quiet_step (with_reducible exact calls_ext (Nat.le_refl _) (TE _)))
                  refine wpQuiet_nil ?_
                  intro v
                  have BV := Lib.hid (BJ.out.trans ((B7.out.trans (v.below.mono B7.out.size)).mono BJ.out.size))
                  go_wp2
                  go_roundw
                  case rel => exact ⟨k + 1, by omega, by go_num, BV.out⟩
                  case measure => simp [intOf] <;> omega
          · have hkn : nn = k := by omega
            subst hkn
            go_wp2
            go_ret
            exact ⟨rfl, HB.out.trans ((D5.out.trans (BR.out.mono D5.out.size)).mono HB.out.size)⟩
end Go.Proofs.Ytnfjkpeifleogaa.mv
