/- Moves: the reference's Kept, Channels; like rows of numbers are the same; no condition. -/
import Derived.Test.YtnfjkpeifleogaaRows
import Derived.Test.YtnfjkpeifleogaaMvR
namespace Go.Proofs.Ytnfjkpeifleogaa.mv
open Go Go.ChangeShapes Go.WideShapes Go.ChangeAt Go.RowKit Go.Proofs.Ytnfjkpeifleogaa.rows
theorem queueI_cases (ps : List Pt) (pn : List Pn) (qs : List Qu) (c : Ch) : (queueP ps pn qs c = none ∧ queueI ps pn qs c = -1) ∨ ∃ (l : List Msg) (j : Nat) (q : Qu), queueP ps pn qs c = some l ∧ queueI ps pn qs c = (j : Int) ∧ qs[j]? = some q ∧ q.ch = c ∧ q.msgs = l := by
  cases h : queueP ps pn qs c with
  | none => exact .inl ⟨rfl, by unfold queueI; rw [h]; rfl⟩
  | some l =>
    right
    rcases firstI_spec (fun q : Qu => decide (q.ch = c)) qs with ⟨_, hall⟩ | ⟨j, q, hf, hq, hfq, hlt⟩
    · obtain ⟨q, hq, hc, _⟩ := queueP_some h
      have := hall q hq
      simp [hc] at this
    · refine ⟨l, j, q, rfl, by unfold queueI; rw [h]; exact hf, hq, by simpa using hfq, ?_⟩
      unfold queueP at h
      rw [find_at (fun q : Qu => decide (q.ch = c)) qs j q hq hfq hlt] at h
      dsimp only at h
      split at h
      · injection h
      · cases h
set_option maxRecDepth 100000 in
set_option maxHeartbeats 8000000 in
theorem ints_same (l : List Int) (A B : Option Addr) (n c d : Nat) (hn : l.length = n) (h63 : n ≤ 1000000) (w : World) (h1 : Rd w A (ints .i64 l)) (h2 : Rd w B (ints .i64 l)) :
    Calls Try.prog 18 #[.slice A n c, .slice B n d] w fun e w' => e = .returned (.bool true) ∧ Below w.heap.size w w' := by
  have h63i : (n : Int) ≤ 1000000 := by omega
  have H1 := Lib.hid h1; have H2 := Lib.hid h2; have HN := Lib.hid hn
  clear h1 h2 hn
  go_enter Try.func18, Try.ntmps18
  go_wp2_with fail
  go_loopw [5] (fun iv wr => ∃ k : Nat, k ≤ n ∧ iv = .int .i64 k ∧ Below w.heap.size w wr) (fun iv _ => n - (intOf iv).toNat)
  case atStart => exact ⟨0, Nat.zero_le _, rfl, Below.refl _ _⟩
  case round =>
    obtain ⟨k, hk, rfl, hb⟩ := hrel
    have BR := Lib.hid hb; clear hb
    by_cases hkl : k < n
    · have hki : (k : Int) < (n : Int) := by omega
      obtain ⟨x, hx⟩ : ∃ x, l[k]? = some x := ⟨_, List.getElem?_eq_getElem (by rw [HN.out]; exact hkl)⟩
      obtain ⟨b, o, rfl, _⟩ := H1.out.addr (by rw [ints_length, HN.out]; omega)
      obtain ⟨b2, o2, rfl, _⟩ := H2.out.addr (by rw [ints_length, HN.out]; omega)
      have y := xc ((H1.out.below BR.out).cell (ints_at hx)); have z := xc ((H2.out.below BR.out).cell (ints_at hx))
      clear hx
      go_wp2_with fail
      refine region_ext (by kernel_rfl) (by kernel_rfl) ?_
      try simp only [List.append_eq, List.cons_append, List.nil_append]
      repeat (go_big_quiet_step (fail))
      refine wpQuiet_nil ?_
      intro v
      have BV := Lib.hid (BR.out.trans (v.below.mono BR.out.size))
      go_wp2
      go_roundw
      case rel => exact ⟨k + 1, by omega, by go_num, BV.out⟩
      case measure => simp [intOf] <;> omega
    · have hkn : n = k := by omega
      subst hkn
      go_wp2
      go_ret
      exact ⟨rfl, BR.out⟩
set_option maxRecDepth 100000 in
set_option maxHeartbeats 8000000 in
theorem rKept (fr : Int) (ps : List Pt) (pn : List Pn) (qs : List Qu) (cs : List Ch) (Ap Aq Aw An Ac : Option Addr) (np cp nq cq nw cw nn cn nc cc : Nat) (hnp : ps.length = np) (hnn : pn.length = nn) (hnq : qs.length = nq) (hnc : cs.length = nc) (h63 : np ≤ 1000000) (h632 : nn ≤ 1000000) (_h633 : nq ≤ 1000000) (h634 : nc ≤ 1000000) (w : World) (h : Pts w Ap ps) (h2 : Pns w An pn) (h3 : Qus w Aq qs) (h4 : Rd w Ac (chCells cs)) :
    Calls Try.prog 19 #[.agg #[.int .i64 fr, .slice Ap np cp, .slice Aq nq cq], .agg #[.slice Aw nw cw, .slice An nn cn, .slice Ac nc cc]] w (IOut (keptL ps pn) w) := by
  have hB2 := (((Below.refl w.heap.size w).alloc (Nat.le_refl _) (.cells #[.int .i64 fr, .slice Ap np cp, .slice Aq nq cq] 25)).alloc (by simp) (.cells #[.slice Aw nw cw, .slice An nn cn, .slice Ac nc cc] 30))
  have G0 := Lib.hid (blk_alloc (blk_new w #[.int .i64 fr, .slice Ap np cp, .slice Aq nq cq] 25) (.cells #[.slice Aw nw cw, .slice An nn cn, .slice Ac nc cc] 30))
  have G1 := Lib.hid (show ((w.alloc (.cells #[.int .i64 fr, .slice Ap np cp, .slice Aq nq cq] 25)).alloc (.cells #[.slice Aw nw cw, .slice An nn cn, .slice Ac nc cc] 30)).heap[w.heap.size + 1]? = some (.cells #[.slice Aw nw cw, .slice An nn cn, .slice Ac nc cc] 30 (0, 0)) by have := blk_new (w.alloc (.cells #[.int .i64 fr, .slice Ap np cp, .slice Aq nq cq] 25)) #[.slice Aw nw cw, .slice An nn cn, .slice Ac nc cc] 30; simpa using this)
  have HB := Lib.hid hB2
  obtain ⟨i0, hi, hz0, hz1, hz2⟩ := info_parts info_int
  have HS2 := Lib.hid (show ((w.alloc (.cells #[.int .i64 fr, .slice Ap np cp, .slice Aq nq cq] 25)).alloc (.cells #[.slice Aw nw cw, .slice An nn cn, .slice Ac nc cc] 30)).heap.size = w.heap.size + 2 by simp)
  have H1 := Lib.hid h; have H2 := Lib.hid h2; have H3 := Lib.hid h3; have H4 := Lib.hid h4
  have HNP := Lib.hid hnp; have HNN := Lib.hid hnn; have HNQ := Lib.hid hnq; have HNC := Lib.hid hnc
  have hni : (nn : Int) ≤ 1000000 := by omega
  have hci : (nc : Int) ≤ 1000000 := by omega
  clear h h2 h3 h4 hnp hnn hnq hnc hB2
  go_enter Try.func19, Try.ntmps19
  go_wp2_with fail
  generalize ((w.alloc (.cells #[.int .i64 fr, .slice Ap np cp, .slice Aq nq cq] 25)).alloc (.cells #[.slice Aw nw cw, .slice An nn cn, .slice Ac nc cc] 30)) = wb at *
  go_loopw [5, 6] (fun v iv wr => ∃ k : Nat, k ≤ nn ∧ iv = .int .i64 k ∧ ∃ m, (((pn.take k).filter (fun p => (keptP ps p).isSome)).map (·.id)).length = m ∧ wr.ownsRow (w.heap.size + 2) 3 1 v m (ints .i64 (((pn.take k).filter (fun p => (keptP ps p).isSome)).map (·.id))) ∧ Below (w.heap.size + 2) wb wr) (fun _ iv _ => nn - (intOf iv).toNat)
  case atStart => exact ⟨0, Nat.zero_le _, rfl, 0, by simp, by simpa [ints] using World.ownsRow_nil _ _ _ _, Below.refl _ _⟩
  case round =>
    obtain ⟨k, hk, rfl, m, hm, ho, hb⟩ := hrel
    have hmk : m ≤ k := by rw [← hm]; simp only [List.length_map]; exact Nat.le_trans (List.length_filter_le _ _) (by rw [List.length_take]; omega)
    obtain ⟨Av, cv, rfl, _, hpv⟩ := own_form ho
    have hz := hb.size
    have HM := Lib.hid hm; have BR := Lib.hid hb; have HO := Lib.hid ho; have HPV := Lib.hid hpv
    have hzw : w.heap.size + 2 ≤ wr.heap.size := by rw [HS2.out] at hz; exact hz
    have BW := Lib.hid (HB.out.trans (hb.mono (Nat.le_add_right _ _)))
    have SR := Lib.hid (blk_below G0.out hb (by omega)); have KR := Lib.hid (blk_below G1.out hb (by omega))
    clear hb ho hm hpv
    have a1 := blk_cell KR.out 1
    by_cases hkl : k < nn
    · have hki : (k : Int) < (nn : Int) := by omega
      obtain ⟨p, hp⟩ : ∃ p, pn[k]? = some p := ⟨_, List.getElem?_eq_getElem (by rw [HNN.out]; exact hkl)⟩
      obtain ⟨b, off, rfl, _⟩ := Rws.addr pn_len (by decide) H2.out (by rw [HNN.out]; omega)
      obtain ⟨Ai, ci, _, hc⟩ := Rws.at pn_len (Pns.below H2.out BW.out) hp
      have y0 := hc 0 _ rfl
      have y1 := hc 1 _ rfl
      have y2 := hc 2 _ rfl
      have y3 := hc 3 _ rfl
      have y4 := hc 4 _ rfl
      simp only [Nat.add_zero] at y0
      clear hc
      have HP := Lib.hid hp; clear hp
      have z0 := xc y0
      have z1 := xc y1
      have z2 := xc y2
      have z3 := xc y3
      have z4 := xc y4
      have s0 := xc (blk_cell SR.out 0)
      have s1 := xc (blk_cell SR.out 1)
      have s2 := xc (blk_cell SR.out 2)
      have c0 := xc (blk_cell KR.out 0)
      have c1 := xc (blk_cell KR.out 1)
      have c2 := xc (blk_cell KR.out 2)
      have LTB := Lib.hid (World.block_lt_of_cell? wr _ y0)
      have HY0 := Lib.hid y0
      have TK := fun v : Ext wr.heap.size wr => rkept fr ps p Ap Aq Ai np cp nq cq p.img.length ci HNP.out h63 v.world (Pts.below (Pts.below H1.out BW.out) v.below)
      clear y0 y1 y2 y3 y4
      cases hq : keptP ps p with
      | none =>
        rw [hq] at TK
        dsimp only [Option.isSome_none, Option.isSome_some] at TK
        have HF := Lib.hid (show (fun p => (keptP ps p).isSome) p = false by simp [hq])
        clear hq
        go_wp2_with fail
        refine region_ext (by kernel_rfl) (by kernel_rfl) ?_
        try simp only [List.append_eq, List.cons_append, List.nil_append]
        repeat (go_big_quiet_step (with_reducible exact calls_ext (Nat.le_refl _) (TK _)))
        refine wpQuiet_nil ?_
        intro v
        have BV := Lib.hid v.below
        have BIG := Lib.hid (BR.out.trans (BV.out.mono (by omega)))
        have HO4 := Lib.hid (own_below HO.out BV.out)
        go_wp2
        go_roundw
        case rel => exact ⟨k + 1, by omega, by go_num, m, by rw [filter_take_none _ _ _ _ HP.out HF.out]; exact HM.out, by rw [filter_take_none _ _ _ _ HP.out HF.out]; exact HO4.out, BIG.out⟩
        case measure => simp [intOf] <;> omega
      | some x =>
        rw [hq] at TK
        dsimp only [Option.isSome_none, Option.isSome_some] at TK
        have HF := Lib.hid (show (fun p => (keptP ps p).isSome) p = true by simp [hq])
        clear hq
        go_wp2_with fail
        refine region_ext (by kernel_rfl) (by kernel_rfl) ?_
        try simp only [List.append_eq, List.cons_append, List.nil_append]
        repeat (go_big_quiet_step (with_reducible exact calls_ext (Nat.le_refl _) (TK _)))
        refine wpQuiet_nil ?_
        intro v
        have BV := Lib.hid v.below
        have BIG := Lib.hid (BR.out.trans (BV.out.mono (by omega)))
        have HO4 := Lib.hid (own_below HO.out BV.out)
        clear z0 z1 z2 z3 z4 s0 s1 s2 c0 c1 c2 TK
        generalize v.world = wv at *
        have k1 := blk_cell (blk_below KR.out BV.out (blk_lt KR.out)) 1
        have y0 := (BV.out.cell (p := ⟨b, _, none⟩) LTB.out).trans HY0.out
        have HCAT := Lib.hid (show ints .i64 (((pn.take k).filter (fun p => (keptP ps p).isSome)).map (·.id)) ++ [.int .i64 p.id] = ints .i64 (((pn.take (k + 1)).filter (fun p => (keptP ps p).isSome)).map (·.id)) by rw [filter_take_some _ _ _ _ HP.out HF.out, List.map_append, ints_append]; rfl)
        have HLEN := Lib.hid (show (((pn.take (k + 1)).filter (fun p => (keptP ps p).isSome)).map (·.id)).length = m + 1 by rw [filter_take_some _ _ _ _ HP.out HF.out, List.map_append, List.length_append, HM.out]; rfl)
        have hzv := BV.out.size
        generalize hxs : ints .i64 (((pn.take k).filter (fun p => (keptP ps p).isSome)).map (·.id)) = xs at *
        skip
        go_wp2_with (at_builtin; refine wpList_append_rd _ rfl (.tmp 21) (.tmp 28) 33 rfl (w.heap.size + 2) 3 i0 (.int .i64 0) 1 8 Try.underlying33 hi hz0 hz1 hz2 rfl (by decide) _ m xs rfl (HO4.out.alloc _) _ 1 _ [.int .i64 p.id] rfl rfl (Rd.new _ _ _) ?c2 ?c3 ?c4 ?c5 ?_)
        case c2 => intro u hu; simp at hu; subst hu; rfl
        case c3 => unfold maxLen; omega
        case c4 => omega
        case c5 => simp; omega
        intro v5 w5 hown5 hg5
        have B5 := Lib.hid (below_own (B := w.heap.size + 2) (BIG.out.alloc (by omega) _) (HO4.out.alloc _) hg5 (by simp; omega))
        rw [HCAT.out] at hown5
        have HO5 := Lib.hid hown5
        obtain ⟨A5, c5, hv5, _, _⟩ := own_form hown5
        subst hv5
        clear hown5 hg5
        go_wp2_with fail
        go_roundw
        case rel => exact ⟨k + 1, by omega, by go_num, m + 1, HLEN.out, HO5.out, B5.out⟩
        case measure => simp [intOf] <;> omega
    · have hkn : nn = k := by omega
      subst hkn
      have HALL := Lib.hid (show (((pn.take nn).filter (fun p => (keptP ps p).isSome)).map (·.id)) = keptL ps pn by rw [List.take_of_length_le (by rw [HNN.out]; exact Nat.le_refl _)]; rfl)
      go_wp2_with fail
      go_ret
      refine ⟨BW.out, Av, cv, by rw [← HALL.out, HM.out]; rfl, ?_⟩
      rw [← HALL.out]
      exact HPV.out
set_option maxRecDepth 100000 in
set_option maxHeartbeats 8000000 in
theorem rChannels (fr : Int) (ps : List Pt) (pn : List Pn) (qs : List Qu) (cs : List Ch) (Ap Aq Aw An Ac : Option Addr) (np cp nq cq nw cw nn cn nc cc : Nat) (hnp : ps.length = np) (hnn : pn.length = nn) (hnq : qs.length = nq) (hnc : cs.length = nc) (h63 : np ≤ 1000000) (h632 : nn ≤ 1000000) (h633 : nq ≤ 1000000) (h634 : nc ≤ 1000000) (w : World) (h : Pts w Ap ps) (h2 : Pns w An pn) (h3 : Qus w Aq qs) (h4 : Rd w Ac (chCells cs)) :
    Calls Try.prog 21 #[.agg #[.int .i64 fr, .slice Ap np cp, .slice Aq nq cq], .agg #[.slice Aw nw cw, .slice An nn cn, .slice Ac nc cc]] w (IOut (chanL ps pn qs cs) w) := by
  have hB2 := (((Below.refl w.heap.size w).alloc (Nat.le_refl _) (.cells #[.int .i64 fr, .slice Ap np cp, .slice Aq nq cq] 25)).alloc (by simp) (.cells #[.slice Aw nw cw, .slice An nn cn, .slice Ac nc cc] 30))
  have G0 := Lib.hid (blk_alloc (blk_new w #[.int .i64 fr, .slice Ap np cp, .slice Aq nq cq] 25) (.cells #[.slice Aw nw cw, .slice An nn cn, .slice Ac nc cc] 30))
  have G1 := Lib.hid (show ((w.alloc (.cells #[.int .i64 fr, .slice Ap np cp, .slice Aq nq cq] 25)).alloc (.cells #[.slice Aw nw cw, .slice An nn cn, .slice Ac nc cc] 30)).heap[w.heap.size + 1]? = some (.cells #[.slice Aw nw cw, .slice An nn cn, .slice Ac nc cc] 30 (0, 0)) by have := blk_new (w.alloc (.cells #[.int .i64 fr, .slice Ap np cp, .slice Aq nq cq] 25)) #[.slice Aw nw cw, .slice An nn cn, .slice Ac nc cc] 30; simpa using this)
  have HB := Lib.hid hB2
  obtain ⟨i0, hi, hz0, hz1, hz2⟩ := info_parts info_int
  have HS2 := Lib.hid (show ((w.alloc (.cells #[.int .i64 fr, .slice Ap np cp, .slice Aq nq cq] 25)).alloc (.cells #[.slice Aw nw cw, .slice An nn cn, .slice Ac nc cc] 30)).heap.size = w.heap.size + 2 by simp)
  have H1 := Lib.hid h; have H2 := Lib.hid h2; have H3 := Lib.hid h3; have H4 := Lib.hid h4
  have HNP := Lib.hid hnp; have HNN := Lib.hid hnn; have HNQ := Lib.hid hnq; have HNC := Lib.hid hnc
  have hni : (nn : Int) ≤ 1000000 := by omega
  have hci : (nc : Int) ≤ 1000000 := by omega
  clear h h2 h3 h4 hnp hnn hnq hnc hB2
  go_enter Try.func21, Try.ntmps21
  go_wp2_with fail
  generalize ((w.alloc (.cells #[.int .i64 fr, .slice Ap np cp, .slice Aq nq cq] 25)).alloc (.cells #[.slice Aw nw cw, .slice An nn cn, .slice Ac nc cc] 30)) = wb at *
  go_loopw [5, 6] (fun v iv wr => ∃ k : Nat, k ≤ nc ∧ iv = .int .i64 k ∧ ∃ m, (((cs.take k).filter (fun c => (queueP ps pn qs c).isSome)).map (·.id)).length = m ∧ wr.ownsRow (w.heap.size + 2) 3 1 v m (ints .i64 (((cs.take k).filter (fun c => (queueP ps pn qs c).isSome)).map (·.id))) ∧ Below (w.heap.size + 2) wb wr) (fun _ iv _ => nc - (intOf iv).toNat)
  case atStart => exact ⟨0, Nat.zero_le _, rfl, 0, by simp, by simpa [ints] using World.ownsRow_nil _ _ _ _, Below.refl _ _⟩
  case round =>
    obtain ⟨k, hk, rfl, m, hm, ho, hb⟩ := hrel
    have hmk : m ≤ k := by rw [← hm]; simp only [List.length_map]; exact Nat.le_trans (List.length_filter_le _ _) (by rw [List.length_take]; omega)
    obtain ⟨Av, cv, rfl, _, hpv⟩ := own_form ho
    have hz := hb.size
    have HM := Lib.hid hm; have BR := Lib.hid hb; have HO := Lib.hid ho; have HPV := Lib.hid hpv
    have hzw : w.heap.size + 2 ≤ wr.heap.size := by rw [HS2.out] at hz; exact hz
    have BW := Lib.hid (HB.out.trans (hb.mono (Nat.le_add_right _ _)))
    have SR := Lib.hid (blk_below G0.out hb (by omega)); have KR := Lib.hid (blk_below G1.out hb (by omega))
    clear hb ho hm hpv
    have a1 := blk_cell KR.out 2
    by_cases hkl : k < nc
    · have hki : (k : Int) < (nc : Int) := by omega
      obtain ⟨p, hp⟩ : ∃ p, cs[k]? = some p := ⟨_, List.getElem?_eq_getElem (by rw [HNC.out]; exact hkl)⟩
      obtain ⟨b, off, rfl, _⟩ := H4.out.addr (by rw [chCells_length, HNC.out]; omega)
      obtain ⟨y0, y1, y2, y3, y4⟩ := chCells_at cs k p hp
      replace y0 := (H4.out.below BW.out).cell y0
      replace y1 := (H4.out.below BW.out).cell y1
      replace y2 := (H4.out.below BW.out).cell y2
      replace y3 := (H4.out.below BW.out).cell y3
      replace y4 := (H4.out.below BW.out).cell y4
      rw [← Nat.add_assoc] at y1 y2 y3 y4
      have HP := Lib.hid hp; clear hp
      have z0 := xc y0
      have z1 := xc y1
      have z2 := xc y2
      have z3 := xc y3
      have z4 := xc y4
      have s0 := xc (blk_cell SR.out 0)
      have s1 := xc (blk_cell SR.out 1)
      have s2 := xc (blk_cell SR.out 2)
      have c0 := xc (blk_cell KR.out 0)
      have c1 := xc (blk_cell KR.out 1)
      have c2 := xc (blk_cell KR.out 2)
      have LTB := Lib.hid (World.block_lt_of_cell? wr _ y0)
      have HY0 := Lib.hid y0
      have TK := fun v : Ext wr.heap.size wr => rqueue fr ps pn qs p Ap Aq Aw An (some ⟨b, off, none⟩) np cp nq cq nw cw nn cn nc cc HNP.out HNN.out HNQ.out h63 h632 h633 v.world (Pts.below (Pts.below H1.out BW.out) v.below) (Pns.below (Pns.below H2.out BW.out) v.below) (Qus.below (Qus.below H3.out BW.out) v.below)
      clear y0 y1 y2 y3 y4
      rcases queueI_cases ps pn qs p with ⟨hq, hqi⟩ | ⟨l, j, q, hq, hqi, _, _, _⟩
      · rw [hqi] at TK
        clear hqi
        have HF := Lib.hid (show (fun c => (queueP ps pn qs c).isSome) p = false by simp [hq])
        clear hq
        go_wp2_with fail
        refine region_ext (by kernel_rfl) (by kernel_rfl) ?_
        try simp only [List.append_eq, List.cons_append, List.nil_append]
        repeat (go_big_quiet_step (with_reducible exact calls_ext (Nat.le_refl _) (TK _)))
        refine wpQuiet_nil ?_
        intro v
        have BV := Lib.hid v.below
        have BIG := Lib.hid (BR.out.trans (BV.out.mono (by omega)))
        have HO4 := Lib.hid (own_below HO.out BV.out)
        go_wp2
        go_roundw
        case rel => exact ⟨k + 1, by omega, by go_num, m, by rw [filter_take_none _ _ _ _ HP.out HF.out]; exact HM.out, by rw [filter_take_none _ _ _ _ HP.out HF.out]; exact HO4.out, BIG.out⟩
        case measure => simp [intOf] <;> omega
      · rw [hqi] at TK
        have hj0 : (0 : Int) ≤ (j : Int) := by omega
        clear hqi
        have HF := Lib.hid (show (fun c => (queueP ps pn qs c).isSome) p = true by simp [hq])
        clear hq
        go_wp2_with fail
        refine region_ext (by kernel_rfl) (by kernel_rfl) ?_
        try simp only [List.append_eq, List.cons_append, List.nil_append]
        repeat (go_big_quiet_step (with_reducible exact calls_ext (Nat.le_refl _) (TK _)))
        refine wpQuiet_nil ?_
        intro v
        have BV := Lib.hid v.below
        have BIG := Lib.hid (BR.out.trans (BV.out.mono (by omega)))
        have HO4 := Lib.hid (own_below HO.out BV.out)
        clear z0 z1 z2 z3 z4 s0 s1 s2 c0 c1 c2 TK
        generalize v.world = wv at *
        have k1 := blk_cell (blk_below KR.out BV.out (blk_lt KR.out)) 2
        have y0 := (BV.out.cell (p := ⟨b, _, none⟩) LTB.out).trans HY0.out
        have HCAT := Lib.hid (show ints .i64 (((cs.take k).filter (fun c => (queueP ps pn qs c).isSome)).map (·.id)) ++ [.int .i64 p.id] = ints .i64 (((cs.take (k + 1)).filter (fun c => (queueP ps pn qs c).isSome)).map (·.id)) by rw [filter_take_some _ _ _ _ HP.out HF.out, List.map_append, ints_append]; rfl)
        have HLEN := Lib.hid (show (((cs.take (k + 1)).filter (fun c => (queueP ps pn qs c).isSome)).map (·.id)).length = m + 1 by rw [filter_take_some _ _ _ _ HP.out HF.out, List.map_append, List.length_append, HM.out]; rfl)
        have hzv := BV.out.size
        generalize hxs : ints .i64 (((cs.take k).filter (fun c => (queueP ps pn qs c).isSome)).map (·.id)) = xs at *
        skip
        go_wp2_with (at_builtin; refine wpList_append_rd _ rfl (.tmp 23) (.tmp 30) 33 rfl (w.heap.size + 2) 3 i0 (.int .i64 0) 1 8 Try.underlying33 hi hz0 hz1 hz2 rfl (by decide) _ m xs rfl (HO4.out.alloc _) _ 1 _ [.int .i64 p.id] rfl rfl (Rd.new _ _ _) ?c2 ?c3 ?c4 ?c5 ?_)
        case c2 => intro u hu; simp at hu; subst hu; rfl
        case c3 => unfold maxLen; omega
        case c4 => omega
        case c5 => simp; omega
        intro v5 w5 hown5 hg5
        have B5 := Lib.hid (below_own (B := w.heap.size + 2) (BIG.out.alloc (by omega) _) (HO4.out.alloc _) hg5 (by simp; omega))
        rw [HCAT.out] at hown5
        have HO5 := Lib.hid hown5
        obtain ⟨A5, c5, hv5, _, _⟩ := own_form hown5
        subst hv5
        clear hown5 hg5
        go_wp2_with fail
        go_roundw
        case rel => exact ⟨k + 1, by omega, by go_num, m + 1, HLEN.out, HO5.out, B5.out⟩
        case measure => simp [intOf] <;> omega
    · have hkn : nc = k := by omega
      subst hkn
      have HALL := Lib.hid (show (((cs.take nc).filter (fun c => (queueP ps pn qs c).isSome)).map (·.id)) = chanL ps pn qs cs by rw [List.take_of_length_le (by rw [HNC.out]; exact Nat.le_refl _)]; rfl)
      go_wp2_with fail
      go_ret
      refine ⟨BW.out, Av, cv, by rw [← HALL.out, HM.out]; rfl, ?_⟩
      rw [← HALL.out]
      exact HPV.out
end Go.Proofs.Ytnfjkpeifleogaa.mv
