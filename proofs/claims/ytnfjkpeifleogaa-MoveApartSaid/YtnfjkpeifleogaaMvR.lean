/- Moves: the reference's part, kept, keeps, queue; no condition. -/
import Derived.Test.YtnfjkpeifleogaaRows
import Derived.Test.YtnfjkpeifleogaaMvQ
namespace Go.Proofs.Ytnfjkpeifleogaa.mv
open Go Go.ChangeShapes Go.WideShapes Go.ChangeAt Go.RowKit Go.Proofs.Ytnfjkpeifleogaa.rows
def partI (ps : List Pt) (i : Int) : Int := firstI (fun x => decide (x.id = i)) ps
set_option maxRecDepth 100000 in
set_option maxHeartbeats 8000000 in
theorem rpart (fr : Int) (ps : List Pt) (i : Int) (Ap Aq : Option Addr) (np cp nq cq : Nat) (hnp : ps.length = np) (h63 : np ≤ 1000000) (w : World) (h : Pts w Ap ps) :
    Calls Try.prog 31 #[.agg #[.int .i64 fr, .slice Ap np cp, .slice Aq nq cq], .int .i64 i] w fun e w' => e = .returned (.int .i64 (partI ps i)) ∧ Below w.heap.size w w' := by
  have hB2 := ((Below.refl w.heap.size w).alloc (Nat.le_refl _) (.cells #[.int .i64 fr, .slice Ap np cp, .slice Aq nq cq] 25))
  have G0 := Lib.hid (blk_new w #[.int .i64 fr, .slice Ap np cp, .slice Aq nq cq] 25)
  have HB := Lib.hid hB2
  have H := Lib.hid (h.below hB2); have HN := Lib.hid hnp
  have h63i : (np : Int) ≤ 1000000 := by omega
  clear h hnp hB2
  go_enter Try.func31, Try.ntmps31
  go_wp2_with fail
  generalize (w.alloc (.cells #[.int .i64 fr, .slice Ap np cp, .slice Aq nq cq] 25)) = wb at *
  go_loopw [5] (fun iv wr => ∃ k : Nat, k ≤ np ∧ iv = .int .i64 k ∧ (∀ (j : Nat) (x : Pt), j < k → ps[j]? = some x → decide (x.id = i) = false) ∧ wr = wb) (fun iv _ => np - (intOf iv).toNat)
  case atStart => exact ⟨0, Nat.zero_le _, rfl, (fun _ _ hj => absurd hj (Nat.not_lt_zero _)), rfl⟩
  case round =>
    obtain ⟨k, hk, rfl, hno, hwr⟩ := hrel
    have hw0 : wb = wr := hwr.symm
    clear hwr
    subst hw0
    have HNO := Lib.hid hno; clear hno
    have a1 := blk_cell G0.out 1
    by_cases hkl : k < np
    · have hki : (k : Int) < (np : Int) := by omega
      obtain ⟨x, hx⟩ : ∃ x, ps[k]? = some x := ⟨_, List.getElem?_eq_getElem (by rw [HN.out]; exact hkl)⟩
      obtain ⟨b, o, rfl, _⟩ := Rws.addr pt_len (by decide) H.out (by rw [HN.out]; omega)
      obtain ⟨A1, c1, _, hc⟩ := Rws.at pt_len H.out hx
      have c0 := hc 0 _ rfl
      dsimp only [Pt.cells, Nat.add_zero] at c0
      have HX := Lib.hid hx; clear hx hc
      by_cases hxi : x.id = i
      · rw [hxi] at c0
        have HR := Lib.hid (show partI ps i = k from firstI_at _ ps k x HX.out (by simp [hxi]) HNO.out)
        go_wp2_with fail
        go_ret
        exact ⟨by rw [HR.out]; rfl, HB.out⟩
      · have e1 : (x.id == i) = false := by rw [beq_eq_false_iff_ne]; exact hxi
        have HXI := Lib.hid hxi; clear hxi
        go_wp2_with fail
        go_roundw
        case rel => exact ⟨k + 1, by omega, by go_num, (fun j y hj hy => (Nat.lt_or_eq_of_le (Nat.lt_succ_iff.1 hj)).elim (fun h => HNO.out j y h hy) (fun h => by subst h; rw [HX.out] at hy; injection hy with hy; subst hy; exact decide_eq_false HXI.out)), trivial⟩
        case measure => simp [intOf] <;> omega
    · have hkn : np = k := by omega
      subst hkn
      have HR := Lib.hid (show partI ps i = -1 from firstI_none _ ps (fun j q hj hq => HNO.out j q (by rw [← HN.out]; exact hj) hq))
      go_wp2_with fail
      go_ret
      exact ⟨by rw [HR.out]; rfl, HB.out⟩
set_option maxRecDepth 100000 in
set_option maxHeartbeats 8000000 in
theorem rkept (fr : Int) (ps : List Pt) (y : Pn) (Ap Aq Ai : Option Addr) (np cp nq cq ni ci : Nat) (hnp : ps.length = np) (h63 : np ≤ 1000000) (w : World) (h : Pts w Ap ps) :
    Calls Try.prog 30 #[.agg #[.int .i64 fr, .slice Ap np cp, .slice Aq nq cq], .agg #[.int .i64 y.id, .int .i64 y.base, .int .i64 y.size, .bool y.keep, .slice Ai ni ci]] w fun e w' => e = .returned (.bool (keptP ps y).isSome) ∧ Below w.heap.size w w' := by
  have hB2 := (((Below.refl w.heap.size w).alloc (Nat.le_refl _) (.cells #[.int .i64 fr, .slice Ap np cp, .slice Aq nq cq] 25)).alloc (by simp) (.cells #[.int .i64 y.id, .int .i64 y.base, .int .i64 y.size, .bool y.keep, .slice Ai ni ci] 40))
  have G0 := Lib.hid (blk_alloc (blk_new w #[.int .i64 fr, .slice Ap np cp, .slice Aq nq cq] 25) (.cells #[.int .i64 y.id, .int .i64 y.base, .int .i64 y.size, .bool y.keep, .slice Ai ni ci] 40))
  have G1 := Lib.hid (show ((w.alloc (.cells #[.int .i64 fr, .slice Ap np cp, .slice Aq nq cq] 25)).alloc (.cells #[.int .i64 y.id, .int .i64 y.base, .int .i64 y.size, .bool y.keep, .slice Ai ni ci] 40)).heap[w.heap.size + 1]? = some (.cells #[.int .i64 y.id, .int .i64 y.base, .int .i64 y.size, .bool y.keep, .slice Ai ni ci] 40 (0, 0)) by have := blk_new (w.alloc (.cells #[.int .i64 fr, .slice Ap np cp, .slice Aq nq cq] 25)) #[.int .i64 y.id, .int .i64 y.base, .int .i64 y.size, .bool y.keep, .slice Ai ni ci] 40; simpa using this)
  have HB := Lib.hid hB2
  have H := Lib.hid (h.below hB2); have HN := Lib.hid hnp
  have h63i : (np : Int) ≤ 1000000 := by omega
  clear h hnp hB2
  have a0 := blk_cell G0.out 0; have a1 := blk_cell G0.out 1; have a2 := blk_cell G0.out 2; have b0 := blk_cell G1.out 0
  go_enter Try.func30, Try.ntmps30
  go_wp2_with fail
  generalize ((w.alloc (.cells #[.int .i64 fr, .slice Ap np cp, .slice Aq nq cq] 25)).alloc (.cells #[.int .i64 y.id, .int .i64 y.base, .int .i64 y.size, .bool y.keep, .slice Ai ni ci] 40)) = wb at *
  refine (rpart fr ps y.id Ap Aq np cp nq cq HN.out h63 wb H.out).mono ?_
  rintro e w1 ⟨rfl, b1⟩
  have B1 := Lib.hid b1; clear b1 a0 a1 a2 b0
  have S1 := Lib.hid (blk_below G0.out B1.out (blk_lt G0.out)); have P1 := Lib.hid (blk_below G1.out B1.out (blk_lt G1.out))
  have s1 := xc (blk_cell S1.out 1); have p2 := xc (blk_cell P1.out 2); have p3 := xc (blk_cell P1.out 3)
  rcases firstI_spec (fun x : Pt => decide (x.id = y.id)) ps with ⟨hf, hall⟩ | ⟨k0, x, hf, hx, hfx, hlt⟩
  · have HK := Lib.hid (show keptP ps y = none by unfold keptP; rw [find_none (fun x : Pt => decide (x.id = y.id)) ps (fun j q hq => hall q (List.mem_of_getElem? hq))])
    rw [show partI ps y.id = -1 from hf]
    clear hf hall
    go_wp2_with fail
    refine region_ext (by kernel_rfl) (by kernel_rfl) ?_
    try simp only [List.append_eq, List.cons_append, List.nil_append]
    repeat (go_big_quiet_step (fail))
    refine wpQuiet_nil ?_
    intro v
    have BV := Lib.hid (B1.out.trans (v.below.mono B1.out.size))
    go_wp2
    go_ret
    exact ⟨by rw [HK.out]; rfl, HB.out.trans (BV.out.mono HB.out.size)⟩
  · have hk0 : k0 < np := by have := (List.getElem?_eq_some_iff.1 hx).1; rw [HN.out] at this; exact this
    have hk1 : (k0 : Int) < (np : Int) := by omega
    have hk2 : (0 : Int) ≤ (k0 : Int) := by omega
    obtain ⟨b, o, rfl, _⟩ := Rws.addr pt_len (by decide) H.out (by rw [HN.out]; omega)
    obtain ⟨A1, c1, _, hc⟩ := Rws.at pt_len (Pts.below H.out B1.out) hx
    have z1 := xc (hc 1 _ rfl); have z2 := xc (hc 2 _ rfl)
    have HFD := Lib.hid (show keptP ps y = if y.keep = true ∧ x.keep = true ∧ x.size = y.size then some x else none by unfold keptP; rw [find_at (fun x : Pt => decide (x.id = y.id)) ps k0 x hx hfx hlt])
    rw [show partI ps y.id = (k0 : Int) from hf]
    clear hf hc hx hfx hlt
    cases hyk : y.keep with
    | false =>
      have HK := Lib.hid (show keptP ps y = none by rw [HFD.out]; exact if_neg (fun h => by have := h.1; rw [hyk] at this; cases this))
      simp only [hyk] at p3
      go_wp2_with fail
      refine region_ext (by kernel_rfl) (by kernel_rfl) ?_
      try simp only [List.append_eq, List.cons_append, List.nil_append]
      repeat (go_big_quiet_step (fail))
      refine wpQuiet_nil ?_
      intro v
      have BV := Lib.hid (B1.out.trans (v.below.mono B1.out.size))
      go_wp2
      go_ret
      exact ⟨by rw [HK.out]; rfl, HB.out.trans (BV.out.mono HB.out.size)⟩
    | true =>
      simp only [hyk] at p3
      cases hxk : x.keep with
      | false =>
        have HK := Lib.hid (show keptP ps y = none by rw [HFD.out]; exact if_neg (fun h => by have := h.2.1; rw [hxk] at this; cases this))
        simp only [hxk] at z2
        go_wp2_with fail
        refine region_ext (by kernel_rfl) (by kernel_rfl) ?_
        try simp only [List.append_eq, List.cons_append, List.nil_append]
        repeat (go_big_quiet_step (fail))
        refine wpQuiet_nil ?_
        intro v
        have BV := Lib.hid (B1.out.trans (v.below.mono B1.out.size))
        go_wp2
        go_ret
        exact ⟨by rw [HK.out]; rfl, HB.out.trans (BV.out.mono HB.out.size)⟩
      | true =>
        simp only [hxk] at z2
        by_cases hsz : x.size = y.size
        · skip
          have HK := Lib.hid (show keptP ps y = some x by rw [HFD.out]; exact if_pos ⟨hyk, hxk, hsz⟩)
          rw [hsz] at z1
          go_wp2_with fail
          refine region_ext (by kernel_rfl) (by kernel_rfl) ?_
          try simp only [List.append_eq, List.cons_append, List.nil_append]
          repeat (go_big_quiet_step (fail))
          refine wpQuiet_nil ?_
          intro v
          have BV := Lib.hid (B1.out.trans (v.below.mono B1.out.size))
          go_wp2
          go_ret
          exact ⟨by rw [HK.out]; rfl, HB.out.trans (BV.out.mono HB.out.size)⟩
        · skip
          have HK := Lib.hid (show keptP ps y = none by rw [HFD.out]; exact if_neg (fun h => hsz h.2.2))
          have e1 : (x.size == y.size) = false := by rw [beq_eq_false_iff_ne]; exact hsz
          go_wp2_with fail
          refine region_ext (by kernel_rfl) (by kernel_rfl) ?_
          try simp only [List.append_eq, List.cons_append, List.nil_append]
          repeat (go_big_quiet_step (fail))
          refine wpQuiet_nil ?_
          intro v
          have BV := Lib.hid (B1.out.trans (v.below.mono B1.out.size))
          go_wp2
          go_ret
          exact ⟨by rw [HK.out]; rfl, HB.out.trans (BV.out.mono HB.out.size)⟩
set_option maxRecDepth 100000 in
set_option maxHeartbeats 8000000 in
theorem rkeeps (fr : Int) (ps : List Pt) (pn : List Pn) (i : Int) (Ap Aq Aw An Ac : Option Addr) (np cp nq cq nw cw nn cn nc cc : Nat) (hnp : ps.length = np) (hnn : pn.length = nn) (h63 : np ≤ 1000000) (h64 : nn ≤ 1000000) (w : World) (h : Pts w Ap ps) (h2 : Pns w An pn) :
    Calls Try.prog 41 #[.agg #[.int .i64 fr, .slice Ap np cp, .slice Aq nq cq], .agg #[.slice Aw nw cw, .slice An nn cn, .slice Ac nc cc], .int .i64 i] w fun e w' => e = .returned (.bool (keepsP ps pn i)) ∧ Below w.heap.size w w' := by
  have hB2 := (((Below.refl w.heap.size w).alloc (Nat.le_refl _) (.cells #[.int .i64 fr, .slice Ap np cp, .slice Aq nq cq] 25)).alloc (by simp) (.cells #[.slice Aw nw cw, .slice An nn cn, .slice Ac nc cc] 30))
  have G0 := Lib.hid (blk_alloc (blk_new w #[.int .i64 fr, .slice Ap np cp, .slice Aq nq cq] 25) (.cells #[.slice Aw nw cw, .slice An nn cn, .slice Ac nc cc] 30))
  have G1 := Lib.hid (show ((w.alloc (.cells #[.int .i64 fr, .slice Ap np cp, .slice Aq nq cq] 25)).alloc (.cells #[.slice Aw nw cw, .slice An nn cn, .slice Ac nc cc] 30)).heap[w.heap.size + 1]? = some (.cells #[.slice Aw nw cw, .slice An nn cn, .slice Ac nc cc] 30 (0, 0)) by have := blk_new (w.alloc (.cells #[.int .i64 fr, .slice Ap np cp, .slice Aq nq cq] 25)) #[.slice Aw nw cw, .slice An nn cn, .slice Ac nc cc] 30; simpa using this)
  have HB := Lib.hid hB2
  have H := Lib.hid (h.below hB2); have H2 := Lib.hid (h2.below hB2); have HN := Lib.hid hnp; have HNN := Lib.hid hnn
  have h63i : (np : Int) ≤ 1000000 := by omega
  have h64i : (nn : Int) ≤ 1000000 := by omega
  clear h h2 hnp hnn hB2
  go_enter Try.func41, Try.ntmps41
  go_wp2_with fail
  generalize ((w.alloc (.cells #[.int .i64 fr, .slice Ap np cp, .slice Aq nq cq] 25)).alloc (.cells #[.slice Aw nw cw, .slice An nn cn, .slice Ac nc cc] 30)) = wb at *
  go_loopw [7] (fun iv wr => ∃ k : Nat, k ≤ nn ∧ iv = .int .i64 k ∧ (∀ (j : Nat) (x : Pn), j < k → pn[j]? = some x → decide (x.id = i) = false) ∧ wr = wb) (fun iv _ => nn - (intOf iv).toNat)
  case atStart => exact ⟨0, Nat.zero_le _, rfl, (fun _ _ hj => absurd hj (Nat.not_lt_zero _)), rfl⟩
  case round =>
    obtain ⟨k, hk, rfl, hno, hwr⟩ := hrel
    have hw0 : wb = wr := hwr.symm
    clear hwr
    subst hw0
    have HNO := Lib.hid hno; clear hno
    have a1 := blk_cell G1.out 1
    by_cases hkl : k < nn
    · have hki : (k : Int) < (nn : Int) := by omega
      obtain ⟨x, hx⟩ : ∃ x, pn[k]? = some x := ⟨_, List.getElem?_eq_getElem (by rw [HNN.out]; exact hkl)⟩
      obtain ⟨b, o, rfl, _⟩ := Rws.addr pn_len (by decide) H2.out (by rw [HNN.out]; omega)
      obtain ⟨A1, c1, _, hc⟩ := Rws.at pn_len H2.out hx
      have c0 := hc 0 _ rfl
      dsimp only [Pn.cells, Nat.add_zero] at c0
      have HX := Lib.hid hx
      by_cases hxi : x.id = i
      · have HR := Lib.hid (show keepsP ps pn i = (keptP ps x).isSome by unfold keepsP; rw [find_at (fun p : Pn => decide (p.id = i)) pn k x HX.out (by simp [hxi]) HNO.out])
        have xa := xc a1
        have z0 := xc (hc 0 _ rfl)
        have z1 := xc (hc 1 _ rfl)
        have z2 := xc (hc 2 _ rfl)
        have z3 := xc (hc 3 _ rfl)
        have z4 := xc (hc 4 _ rfl)
        dsimp only [Pn.cells, Nat.add_zero] at z0 z1 z2 z3 z4
        have s0 := xc (blk_cell G0.out 0)
        have s1 := xc (blk_cell G0.out 1)
        have s2 := xc (blk_cell G0.out 2)
        rw [hxi] at c0
        have TK := fun v : Ext wb.heap.size wb => rkept fr ps x Ap Aq A1 np cp nq cq x.img.length c1 HN.out h63 v.world (Pts.below H.out v.below)
        clear hx hc hxi
        go_wp2_with fail
        refine region_ext (by kernel_rfl) (by kernel_rfl) ?_
        try simp only [List.append_eq, List.cons_append, List.nil_append]
        repeat (go_big_quiet_step (with_reducible exact calls_ext (Nat.le_refl _) (TK _)))
        refine wpQuiet_nil ?_
        intro v
        have BV := Lib.hid v.below
        go_wp2
        go_ret
        exact ⟨by rw [HR.out]; rfl, HB.out.trans (BV.out.mono HB.out.size)⟩
      · have e1 : (x.id == i) = false := by rw [beq_eq_false_iff_ne]; exact hxi
        have HXI := Lib.hid hxi; clear hxi hx hc
        go_wp2_with fail
        go_roundw
        case rel => exact ⟨k + 1, by omega, by go_num, (fun j y hj hy => (Nat.lt_or_eq_of_le (Nat.lt_succ_iff.1 hj)).elim (fun h => HNO.out j y h hy) (fun h => by subst h; rw [HX.out] at hy; injection hy with hy; subst hy; exact decide_eq_false HXI.out)), trivial⟩
        case measure => simp [intOf] <;> omega
    · have hkn : nn = k := by omega
      subst hkn
      have HR := Lib.hid (show keepsP ps pn i = false by unfold keepsP; rw [find_none (fun p : Pn => decide (p.id = i)) pn (fun j q hq => HNO.out j q (by rw [← HNN.out]; exact (List.getElem?_eq_some_iff.1 hq).1) hq)])
      go_wp2_with fail
      go_ret
      exact ⟨by rw [HR.out]; rfl, HB.out⟩
def queueI (ps : List Pt) (pn : List Pn) (qs : List Qu) (c : Ch) : Int := if (queueP ps pn qs c).isSome = true then firstI (fun q => decide (q.ch = c)) qs else -1
set_option maxRecDepth 100000 in
set_option maxHeartbeats 8000000 in
theorem rqueue (fr : Int) (ps : List Pt) (pn : List Pn) (qs : List Qu) (ch : Ch) (Ap Aq Aw An Ac : Option Addr) (np cp nq cq nw cw nn cn nc cc : Nat) (hnp : ps.length = np) (hnn : pn.length = nn) (hnq : qs.length = nq) (h63 : np ≤ 1000000) (h64 : nn ≤ 1000000) (h65 : nq ≤ 1000000) (w : World) (h : Pts w Ap ps) (h2 : Pns w An pn) (h3 : Qus w Aq qs) :
    Calls Try.prog 32 #[.agg #[.int .i64 fr, .slice Ap np cp, .slice Aq nq cq], .agg #[.slice Aw nw cw, .slice An nn cn, .slice Ac nc cc], .agg #[.int .i64 ch.id, .int .i64 ch.fr, .int .i64 ch.to, .int .i64 ch.cap, .int .i64 ch.sz]] w fun e w' => e = .returned (.int .i64 (queueI ps pn qs ch)) ∧ Below w.heap.size w w' := by
  have hB2 := ((((Below.refl w.heap.size w).alloc (Nat.le_refl _) (.cells #[.int .i64 fr, .slice Ap np cp, .slice Aq nq cq] 25)).alloc (by simp) (.cells #[.slice Aw nw cw, .slice An nn cn, .slice Ac nc cc] 30)).alloc (by simp; omega) (.cells #[.int .i64 ch.id, .int .i64 ch.fr, .int .i64 ch.to, .int .i64 ch.cap, .int .i64 ch.sz] 50))
  have G0 := Lib.hid (blk_alloc (blk_alloc (blk_new w #[.int .i64 fr, .slice Ap np cp, .slice Aq nq cq] 25) (.cells #[.slice Aw nw cw, .slice An nn cn, .slice Ac nc cc] 30)) (.cells #[.int .i64 ch.id, .int .i64 ch.fr, .int .i64 ch.to, .int .i64 ch.cap, .int .i64 ch.sz] 50))
  have G1 := Lib.hid (blk_alloc (show ((w.alloc (.cells #[.int .i64 fr, .slice Ap np cp, .slice Aq nq cq] 25)).alloc (.cells #[.slice Aw nw cw, .slice An nn cn, .slice Ac nc cc] 30)).heap[w.heap.size + 1]? = some (.cells #[.slice Aw nw cw, .slice An nn cn, .slice Ac nc cc] 30 (0, 0)) by have := blk_new (w.alloc (.cells #[.int .i64 fr, .slice Ap np cp, .slice Aq nq cq] 25)) #[.slice Aw nw cw, .slice An nn cn, .slice Ac nc cc] 30; simpa using this) (.cells #[.int .i64 ch.id, .int .i64 ch.fr, .int .i64 ch.to, .int .i64 ch.cap, .int .i64 ch.sz] 50))
  have G2 := Lib.hid (show (((w.alloc (.cells #[.int .i64 fr, .slice Ap np cp, .slice Aq nq cq] 25)).alloc (.cells #[.slice Aw nw cw, .slice An nn cn, .slice Ac nc cc] 30)).alloc (.cells #[.int .i64 ch.id, .int .i64 ch.fr, .int .i64 ch.to, .int .i64 ch.cap, .int .i64 ch.sz] 50)).heap[w.heap.size + 2]? = some (.cells #[.int .i64 ch.id, .int .i64 ch.fr, .int .i64 ch.to, .int .i64 ch.cap, .int .i64 ch.sz] 50 (0, 0)) by have := blk_new ((w.alloc (.cells #[.int .i64 fr, .slice Ap np cp, .slice Aq nq cq] 25)).alloc (.cells #[.slice Aw nw cw, .slice An nn cn, .slice Ac nc cc] 30)) #[.int .i64 ch.id, .int .i64 ch.fr, .int .i64 ch.to, .int .i64 ch.cap, .int .i64 ch.sz] 50; simpa using this)
  have HB := Lib.hid hB2
  have H := Lib.hid (h.below hB2); have H2 := Lib.hid (h2.below hB2); have H3 := Lib.hid (h3.below hB2); have HN := Lib.hid hnp; have HNN := Lib.hid hnn; have HNQ := Lib.hid hnq
  have h63i : (np : Int) ≤ 1000000 := by omega
  have h64i : (nn : Int) ≤ 1000000 := by omega
  have h65i : (nq : Int) ≤ 1000000 := by omega
  clear h h2 h3 hnp hnn hnq hB2
  go_enter Try.func32, Try.ntmps32
  go_wp2_with fail
  generalize (((w.alloc (.cells #[.int .i64 fr, .slice Ap np cp, .slice Aq nq cq] 25)).alloc (.cells #[.slice Aw nw cw, .slice An nn cn, .slice Ac nc cc] 30)).alloc (.cells #[.int .i64 ch.id, .int .i64 ch.fr, .int .i64 ch.to, .int .i64 ch.cap, .int .i64 ch.sz] 50)) = wb at *
  go_loopw [7] (fun iv wr => ∃ k : Nat, k ≤ nq ∧ iv = .int .i64 k ∧ (∀ (j : Nat) (x : Qu), j < k → qs[j]? = some x → decide (x.ch = ch) = false) ∧ Below wb.heap.size wb wr) (fun iv _ => nq - (intOf iv).toNat)
  case atStart => exact ⟨0, Nat.zero_le _, rfl, (fun _ _ hj => absurd hj (Nat.not_lt_zero _)), Below.refl _ _⟩
  case round =>
    obtain ⟨k, hk, rfl, hno, hb⟩ := hrel
    have BR := Lib.hid hb; clear hb
    have HNO := Lib.hid hno; clear hno
    have SR := Lib.hid (blk_below G0.out BR.out (blk_lt G0.out)); have KR := Lib.hid (blk_below G1.out BR.out (blk_lt G1.out)); have CR := Lib.hid (blk_below G2.out BR.out (blk_lt G2.out))
    have a2 := blk_cell SR.out 2
    by_cases hkl : k < nq
    · have hki : (k : Int) < (nq : Int) := by omega
      obtain ⟨q, hq⟩ : ∃ q, qs[k]? = some q := ⟨_, List.getElem?_eq_getElem (by rw [HNQ.out]; exact hkl)⟩
      obtain ⟨b, o, rfl, _⟩ := Rws.addr qu_len (by decide) H3.out (by rw [HNQ.out]; omega)
      obtain ⟨A1, c1, _, hc⟩ := Rws.at qu_len (Qus.below H3.out BR.out) hq
      have zz0 := xc (hc 0 _ rfl)
      have zz1 := xc (hc 1 _ rfl)
      have zz2 := xc (hc 2 _ rfl)
      have zz3 := xc (hc 3 _ rfl)
      have zz4 := xc (hc 4 _ rfl)
      dsimp only [Qu.cells, Nat.add_zero] at zz0 zz1 zz2 zz3 zz4
      have cc0 := xc (blk_cell CR.out 0)
      have cc1 := xc (blk_cell CR.out 1)
      have cc2 := xc (blk_cell CR.out 2)
      have cc3 := xc (blk_cell CR.out 3)
      have cc4 := xc (blk_cell CR.out 4)
      have ss2 := xc a2
      have HQ := Lib.hid hq; clear hq hc
      rcases ch_cases q.ch ch with hqc | hqc | hqc | hqc | hqc | hqc
      · rw [hqc] at zz0 zz1 zz2 zz3 zz4
        have HF := Lib.hid (show firstI (fun q : Qu => decide (q.ch = ch)) qs = k from firstI_at _ qs k q HQ.out (by simp [hqc]) HNO.out)
        have HD := Lib.hid (show queueP ps pn qs ch = if keepsP ps pn ch.fr = true ∧ keepsP ps pn ch.to = true then some q.msgs else none by unfold queueP; rw [find_at (fun q : Qu => decide (q.ch = ch)) qs k q HQ.out (by simp [hqc]) HNO.out])
        clear hqc
        have K1 := fun W (hW : Below wb.heap.size wb W) => rkeeps fr ps pn ch.fr Ap (some ⟨b, o, none⟩) Aw An Ac np cp nq cq nw cw nn cn nc cc HN.out HNN.out h63 h64 W (Pts.below H.out hW) (Pns.below H2.out hW)
        have K2 := fun W (hW : Below wb.heap.size wb W) => rkeeps fr ps pn ch.to Ap (some ⟨b, o, none⟩) Aw An Ac np cp nq cq nw cw nn cn nc cc HN.out HNN.out h63 h64 W (Pts.below H.out hW) (Pns.below H2.out hW)
        obtain ⟨k1, hk1⟩ : ∃ k1, keepsP ps pn ch.fr = k1 := ⟨_, rfl⟩
        obtain ⟨k2, hk2⟩ : ∃ k2, keepsP ps pn ch.to = k2 := ⟨_, rfl⟩
        rw [hk1] at K1 HD; rw [hk2] at K2 HD
        have HK1 := Lib.hid K1; have HK2 := Lib.hid K2; clear K1 K2 hk1 hk2
        go_wp2_with fail
        refine region_ext (by kernel_rfl) (by kernel_rfl) ?_
        try simp only [List.append_eq, List.cons_append, List.nil_append]
        repeat (go_big_quiet_step (fail))
        refine wpQuiet_nil ?_
        intro v
        have BV := Lib.hid (BR.out.trans (v.below.mono BR.out.size))
        clear zz0 zz1 zz2 zz3 zz4 cc0 cc1 cc2 cc3 cc4 ss2 a2
        generalize v.world = wv at *
        have SV := Lib.hid (blk_below G0.out BV.out (blk_lt G0.out)); have KV := Lib.hid (blk_below G1.out BV.out (blk_lt G1.out)); have CW := Lib.hid (blk_below G2.out BV.out (blk_lt G2.out))
        have s0 := blk_cell SV.out 0
        have s1 := blk_cell SV.out 1
        have s2 := blk_cell SV.out 2
        have c0 := blk_cell KV.out 0
        have c1 := blk_cell KV.out 1
        have c2 := blk_cell KV.out 2
        have d1 := blk_cell CW.out 1
        go_wp2_with fail
        refine (HK1.out _ BV.out).mono ?_
        rintro e w1 ⟨rfl, b1⟩
        have B1 := Lib.hid (BV.out.trans (b1.mono BV.out.size)); clear b1 s0 s1 s2 c0 c1 c2 d1
        cases k1 with
        | false =>
          have HR := Lib.hid (show queueI ps pn qs ch = -1 by unfold queueI; rw [HD.out]; simp)
          go_wp2_with fail
          go_ret
          exact ⟨by rw [HR.out]; rfl, HB.out.trans (B1.out.mono HB.out.size)⟩
        | true =>
          have SW := Lib.hid (blk_below G0.out B1.out (blk_lt G0.out)); have KW := Lib.hid (blk_below G1.out B1.out (blk_lt G1.out)); have CX := Lib.hid (blk_below G2.out B1.out (blk_lt G2.out))
          have s0 := blk_cell SW.out 0
          have s1 := blk_cell SW.out 1
          have s2 := blk_cell SW.out 2
          have c0 := blk_cell KW.out 0
          have c1 := blk_cell KW.out 1
          have c2 := blk_cell KW.out 2
          have d2 := blk_cell CX.out 2
          go_wp2_with fail
          refine (HK2.out _ B1.out).mono ?_
          rintro e w2 ⟨rfl, b2⟩
          have B2 := Lib.hid (B1.out.trans (b2.mono B1.out.size)); clear b2 s0 s1 s2 c0 c1 c2 d2
          cases k2 with
          | false =>
            have HR := Lib.hid (show queueI ps pn qs ch = -1 by unfold queueI; rw [HD.out]; simp)
            go_wp2_with fail
            go_ret
            exact ⟨by rw [HR.out]; rfl, HB.out.trans (B2.out.mono HB.out.size)⟩
          | true =>
            have HR := Lib.hid (show queueI ps pn qs ch = k by unfold queueI; rw [HD.out]; simpa using HF.out)
            go_wp2_with fail
            go_ret
            exact ⟨by rw [HR.out]; rfl, HB.out.trans (B2.out.mono HB.out.size)⟩
      · have hd := hqc; clear hqc
        have e1 : (q.ch.id == ch.id) = false := by rw [beq_eq_false_iff_ne]; exact hd
        have e3 : ¬ q.ch.id = ch.id := hd
        have HD := Lib.hid (show decide (q.ch = ch) = false from decide_eq_false (fun h => hd (by rw [h]))); clear hd
        go_wp2_with fail
        refine region_ext (by kernel_rfl) (by kernel_rfl) ?_
        try simp only [List.append_eq, List.cons_append, List.nil_append]
        repeat (go_big_quiet_step (fail))
        refine wpQuiet_nil ?_
        intro v
        have BV := Lib.hid (BR.out.trans (v.below.mono BR.out.size))
        go_wp2
        go_roundw
        case rel => exact ⟨k + 1, by omega, by go_num, (fun j y hj hy => (Nat.lt_or_eq_of_le (Nat.lt_succ_iff.1 hj)).elim (fun h => HNO.out j y h hy) (fun h => by subst h; rw [HQ.out] at hy; injection hy with hy; subst hy; exact HD.out)), BV.out⟩
        case measure => simp [intOf] <;> omega
      · obtain ⟨h0, hd⟩ := hqc
        rw [h0] at zz0
        clear h0
        have e1 : (q.ch.fr == ch.fr) = false := by rw [beq_eq_false_iff_ne]; exact hd
        have e3 : ¬ q.ch.fr = ch.fr := hd
        have HD := Lib.hid (show decide (q.ch = ch) = false from decide_eq_false (fun h => hd (by rw [h]))); clear hd
        go_wp2_with fail
        refine region_ext (by kernel_rfl) (by kernel_rfl) ?_
        try simp only [List.append_eq, List.cons_append, List.nil_append]
        repeat (go_big_quiet_step (fail))
        refine wpQuiet_nil ?_
        intro v
        have BV := Lib.hid (BR.out.trans (v.below.mono BR.out.size))
        go_wp2
        go_roundw
        case rel => exact ⟨k + 1, by omega, by go_num, (fun j y hj hy => (Nat.lt_or_eq_of_le (Nat.lt_succ_iff.1 hj)).elim (fun h => HNO.out j y h hy) (fun h => by subst h; rw [HQ.out] at hy; injection hy with hy; subst hy; exact HD.out)), BV.out⟩
        case measure => simp [intOf] <;> omega
      · obtain ⟨h0, h1, hd⟩ := hqc
        rw [h0] at zz0
        rw [h1] at zz1
        clear h0 h1
        have e1 : (q.ch.to == ch.to) = false := by rw [beq_eq_false_iff_ne]; exact hd
        have e3 : ¬ q.ch.to = ch.to := hd
        have HD := Lib.hid (show decide (q.ch = ch) = false from decide_eq_false (fun h => hd (by rw [h]))); clear hd
        go_wp2_with fail
        refine region_ext (by kernel_rfl) (by kernel_rfl) ?_
        try simp only [List.append_eq, List.cons_append, List.nil_append]
        repeat (go_big_quiet_step (fail))
        refine wpQuiet_nil ?_
        intro v
        have BV := Lib.hid (BR.out.trans (v.below.mono BR.out.size))
        go_wp2
        go_roundw
        case rel => exact ⟨k + 1, by omega, by go_num, (fun j y hj hy => (Nat.lt_or_eq_of_le (Nat.lt_succ_iff.1 hj)).elim (fun h => HNO.out j y h hy) (fun h => by subst h; rw [HQ.out] at hy; injection hy with hy; subst hy; exact HD.out)), BV.out⟩
        case measure => simp [intOf] <;> omega
      · obtain ⟨h0, h1, h2, hd⟩ := hqc
        rw [h0] at zz0
        rw [h1] at zz1
        rw [h2] at zz2
        clear h0 h1 h2
        have e1 : (q.ch.cap == ch.cap) = false := by rw [beq_eq_false_iff_ne]; exact hd
        have e3 : ¬ q.ch.cap = ch.cap := hd
        have HD := Lib.hid (show decide (q.ch = ch) = false from decide_eq_false (fun h => hd (by rw [h]))); clear hd
        go_wp2_with fail
        refine region_ext (by kernel_rfl) (by kernel_rfl) ?_
        try simp only [List.append_eq, List.cons_append, List.nil_append]
        repeat (go_big_quiet_step (fail))
        refine wpQuiet_nil ?_
        intro v
        have BV := Lib.hid (BR.out.trans (v.below.mono BR.out.size))
        go_wp2
        go_roundw
        case rel => exact ⟨k + 1, by omega, by go_num, (fun j y hj hy => (Nat.lt_or_eq_of_le (Nat.lt_succ_iff.1 hj)).elim (fun h => HNO.out j y h hy) (fun h => by subst h; rw [HQ.out] at hy; injection hy with hy; subst hy; exact HD.out)), BV.out⟩
        case measure => simp [intOf] <;> omega
      · obtain ⟨h0, h1, h2, h3, hd⟩ := hqc
        rw [h0] at zz0
        rw [h1] at zz1
        rw [h2] at zz2
        rw [h3] at zz3
        clear h0 h1 h2 h3
        have e1 : (q.ch.sz == ch.sz) = false := by rw [beq_eq_false_iff_ne]; exact hd
        have e3 : ¬ q.ch.sz = ch.sz := hd
        have HD := Lib.hid (show decide (q.ch = ch) = false from decide_eq_false (fun h => hd (by rw [h]))); clear hd
        go_wp2_with fail
        refine region_ext (by kernel_rfl) (by kernel_rfl) ?_
        try simp only [List.append_eq, List.cons_append, List.nil_append]
        repeat (go_big_quiet_step (fail))
        refine wpQuiet_nil ?_
        intro v
        have BV := Lib.hid (BR.out.trans (v.below.mono BR.out.size))
        go_wp2
        go_roundw
        case rel => exact ⟨k + 1, by omega, by go_num, (fun j y hj hy => (Nat.lt_or_eq_of_le (Nat.lt_succ_iff.1 hj)).elim (fun h => HNO.out j y h hy) (fun h => by subst h; rw [HQ.out] at hy; injection hy with hy; subst hy; exact HD.out)), BV.out⟩
        case measure => simp [intOf] <;> omega
    · have hkn : nq = k := by omega
      subst hkn
      have HR := Lib.hid (show queueI ps pn qs ch = -1 by
        have : queueP ps pn qs ch = none := by unfold queueP; rw [find_none (fun q : Qu => decide (q.ch = ch)) qs (fun j q hq => HNO.out j q (by rw [← HNQ.out]; exact (List.getElem?_eq_some_iff.1 hq).1) hq)]
        unfold queueI; rw [this]; rfl)
      go_wp2_with fail
      go_ret
      exact ⟨by rw [HR.out]; rfl, HB.out.trans (BR.out.mono HB.out.size)⟩
end Go.Proofs.Ytnfjkpeifleogaa.mv
