/- Moves: which partitions and which channels are kept; no condition. -/
import Derived.Test.YtnfjkpeifleogaaRows
import Derived.Test.YtnfjkpeifleogaaMvF
namespace Go.Proofs.Ytnfjkpeifleogaa.mv
open Go Go.ChangeShapes Go.WideShapes Go.ChangeAt Go.RowKit Go.Proofs.Ytnfjkpeifleogaa.rows
theorem info_int : (Try.prog.info? 3).map (fun i => (i.zero, i.size, i.bytes)) = some (some (.int .i64 0), 1, 8) := by kernel_rfl
def keptL (ps : List Pt) (pn : List Pn) : List Int := (pn.filter fun p => (keptP ps p).isSome).map (·.id)
def chanL (ps : List Pt) (pn : List Pn) (qs : List Qu) (cs : List Ch) : List Int := (cs.filter fun c => (queueP ps pn qs c).isSome).map (·.id)
/-- A row of ints. -/
def IOut (l : List Int) (w : World) (e : Ending) (w' : World) : Prop := Below w.heap.size w w' ∧ ∃ A c, e = .returned (.slice A l.length c) ∧ Rd w' A (ints .i64 l)
theorem filter_take_some {α : Type} (f : α → Bool) (l : List α) (k : Nat) (x : α) (h : l[k]? = some x) (hf : f x = true) : (l.take (k + 1)).filter f = (l.take k).filter f ++ [x] := by
  rw [List.take_add_one, h]; simp [List.filter_append, hf]
theorem filter_take_none {α : Type} (f : α → Bool) (l : List α) (k : Nat) (x : α) (h : l[k]? = some x) (hf : f x = false) : (l.take (k + 1)).filter f = (l.take k).filter f := by
  rw [List.take_add_one, h]; simp [List.filter_append, hf]
set_option maxRecDepth 100000 in
set_option maxHeartbeats 8000000 in
theorem keptIds (fr : Int) (ps : List Pt) (pn : List Pn) (qs : List Qu) (cs : List Ch) (Ap Aq Aw An Ac : Option Addr) (np cp nq cq nw cw nn cn nc cc : Nat) (hnp : ps.length = np) (hnn : pn.length = nn) (hnq : qs.length = nq) (hnc : cs.length = nc) (h63 : np ≤ 1000000) (h632 : nn ≤ 1000000) (h633 : nq ≤ 1000000) (h634 : nc ≤ 1000000) (hml : ∀ x ∈ ps, x.mem.length ≤ 1000000) (hqm : ∀ q ∈ qs, q.msgs.length ≤ 1000000 ∧ ∀ m ∈ q.msgs, m.length ≤ 1000000) (w : World) (h : Pts w Ap ps) (h2 : Pns w An pn) (h3 : Qus w Aq qs) (h4 : Rd w Ac (chCells cs)) :
    Calls Try.prog 11 #[.agg #[.int .i64 fr, .slice Ap np cp, .slice Aq nq cq], .agg #[.slice Aw nw cw, .slice An nn cn, .slice Ac nc cc]] w (IOut (keptL ps pn) w) := by
  obtain ⟨i0, hi, hz0, hz1, hz2⟩ := info_parts info_int
  have hB2 := (((Below.refl w.heap.size w).alloc (Nat.le_refl _) (.cells #[.int .i64 fr, .slice Ap np cp, .slice Aq nq cq] 25)).alloc (by simp) (.cells #[.slice Aw nw cw, .slice An nn cn, .slice Ac nc cc] 30))
  have hs2 : ((w.alloc (.cells #[.int .i64 fr, .slice Ap np cp, .slice Aq nq cq] 25)).alloc (.cells #[.slice Aw nw cw, .slice An nn cn, .slice Ac nc cc] 30)).heap.size = w.heap.size + 2 := by simp
  have G0 := Lib.hid (blk_alloc (blk_new w #[.int .i64 fr, .slice Ap np cp, .slice Aq nq cq] 25) (.cells #[.slice Aw nw cw, .slice An nn cn, .slice Ac nc cc] 30))
  have G1 := Lib.hid (show ((w.alloc (.cells #[.int .i64 fr, .slice Ap np cp, .slice Aq nq cq] 25)).alloc (.cells #[.slice Aw nw cw, .slice An nn cn, .slice Ac nc cc] 30)).heap[w.heap.size + 1]? = some (.cells #[.slice Aw nw cw, .slice An nn cn, .slice Ac nc cc] 30 (0, 0)) by have := blk_new (w.alloc (.cells #[.int .i64 fr, .slice Ap np cp, .slice Aq nq cq] 25)) #[.slice Aw nw cw, .slice An nn cn, .slice Ac nc cc] 30; simpa using this)
  have TK := fun (p : Pn) (Ai : Option Addr) (ni ci : Nat) (hni : p.img.length = ni) (W : World) (g : Pts W Ap ps) => kept fr ps Ap Aq Ai np cp nq cq ni ci p hni hnp h63 hml W g
  have TQ := fun (c : Ch) (W : World) (g : Pts W Ap ps) (g2 : Pns W An pn) (g3 : Qus W Aq qs) => queue fr ps pn qs c Ap Aq Aw An Ac np cp nq cq nw cw nn cn nc cc hnp hnn hnq h63 h632 h633 hml hqm W g g2 g3
  have HTK0 := Lib.hid TK; have HTQ0 := Lib.hid TQ
  have H1 := Lib.hid h; have H2 := Lib.hid h2; have H3 := Lib.hid h3; have H4 := Lib.hid h4; have HB2 := Lib.hid hB2; have HS2 := Lib.hid hs2
  have HNN := Lib.hid hnn; have HNC := Lib.hid hnc
  have hnni : (nn : Int) ≤ 1000000 := by omega
  have hnci : (nc : Int) ≤ 1000000 := by omega
  have g1 := blk_cell G1.out 1
  clear TK TQ h h2 h3 h4 hB2 hs2 hnp hnn hnq hnc hml hqm
  go_enter Try.func11, Try.ntmps11
  go_wp2_with fail
  clear g1
  generalize ((w.alloc (.cells #[.int .i64 fr, .slice Ap np cp, .slice Aq nq cq] 25)).alloc (.cells #[.slice Aw nw cw, .slice An nn cn, .slice Ac nc cc] 30)) = wb at *
  go_loopw [5, 13] (fun v iv wr => ∃ k : Nat, k ≤ nn ∧ iv = .int .i64 k ∧ ∃ m, (((pn.take k).filter fun p => (keptP ps p).isSome).map (·.id)).length = m ∧ wr.ownsRow (w.heap.size + 2) 3 1 v m (ints .i64 (((pn.take k).filter fun p => (keptP ps p).isSome).map (·.id))) ∧ Below (w.heap.size + 2) wb wr) (fun _ iv _ => nn - (intOf iv).toNat)
  case atStart => exact ⟨0, Nat.zero_le _, rfl, 0, by simp, by simpa [ints] using World.ownsRow_nil _ _ _ _, Below.refl _ _⟩
  case round =>
    obtain ⟨k, hk, rfl, m, hm, ho, hb⟩ := hrel
    have hmk : m ≤ k := by rw [← hm]; simp only [List.length_map]; exact Nat.le_trans (List.length_filter_le _ _) (by rw [List.length_take]; omega)
    obtain ⟨Av, cv, rfl, _, hpv⟩ := own_form ho
    have hz := hb.size
    have HM := Lib.hid hm
    have HB := Lib.hid hb; have HO := Lib.hid ho
    have hzw : w.heap.size + 2 ≤ wr.heap.size := by rw [HS2.out] at hz; exact hz
    have BW0 := Lib.hid (HB2.out.trans (hb.mono (Nat.le_add_right _ _)))
    have Sr := Lib.hid (blk_below G0.out hb (by omega)); have Cr := Lib.hid (blk_below G1.out hb (by omega))
    clear hb ho hm
    by_cases hkl : k < nn
    · have hki : (k : Int) < (nn : Int) := by omega
      have hk0 : (0 : Int) ≤ (k : Int) := by omega
      clear hpv
      obtain ⟨b, off, rfl, hblt⟩ := Rws.addr pn_len (by decide) H2.out (by rw [HNN.out]; omega)
      obtain ⟨p, hp⟩ : ∃ p, pn[k]? = some p := ⟨_, List.getElem?_eq_getElem (by rw [HNN.out]; exact hkl)⟩
      obtain ⟨Ai, ci, hin, hc⟩ := Rws.at pn_len H2.out hp
      obtain ⟨ni, hni⟩ : ∃ ni, p.img.length = ni := ⟨_, rfl⟩
      have c0 : wr.cell? ⟨b, off + k * 5, none⟩ = some (.int .i64 p.id) := (BW0.out.cell (p := ⟨b, off + k * 5, none⟩) hblt).trans (hc 0 _ rfl)
      have c1 : wr.cell? ⟨b, off + k * 5 + 1, none⟩ = some (.int .i64 p.base) := (BW0.out.cell (p := ⟨b, off + k * 5 + 1, none⟩) hblt).trans (hc 1 _ rfl)
      have c2 : wr.cell? ⟨b, off + k * 5 + 2, none⟩ = some (.int .i64 p.size) := (BW0.out.cell (p := ⟨b, off + k * 5 + 2, none⟩) hblt).trans (hc 2 _ rfl)
      have c3 : wr.cell? ⟨b, off + k * 5 + 3, none⟩ = some (.bool p.keep) := (BW0.out.cell (p := ⟨b, off + k * 5 + 3, none⟩) hblt).trans (hc 3 _ rfl)
      have c4 : wr.cell? ⟨b, off + k * 5 + 4, none⟩ = some (.slice Ai ni ci) := (BW0.out.cell (p := ⟨b, off + k * 5 + 4, none⟩) hblt).trans (by rw [← hni]; exact hc 4 _ rfl)
      have HTK1 := Lib.hid (HTK0.out p Ai ni ci hni)
      have HP := Lib.hid hp
      clear hp hc hin hni
      have s0 : ∀ o, (wr.alloc o).cell? ⟨w.heap.size, 0, none⟩ = some (.int .i64 fr) := fun o => Lib.cell?_alloc_marked o (blk_cell Sr.out 0)
      have s1 : ∀ o, (wr.alloc o).cell? ⟨w.heap.size, 1, none⟩ = some (.slice Ap np cp) := fun o => Lib.cell?_alloc_marked o (blk_cell Sr.out 1)
      have s2 : ∀ o, (wr.alloc o).cell? ⟨w.heap.size, 2, none⟩ = some (.slice Aq nq cq) := fun o => Lib.cell?_alloc_marked o (blk_cell Sr.out 2)
      have BA := Lib.hid ((Below.refl wr.heap.size wr).alloc (Nat.le_refl _) (.cells #[.int .i64 p.id, .int .i64 p.base, .int .i64 p.size, .bool p.keep, .slice Ai ni ci] 40))
      have BW1 := Lib.hid (BW0.out.alloc BW0.out.size (.cells #[.int .i64 p.id, .int .i64 p.base, .int .i64 p.size, .bool p.keep, .slice Ai ni ci] 40))
      have P1 := Lib.hid (blk_new wr #[.int .i64 p.id, .int .i64 p.base, .int .i64 p.size, .bool p.keep, .slice Ai ni ci] 40)
      cases hkp : keptP ps p with
      | none =>
        rw [hkp] at HTK1
        have HF := Lib.hid (show (fun p => (keptP ps p).isSome) p = false by simp [hkp])
        clear hkp
        go_wp2_with fail
        refine (HTK1.out _ (H1.out.below BW1.out)).mono ?_
        rintro e w4 ⟨b4, rfl⟩
        have z4 : wr.heap.size + 1 ≤ w4.heap.size := by have := b4.size; simpa using this
        have BW := Lib.hid ((BA.out.trans (b4.mono (by simp))).alloc (by omega) (.cells #[.int .i64 0, .int .i64 0, .bool false, .int .u32 0, .int .u32 0, .int .u32 0, .int .u32 0, .int .u32 0, .int .u32 0, .int .u32 0, .int .u32 0, .int .u32 0, .int .u8 0, .slice none 0 0] 44))
        have BIG := Lib.hid (HB.out.trans (BW.out.mono (by omega)))
        have HO4 := Lib.hid (own_below HO.out BW.out)

        clear b4  s0 s1 s2 c0 c1 c2 c3 c4
        go_wp2_with fail
        go_roundw
        case rel => exact ⟨k + 1, by omega, by go_num, m, by rw [filter_take_none _ _ _ _ HP.out HF.out]; exact HM.out, by rw [filter_take_none _ _ _ _ HP.out HF.out]; exact HO4.out, BIG.out⟩
        case measure => simp [intOf]; omega
      | some x =>
        rw [hkp] at HTK1
        have HF := Lib.hid (show (fun p => (keptP ps p).isSome) p = true by simp [hkp])
        clear hkp
        go_wp2_with fail
        refine (HTK1.out _ (H1.out.below BW1.out)).mono ?_
        rintro e w4 ⟨b4, A9, c9, rfl, _⟩
        have z4 : wr.heap.size + 1 ≤ w4.heap.size := by have := b4.size; simpa using this
        have BW := Lib.hid ((BA.out.trans (b4.mono (by simp))).alloc (by omega) (.cells #[.int .i64 x.id, .int .i64 x.size, .bool x.keep, .int .u32 x.r0, .int .u32 x.r1, .int .u32 x.r2, .int .u32 x.r3, .int .u32 x.r4, .int .u32 x.r5, .int .u32 x.r6, .int .u32 x.r7, .int .u32 x.pc, .int .u8 x.st, .slice A9 x.mem.length c9] 44))
        have BIG := Lib.hid (HB.out.trans (BW.out.mono (by omega)))
        have HO4 := Lib.hid (own_below HO.out BW.out)

        have q0 : ∀ o, (w4.alloc o).cell? ⟨wr.heap.size, 0, none⟩ = some (.int .i64 p.id) := fun o => Lib.cell?_alloc_marked o (blk_cell (blk_below P1.out b4 (by simp)) 0)
        have HCAT := Lib.hid (show ints .i64 ((((pn.take k).filter fun p => (keptP ps p).isSome).map (·.id))) ++ [.int .i64 p.id] = ints .i64 (((pn.take (k + 1)).filter fun p => (keptP ps p).isSome).map (·.id)) by rw [filter_take_some _ _ _ _ HP.out HF.out, List.map_append, ints_append]; rfl)
        have HLEN := Lib.hid (show (((pn.take (k + 1)).filter fun p => (keptP ps p).isSome).map (·.id)).length = m + 1 by rw [filter_take_some _ _ _ _ HP.out HF.out, List.map_append, List.length_append, HM.out]; rfl)
        have hsz := Nat.le_trans hzw (Nat.le_trans (Nat.le_of_lt (Nat.lt_of_lt_of_le (Nat.lt_succ_self _) z4)) (Nat.le_refl _))
        have hx63 : m ≤ 1000000 := by omega
        clear b4  s0 s1 s2 c0 c1 c2 c3 c4
        have RDN := Lib.hid (show Rd ((w4.alloc (.cells #[.int .i64 x.id, .int .i64 x.size, .bool x.keep, .int .u32 x.r0, .int .u32 x.r1, .int .u32 x.r2, .int .u32 x.r3, .int .u32 x.r4, .int .u32 x.r5, .int .u32 x.r6, .int .u32 x.r7, .int .u32 x.pc, .int .u8 x.st, .slice A9 x.mem.length c9] 44)).alloc (.cells #[.int .i64 p.id] 3)) (some ⟨w4.heap.size + 1, 0, none⟩) [.int .i64 p.id] from by
          have h := Rd.new (w4.alloc (.cells #[.int .i64 x.id, .int .i64 x.size, .bool x.keep, .int .u32 x.r0, .int .u32 x.r1, .int .u32 x.r2, .int .u32 x.r3, .int .u32 x.r4, .int .u32 x.r5, .int .u32 x.r6, .int .u32 x.r7, .int .u32 x.pc, .int .u8 x.st, .slice A9 x.mem.length c9] 44)) #[.int .i64 p.id] 3
          rwa [show (w4.alloc (.cells #[.int .i64 x.id, .int .i64 x.size, .bool x.keep, .int .u32 x.r0, .int .u32 x.r1, .int .u32 x.r2, .int .u32 x.r3, .int .u32 x.r4, .int .u32 x.r5, .int .u32 x.r6, .int .u32 x.r7, .int .u32 x.pc, .int .u8 x.st, .slice A9 x.mem.length c9] 44)).heap.size = w4.heap.size + 1 by simp] at h)
        generalize hxs : ints .i64 (((pn.take k).filter fun p => (keptP ps p).isSome).map (·.id)) = xs at *
        have HXL := Lib.hid (show xs.length = m by rw [← hxs, ints_length]; exact HM.out)
        clear hxs
        go_wp2_with (at_builtin; refine wpList_append_rd _ rfl (.tmp 24) (.tmp 27) 33 rfl (w.heap.size + 2) 3 i0 (.int .i64 0) 1 8 Try.underlying33 hi hz0 hz1 hz2 rfl (by decide) _ m xs rfl (HO4.out.alloc _) _ 1 _ [.int .i64 p.id] rfl rfl RDN.out ?c2 ?c3 ?c4 ?c5 ?_)
        case c2 => intro u hu; simp at hu; subst hu; rfl
        case c3 => unfold maxLen; omega
        case c4 => omega
        case c5 => simp; omega
        intro v5 w5 hown5 hg5
        have B5 := Lib.hid (below_own (B := w.heap.size + 2) (BIG.out.alloc (by have := BW.out.size; omega) _) (HO4.out.alloc _) hg5 (by have := BW.out.size; simp; omega))
        rw [HCAT.out] at hown5
        have HO5 := Lib.hid hown5
        obtain ⟨A5, c5, hv5, _, _⟩ := own_form hown5
        subst hv5
        clear hown5 hg5 q0
        go_wp2_with fail
        go_roundw
        case rel => exact ⟨k + 1, by omega, by go_num, m + 1, HLEN.out, HO5.out, B5.out⟩
        case measure => simp [intOf]; omega
    · have hki : ¬ (k : Int) < (nn : Int) := by omega
      have hkn : nn = k := by omega
      subst hkn
      have HALL := Lib.hid (show (((pn.take nn).filter fun p => (keptP ps p).isSome).map (·.id)) = keptL ps pn by rw [List.take_of_length_le (by rw [HNN.out]; exact Nat.le_refl _)]; rfl)
      go_wp2_with fail
      go_ret
      refine ⟨BW0.out, Av, cv, by rw [← HALL.out, HM.out]; rfl, ?_⟩
      rw [← HALL.out]
      exact hpv
set_option maxRecDepth 100000 in
set_option maxHeartbeats 8000000 in
theorem chanIds (fr : Int) (ps : List Pt) (pn : List Pn) (qs : List Qu) (cs : List Ch) (Ap Aq Aw An Ac : Option Addr) (np cp nq cq nw cw nn cn nc cc : Nat) (hnp : ps.length = np) (hnn : pn.length = nn) (hnq : qs.length = nq) (hnc : cs.length = nc) (h63 : np ≤ 1000000) (h632 : nn ≤ 1000000) (h633 : nq ≤ 1000000) (h634 : nc ≤ 1000000) (hml : ∀ x ∈ ps, x.mem.length ≤ 1000000) (hqm : ∀ q ∈ qs, q.msgs.length ≤ 1000000 ∧ ∀ m ∈ q.msgs, m.length ≤ 1000000) (w : World) (h : Pts w Ap ps) (h2 : Pns w An pn) (h3 : Qus w Aq qs) (h4 : Rd w Ac (chCells cs)) :
    Calls Try.prog 20 #[.agg #[.int .i64 fr, .slice Ap np cp, .slice Aq nq cq], .agg #[.slice Aw nw cw, .slice An nn cn, .slice Ac nc cc]] w (IOut (chanL ps pn qs cs) w) := by
  obtain ⟨i0, hi, hz0, hz1, hz2⟩ := info_parts info_int
  have hB2 := (((Below.refl w.heap.size w).alloc (Nat.le_refl _) (.cells #[.int .i64 fr, .slice Ap np cp, .slice Aq nq cq] 25)).alloc (by simp) (.cells #[.slice Aw nw cw, .slice An nn cn, .slice Ac nc cc] 30))
  have hs2 : ((w.alloc (.cells #[.int .i64 fr, .slice Ap np cp, .slice Aq nq cq] 25)).alloc (.cells #[.slice Aw nw cw, .slice An nn cn, .slice Ac nc cc] 30)).heap.size = w.heap.size + 2 := by simp
  have G0 := Lib.hid (blk_alloc (blk_new w #[.int .i64 fr, .slice Ap np cp, .slice Aq nq cq] 25) (.cells #[.slice Aw nw cw, .slice An nn cn, .slice Ac nc cc] 30))
  have G1 := Lib.hid (show ((w.alloc (.cells #[.int .i64 fr, .slice Ap np cp, .slice Aq nq cq] 25)).alloc (.cells #[.slice Aw nw cw, .slice An nn cn, .slice Ac nc cc] 30)).heap[w.heap.size + 1]? = some (.cells #[.slice Aw nw cw, .slice An nn cn, .slice Ac nc cc] 30 (0, 0)) by have := blk_new (w.alloc (.cells #[.int .i64 fr, .slice Ap np cp, .slice Aq nq cq] 25)) #[.slice Aw nw cw, .slice An nn cn, .slice Ac nc cc] 30; simpa using this)
  have TK := fun (p : Pn) (Ai : Option Addr) (ni ci : Nat) (hni : p.img.length = ni) (W : World) (g : Pts W Ap ps) => kept fr ps Ap Aq Ai np cp nq cq ni ci p hni hnp h63 hml W g
  have TQ := fun (c : Ch) (W : World) (g : Pts W Ap ps) (g2 : Pns W An pn) (g3 : Qus W Aq qs) => queue fr ps pn qs c Ap Aq Aw An Ac np cp nq cq nw cw nn cn nc cc hnp hnn hnq h63 h632 h633 hml hqm W g g2 g3
  have HTK0 := Lib.hid TK; have HTQ0 := Lib.hid TQ
  have H1 := Lib.hid h; have H2 := Lib.hid h2; have H3 := Lib.hid h3; have H4 := Lib.hid h4; have HB2 := Lib.hid hB2; have HS2 := Lib.hid hs2
  have HNN := Lib.hid hnn; have HNC := Lib.hid hnc
  have hnni : (nn : Int) ≤ 1000000 := by omega
  have hnci : (nc : Int) ≤ 1000000 := by omega
  have g1 := blk_cell G1.out 2
  clear TK TQ h h2 h3 h4 hB2 hs2 hnp hnn hnq hnc hml hqm
  go_enter Try.func20, Try.ntmps20
  go_wp2_with fail
  clear g1
  generalize ((w.alloc (.cells #[.int .i64 fr, .slice Ap np cp, .slice Aq nq cq] 25)).alloc (.cells #[.slice Aw nw cw, .slice An nn cn, .slice Ac nc cc] 30)) = wb at *
  go_loopw [5, 13] (fun v iv wr => ∃ k : Nat, k ≤ nc ∧ iv = .int .i64 k ∧ ∃ m, (((cs.take k).filter fun c => (queueP ps pn qs c).isSome).map (·.id)).length = m ∧ wr.ownsRow (w.heap.size + 2) 3 1 v m (ints .i64 (((cs.take k).filter fun c => (queueP ps pn qs c).isSome).map (·.id))) ∧ Below (w.heap.size + 2) wb wr) (fun _ iv _ => nc - (intOf iv).toNat)
  case atStart => exact ⟨0, Nat.zero_le _, rfl, 0, by simp, by simpa [ints] using World.ownsRow_nil _ _ _ _, Below.refl _ _⟩
  case round =>
    obtain ⟨k, hk, rfl, m, hm, ho, hb⟩ := hrel
    have hmk : m ≤ k := by rw [← hm]; simp only [List.length_map]; exact Nat.le_trans (List.length_filter_le _ _) (by rw [List.length_take]; omega)
    obtain ⟨Av, cv, rfl, _, hpv⟩ := own_form ho
    have hz := hb.size
    have HM := Lib.hid hm
    have HB := Lib.hid hb; have HO := Lib.hid ho
    have hzw : w.heap.size + 2 ≤ wr.heap.size := by rw [HS2.out] at hz; exact hz
    have BW0 := Lib.hid (HB2.out.trans (hb.mono (Nat.le_add_right _ _)))
    have Sr := Lib.hid (blk_below G0.out hb (by omega)); have Cr := Lib.hid (blk_below G1.out hb (by omega))
    clear hb ho hm
    by_cases hkl : k < nc
    · have hki : (k : Int) < (nc : Int) := by omega
      have hk0 : (0 : Int) ≤ (k : Int) := by omega
      clear hpv
      obtain ⟨b, off, rfl, hblt⟩ := H4.out.addr (by rw [chCells_length, HNC.out]; omega)
      obtain ⟨ch, hch⟩ : ∃ ch, cs[k]? = some ch := ⟨_, List.getElem?_eq_getElem (by rw [HNC.out]; exact hkl)⟩
      have hw := chCells_at cs k _ hch
      have hr := H4.out.below BW0.out
      have c0 := hr.cell hw.1; have c1 := hr.cell hw.2.1; have c2 := hr.cell hw.2.2.1; have c3 := hr.cell hw.2.2.2.1; have c4 := hr.cell hw.2.2.2.2
      rw [← Nat.add_assoc] at c1 c2 c3 c4
      have HP := Lib.hid hch
      have HTQ1 := Lib.hid (HTQ0.out ch)
      clear hch hw hr
      have s0 : ∀ o, (wr.alloc o).cell? ⟨w.heap.size, 0, none⟩ = some (.int .i64 fr) := fun o => Lib.cell?_alloc_marked o (blk_cell Sr.out 0)
      have s1 : ∀ o, (wr.alloc o).cell? ⟨w.heap.size, 1, none⟩ = some (.slice Ap np cp) := fun o => Lib.cell?_alloc_marked o (blk_cell Sr.out 1)
      have s2 : ∀ o, (wr.alloc o).cell? ⟨w.heap.size, 2, none⟩ = some (.slice Aq nq cq) := fun o => Lib.cell?_alloc_marked o (blk_cell Sr.out 2)
      have f0 : ∀ o, (wr.alloc o).cell? ⟨w.heap.size + 1, 0, none⟩ = some (.slice Aw nw cw) := fun o => Lib.cell?_alloc_marked o (blk_cell Cr.out 0)
      have f1 : ∀ o, (wr.alloc o).cell? ⟨w.heap.size + 1, 1, none⟩ = some (.slice An nn cn) := fun o => Lib.cell?_alloc_marked o (blk_cell Cr.out 1)
      have f2 : ∀ o, (wr.alloc o).cell? ⟨w.heap.size + 1, 2, none⟩ = some (.slice (some ⟨b, off, none⟩) nc cc) := fun o => Lib.cell?_alloc_marked o (blk_cell Cr.out 2)
      have BA := Lib.hid ((Below.refl wr.heap.size wr).alloc (Nat.le_refl _) (.cells #[.int .i64 ch.id, .int .i64 ch.fr, .int .i64 ch.to, .int .i64 ch.cap, .int .i64 ch.sz] 50))
      have BW1 := Lib.hid (BW0.out.alloc BW0.out.size (.cells #[.int .i64 ch.id, .int .i64 ch.fr, .int .i64 ch.to, .int .i64 ch.cap, .int .i64 ch.sz] 50))
      have P1 := Lib.hid (blk_new wr #[.int .i64 ch.id, .int .i64 ch.fr, .int .i64 ch.to, .int .i64 ch.cap, .int .i64 ch.sz] 50)
      have HTQ2 := Lib.hid (HTQ1.out _ (H1.out.below BW1.out) (H2.out.below BW1.out) (H3.out.below BW1.out))
      cases hkp : queueP ps pn qs ch with
      | none =>
        rw [hkp] at HTQ2
        have HF := Lib.hid (show (fun c => (queueP ps pn qs c).isSome) ch = false by simp [hkp])
        clear hkp
        go_wp2_with fail
        refine HTQ2.out.mono ?_
        rintro e w4 ⟨b4, rfl⟩
        have z4 : wr.heap.size + 1 ≤ w4.heap.size := by have := b4.size; simpa using this
        have BW := Lib.hid ((BA.out.trans (b4.mono (by simp))).alloc (by omega) (.cells #[.int .i64 0, .int .i64 0, .int .i64 0, .int .i64 0, .int .i64 0, .slice none 0 0] 53))
        have BIG := Lib.hid (HB.out.trans (BW.out.mono (by omega)))
        have HO4 := Lib.hid (own_below HO.out BW.out)

        clear b4  s0 s1 s2 f0 f1 f2 c0 c1 c2 c3 c4
        go_wp2_with fail
        go_roundw
        case rel => exact ⟨k + 1, by omega, by go_num, m, by rw [filter_take_none _ _ _ _ HP.out HF.out]; exact HM.out, by rw [filter_take_none _ _ _ _ HP.out HF.out]; exact HO4.out, BIG.out⟩
        case measure => simp [intOf]; omega
      | some ls =>
        rw [hkp] at HTQ2
        have HF := Lib.hid (show (fun c => (queueP ps pn qs c).isSome) ch = true by simp [hkp])
        clear hkp
        go_wp2_with fail
        refine HTQ2.out.mono ?_
        rintro e w4 ⟨b4, A9, c9, rfl, _, _, _⟩
        have z4 : wr.heap.size + 1 ≤ w4.heap.size := by have := b4.size; simpa using this
        have BW := Lib.hid ((BA.out.trans (b4.mono (by simp))).alloc (by omega) (.cells #[.int .i64 ch.id, .int .i64 ch.fr, .int .i64 ch.to, .int .i64 ch.cap, .int .i64 ch.sz, .slice A9 ls.length c9] 53))
        have BIG := Lib.hid (HB.out.trans (BW.out.mono (by omega)))
        have HO4 := Lib.hid (own_below HO.out BW.out)

        have q0 : ∀ o, (w4.alloc o).cell? ⟨wr.heap.size, 0, none⟩ = some (.int .i64 ch.id) := fun o => Lib.cell?_alloc_marked o (blk_cell (blk_below P1.out b4 (by simp)) 0)
        have HCAT := Lib.hid (show ints .i64 ((((cs.take k).filter fun c => (queueP ps pn qs c).isSome).map (·.id))) ++ [.int .i64 ch.id] = ints .i64 (((cs.take (k + 1)).filter fun c => (queueP ps pn qs c).isSome).map (·.id)) by rw [filter_take_some _ _ _ _ HP.out HF.out, List.map_append, ints_append]; rfl)
        have HLEN := Lib.hid (show (((cs.take (k + 1)).filter fun c => (queueP ps pn qs c).isSome).map (·.id)).length = m + 1 by rw [filter_take_some _ _ _ _ HP.out HF.out, List.map_append, List.length_append, HM.out]; rfl)
        have hsz := Nat.le_trans hzw (Nat.le_trans (Nat.le_of_lt (Nat.lt_of_lt_of_le (Nat.lt_succ_self _) z4)) (Nat.le_refl _))
        have hx63 : m ≤ 1000000 := by omega
        clear b4  s0 s1 s2 f0 f1 f2 c0 c1 c2 c3 c4
        have RDN := Lib.hid (show Rd ((w4.alloc (.cells #[.int .i64 ch.id, .int .i64 ch.fr, .int .i64 ch.to, .int .i64 ch.cap, .int .i64 ch.sz, .slice A9 ls.length c9] 53)).alloc (.cells #[.int .i64 ch.id] 3)) (some ⟨w4.heap.size + 1, 0, none⟩) [.int .i64 ch.id] from by
          have h := Rd.new (w4.alloc (.cells #[.int .i64 ch.id, .int .i64 ch.fr, .int .i64 ch.to, .int .i64 ch.cap, .int .i64 ch.sz, .slice A9 ls.length c9] 53)) #[.int .i64 ch.id] 3
          rwa [show (w4.alloc (.cells #[.int .i64 ch.id, .int .i64 ch.fr, .int .i64 ch.to, .int .i64 ch.cap, .int .i64 ch.sz, .slice A9 ls.length c9] 53)).heap.size = w4.heap.size + 1 by simp] at h)
        generalize hxs : ints .i64 (((cs.take k).filter fun c => (queueP ps pn qs c).isSome).map (·.id)) = xs at *
        have HXL := Lib.hid (show xs.length = m by rw [← hxs, ints_length]; exact HM.out)
        clear hxs
        go_wp2_with (at_builtin; refine wpList_append_rd _ rfl (.tmp 25) (.tmp 28) 33 rfl (w.heap.size + 2) 3 i0 (.int .i64 0) 1 8 Try.underlying33 hi hz0 hz1 hz2 rfl (by decide) _ m xs rfl (HO4.out.alloc _) _ 1 _ [.int .i64 ch.id] rfl rfl RDN.out ?c2 ?c3 ?c4 ?c5 ?_)
        case c2 => intro u hu; simp at hu; subst hu; rfl
        case c3 => unfold maxLen; omega
        case c4 => omega
        case c5 => simp; omega
        intro v5 w5 hown5 hg5
        have B5 := Lib.hid (below_own (B := w.heap.size + 2) (BIG.out.alloc (by have := BW.out.size; omega) _) (HO4.out.alloc _) hg5 (by have := BW.out.size; simp; omega))
        rw [HCAT.out] at hown5
        have HO5 := Lib.hid hown5
        obtain ⟨A5, c5, hv5, _, _⟩ := own_form hown5
        subst hv5
        clear hown5 hg5 q0
        go_wp2_with fail
        go_roundw
        case rel => exact ⟨k + 1, by omega, by go_num, m + 1, HLEN.out, HO5.out, B5.out⟩
        case measure => simp [intOf]; omega
    · have hki : ¬ (k : Int) < (nc : Int) := by omega
      have hkn : nc = k := by omega
      subst hkn
      have HALL := Lib.hid (show (((cs.take nc).filter fun c => (queueP ps pn qs c).isSome).map (·.id)) = chanL ps pn qs cs by rw [List.take_of_length_le (by rw [HNC.out]; exact Nat.le_refl _)]; rfl)
      go_wp2_with fail
      go_ret
      refine ⟨BW0.out, Av, cv, by rw [← HALL.out, HM.out]; rfl, ?_⟩
      rw [← HALL.out]
      exact hpv
end Go.Proofs.Ytnfjkpeifleogaa.mv
