/- Moves: a state under another configuration; no condition. -/
import Derived.Test.YtnfjkpeifleogaaRows
import Derived.Test.YtnfjkpeifleogaaMvE
namespace Go.Proofs.Ytnfjkpeifleogaa.mv
open Go Go.ChangeShapes Go.WideShapes Go.ChangeAt Go.RowKit Go.Proofs.Ytnfjkpeifleogaa.rows
theorem info_ptz : (Try.prog.info? 44).map (fun i => (i.zero, i.size, i.bytes)) = some (some (.agg #[.int .i64 0, .int .i64 0, .bool false, .int .u32 0, .int .u32 0, .int .u32 0, .int .u32 0, .int .u32 0, .int .u32 0, .int .u32 0, .int .u32 0, .int .u32 0, .int .u8 0, .slice none 0 0]), 14, 88) := by kernel_rfl
theorem info_quz : (Try.prog.info? 53).map (fun i => (i.zero, i.size, i.bytes)) = some (some (.agg #[.int .i64 0, .int .i64 0, .int .i64 0, .int .i64 0, .int .i64 0, .slice none 0 0]), 6, 64) := by kernel_rfl
theorem info_st : (Try.prog.info? 25).map (·.size) = some 3 := by kernel_rfl
def chCells (l : List Ch) : List Value := l.flatMap Ch.cells
theorem chCells_length (l : List Ch) : (chCells l).length = l.length * 5 := by
  induction l with
  | nil => rfl
  | cons x l ih => simp only [chCells, List.flatMap_cons, List.length_append, List.length_cons, Ch.cells, List.length_nil] at ih ⊢; omega
theorem chCells_at (l : List Ch) (k : Nat) (p : Ch) (h : l[k]? = some p) : (chCells l)[k * 5]? = some (.int .i64 p.id) ∧ (chCells l)[k * 5 + 1]? = some (.int .i64 p.fr) ∧ (chCells l)[k * 5 + 2]? = some (.int .i64 p.to) ∧ (chCells l)[k * 5 + 3]? = some (.int .i64 p.cap) ∧ (chCells l)[k * 5 + 4]? = some (.int .i64 p.sz) := by
  induction l generalizing k with
  | nil => simp at h
  | cons x l ih =>
    cases k with
    | zero => simp at h; subst h; simp [chCells, Ch.cells]
    | succ k =>
      have h' : l[k]? = some p := by simpa using h
      have := ih k h'
      simp only [chCells, List.flatMap_cons] at this ⊢
      rw [show (k + 1) * 5 = k * 5 + 5 by omega, show k * 5 + 5 + 1 = (k * 5 + 1) + 5 by omega, show k * 5 + 5 + 2 = (k * 5 + 2) + 5 by omega, show k * 5 + 5 + 3 = (k * 5 + 3) + 5 by omega, show k * 5 + 5 + 4 = (k * 5 + 4) + 5 by omega]
      rw [List.getElem?_append_right (by simp [Ch.cells]), List.getElem?_append_right (by simp [Ch.cells]), List.getElem?_append_right (by simp [Ch.cells]), List.getElem?_append_right (by simp [Ch.cells]), List.getElem?_append_right (by simp [Ch.cells])]
      simpa [Ch.cells] using this
def moveP (ps : List Pt) (pn : List Pn) : List Pt := pn.map fun p => (keptP ps p).getD (freshP p)
def moveQ (ps : List Pt) (pn : List Pn) (qs : List Qu) (cs : List Ch) : List Qu := cs.map fun c => ⟨c, (queueP ps pn qs c).getD []⟩
/-- What Move answers. -/
def MOut (fr : Int) (xs : List Pt) (ys : List Qu) (w : World) (e : Ending) (w' : World) : Prop :=
  Below w.heap.size w w' ∧ ∃ A c B d, e = .returned (.agg #[.int .i64 fr, .slice A xs.length c, .slice B ys.length d]) ∧ GrowP (w.heap.size + 4) w' (.slice A xs.length c) xs ∧ GrowQ (w.heap.size + 4) w' (.slice B ys.length d) ys
theorem KeptX.row {T0 : TypeId} {w : World} {g : Nat} {cs : Array Value} (hg : w.heap[g]? = some (.cells cs T0 (0, 0))) (cs' : Array Value) : KeptX T0 w (w.setRow g cs') :=
  ⟨by rw [size_row]; exact Nat.le_refl _, fun g' c2 t ht hg' => (setRow_other w g g' cs' fun e => by
    rw [e, hg] at hg'; injection hg' with hg'; injection hg' with _ h2; exact ht h2.symm).trans hg'⟩
theorem own_lo {w : World} {lo lo' : Nat} {e : TypeId} {size n : Nat} {v : Value} {xs : List Value} (h : w.ownsRow lo e size v n xs) (hl : lo' ≤ lo) : w.ownsRow lo' e size v n xs := by
  refine ⟨h.1, ?_⟩
  rcases h.2 with hn | ⟨g, cap, cur, rfl, hb0, rest⟩
  · exact .inl hn
  · exact .inr ⟨g, cap, cur, rfl, Nat.le_trans hl hb0, rest⟩
set_option maxRecDepth 100000 in
set_option maxHeartbeats 8000000 in
theorem move (fr : Int) (ps : List Pt) (pn : List Pn) (qs : List Qu) (cs : List Ch) (Ap Aq Aw An Ac : Option Addr) (np cp nq cq nw cw nn cn nc cc : Nat) (hnp : ps.length = np) (hnn : pn.length = nn) (hnq : qs.length = nq) (hnc : cs.length = nc) (h63 : np ≤ 1000000) (h632 : nn ≤ 1000000) (h633 : nq ≤ 1000000) (h634 : nc ≤ 1000000) (hml : ∀ x ∈ ps, x.mem.length ≤ 1000000) (hqm : ∀ q ∈ qs, q.msgs.length ≤ 1000000 ∧ ∀ m ∈ q.msgs, m.length ≤ 1000000) (w : World) (h : Pts w Ap ps) (h2 : Pns w An pn) (h3 : Qus w Aq qs) (h4 : Rd w Ac (chCells cs)) :
    Calls Try.prog 12 #[.agg #[.int .i64 fr, .slice Ap np cp, .slice Aq nq cq], .agg #[.slice Aw nw cw, .slice An nn cn, .slice Ac nc cc]] w (MOut fr (moveP ps pn) (moveQ ps pn qs cs) w) := by
  obtain ⟨i0, hi, hz0, hz1, hz2⟩ := info_parts info_ptz
  obtain ⟨j0, ji, jz0, jz1, jz2⟩ := info_parts info_quz
  have hB3 := ((((Below.refl w.heap.size w).alloc (Nat.le_refl _) (.cells #[.int .i64 fr, .slice Ap np cp, .slice Aq nq cq] 25)).alloc (by simp) (.cells #[.slice Aw nw cw, .slice An nn cn, .slice Ac nc cc] 30)).alloc (by simp; omega) (.cells #[.int .i64 0, .slice none 0 0, .slice none 0 0] 25))
  have hs3 : (((w.alloc (.cells #[.int .i64 fr, .slice Ap np cp, .slice Aq nq cq] 25)).alloc (.cells #[.slice Aw nw cw, .slice An nn cn, .slice Ac nc cc] 30)).alloc (.cells #[.int .i64 0, .slice none 0 0, .slice none 0 0] 25)).heap.size = w.heap.size + 3 := by simp
  have hB4 := hB3.alloc (by rw [hs3]; omega) (.cells #[.int .i64 fr, .slice none 0 0, .slice none 0 0] 25)
  have hs4 : ((((w.alloc (.cells #[.int .i64 fr, .slice Ap np cp, .slice Aq nq cq] 25)).alloc (.cells #[.slice Aw nw cw, .slice An nn cn, .slice Ac nc cc] 30)).alloc (.cells #[.int .i64 0, .slice none 0 0, .slice none 0 0] 25)).alloc (.cells #[.int .i64 fr, .slice none 0 0, .slice none 0 0] 25)).heap.size = w.heap.size + 4 := by simp
  have G0 := Lib.hid (blk_alloc (blk_alloc (blk_alloc (blk_new w #[.int .i64 fr, .slice Ap np cp, .slice Aq nq cq] 25) (.cells #[.slice Aw nw cw, .slice An nn cn, .slice Ac nc cc] 30)) (.cells #[.int .i64 0, .slice none 0 0, .slice none 0 0] 25)) (.cells #[.int .i64 fr, .slice none 0 0, .slice none 0 0] 25))
  have G1 := Lib.hid (blk_alloc (blk_alloc (show ((w.alloc (.cells #[.int .i64 fr, .slice Ap np cp, .slice Aq nq cq] 25)).alloc (.cells #[.slice Aw nw cw, .slice An nn cn, .slice Ac nc cc] 30)).heap[w.heap.size + 1]? = some (.cells #[.slice Aw nw cw, .slice An nn cn, .slice Ac nc cc] 30 (0, 0)) by have := blk_new (w.alloc (.cells #[.int .i64 fr, .slice Ap np cp, .slice Aq nq cq] 25)) #[.slice Aw nw cw, .slice An nn cn, .slice Ac nc cc] 30; simpa using this) (.cells #[.int .i64 0, .slice none 0 0, .slice none 0 0] 25)) (.cells #[.int .i64 fr, .slice none 0 0, .slice none 0 0] 25))
  have G2 := Lib.hid (blk_alloc (show (((w.alloc (.cells #[.int .i64 fr, .slice Ap np cp, .slice Aq nq cq] 25)).alloc (.cells #[.slice Aw nw cw, .slice An nn cn, .slice Ac nc cc] 30)).alloc (.cells #[.int .i64 0, .slice none 0 0, .slice none 0 0] 25)).heap[w.heap.size + 2]? = some (.cells #[.int .i64 0, .slice none 0 0, .slice none 0 0] 25 (0, 0)) by have := blk_new ((w.alloc (.cells #[.int .i64 fr, .slice Ap np cp, .slice Aq nq cq] 25)).alloc (.cells #[.slice Aw nw cw, .slice An nn cn, .slice Ac nc cc] 30)) #[.int .i64 0, .slice none 0 0, .slice none 0 0] 25; simpa using this) (.cells #[.int .i64 fr, .slice none 0 0, .slice none 0 0] 25))
  have G3 := Lib.hid (show ((((w.alloc (.cells #[.int .i64 fr, .slice Ap np cp, .slice Aq nq cq] 25)).alloc (.cells #[.slice Aw nw cw, .slice An nn cn, .slice Ac nc cc] 30)).alloc (.cells #[.int .i64 0, .slice none 0 0, .slice none 0 0] 25)).alloc (.cells #[.int .i64 fr, .slice none 0 0, .slice none 0 0] 25)).heap[w.heap.size + 3]? = some (.cells #[.int .i64 fr, .slice none 0 0, .slice none 0 0] 25 (0, 0)) by have := blk_new (((w.alloc (.cells #[.int .i64 fr, .slice Ap np cp, .slice Aq nq cq] 25)).alloc (.cells #[.slice Aw nw cw, .slice An nn cn, .slice Ac nc cc] 30)).alloc (.cells #[.int .i64 0, .slice none 0 0, .slice none 0 0] 25)) #[.int .i64 fr, .slice none 0 0, .slice none 0 0] 25; rwa [hs3] at this)
  have TK := fun (p : Pn) (Ai : Option Addr) (ni ci : Nat) (hni : p.img.length = ni) (W : World) (g : Pts W Ap ps) => kept fr ps Ap Aq Ai np cp nq cq ni ci p hni hnp h63 hml W g
  have TQ := fun (c : Ch) (W : World) (g : Pts W Ap ps) (g2 : Pns W An pn) (g3 : Qus W Aq qs) => queue fr ps pn qs c Ap Aq Aw An Ac np cp nq cq nw cw nn cn nc cc hnp hnn hnq h63 h632 h633 hml hqm W g g2 g3
  have HTK0 := Lib.hid TK; have HTQ0 := Lib.hid TQ
  have H1 := Lib.hid h; have H2 := Lib.hid h2; have H3 := Lib.hid h3; have H4 := Lib.hid h4; have HB4 := Lib.hid hB4; have HS4 := Lib.hid hs4
  have HNN := Lib.hid hnn; have HNC := Lib.hid hnc
  have hnni : (nn : Int) ≤ 1000000 := by omega
  have hnci : (nc : Int) ≤ 1000000 := by omega
  have HLP := Lib.hid (show (moveP ps pn).length = nn by simp [moveP, hnn]); have HLQ := Lib.hid (show (moveQ ps pn qs cs).length = nc by simp [moveQ, hnc])
  have g1 := blk_cell G1.out 1
  clear TK TQ h h2 h3 h4 hB3 hB4 hs3 hs4 hnp hnn hnq hnc hml hqm
  go_enter Try.func12, Try.ntmps12
  go_wp2_with fail
  clear g1
  generalize ((((w.alloc (.cells #[.int .i64 fr, .slice Ap np cp, .slice Aq nq cq] 25)).alloc (.cells #[.slice Aw nw cw, .slice An nn cn, .slice Ac nc cc] 30)).alloc (.cells #[.int .i64 0, .slice none 0 0, .slice none 0 0] 25)).alloc (.cells #[.int .i64 fr, .slice none 0 0, .slice none 0 0] 25)) = wb at *
  go_loopw [20] (fun iv wr => ∃ k : Nat, k ≤ nn ∧ iv = .int .i64 k ∧ ∃ v, wr.heap[w.heap.size + 3]? = some (.cells #[.int .i64 fr, v, .slice none 0 0] 25 (0, 0)) ∧ GrowP (w.heap.size + 4) wr v ((moveP ps pn).take k) ∧ Below (w.heap.size + 3) wb wr) (fun iv _ => nn - (intOf iv).toNat)
  case atStart => exact ⟨0, Nat.zero_le _, rfl, _, G3.out, by rw [List.take_zero]; exact GrowX.nil _ _, Below.refl _ _⟩
  case round =>
    obtain ⟨k, hk, rfl, v, ho, hg, hb⟩ := hrel
    have HQL := Lib.hid (show ((moveP ps pn).take k).length = k by rw [List.length_take, HLP.out]; omega)
    obtain ⟨Av, cv, rfl, hcv, _, hpv⟩ := hg.form
    rw [HQL.out] at ho hg hcv
    have hz := hb.size
    have HB := Lib.hid hb; have HG := Lib.hid hg; have HO := Lib.hid ho
    have hzw : w.heap.size + 4 ≤ wr.heap.size := by rw [HS4.out] at hz; exact hz
    have BW0 := Lib.hid (HB4.out.trans (hb.mono (Nat.le_add_right _ _)))
    have Sr := Lib.hid (blk_below G0.out hb (by omega)); have Cr := Lib.hid (blk_below G1.out hb (by omega)); have Rr := Lib.hid (blk_below G2.out hb (by omega))
    clear hb hg ho hpv
    by_cases hkl : k < nn
    · have hki : (k : Int) < (nn : Int) := by omega
      have hk0 : (0 : Int) ≤ (k : Int) := by omega
      obtain ⟨b, off, rfl, hblt⟩ := Rws.addr pn_len (by decide) H2.out (by rw [HNN.out]; omega)
      obtain ⟨p, hp⟩ : ∃ p, pn[k]? = some p := ⟨_, List.getElem?_eq_getElem (by rw [HNN.out]; exact hkl)⟩
      obtain ⟨Ai, ci, hin, hc⟩ := Rws.at pn_len H2.out hp
      obtain ⟨ni, hni⟩ : ∃ ni, p.img.length = ni := ⟨_, rfl⟩
      have c0 : wr.cell? ⟨b, off + k * 5, none⟩ = some (.int .i64 p.id) := (BW0.out.cell (p := ⟨b, off + k * 5, none⟩) hblt).trans (hc 0 _ rfl)
      have c1 : wr.cell? ⟨b, off + k * 5 + 1, none⟩ = some (.int .i64 p.base) := (BW0.out.cell (p := ⟨b, off + k * 5 + 1, none⟩) hblt).trans (hc 1 _ rfl)
      have c2 : wr.cell? ⟨b, off + k * 5 + 2, none⟩ = some (.int .i64 p.size) := (BW0.out.cell (p := ⟨b, off + k * 5 + 2, none⟩) hblt).trans (hc 2 _ rfl)
      have c3 : wr.cell? ⟨b, off + k * 5 + 3, none⟩ = some (.bool p.keep) := (BW0.out.cell (p := ⟨b, off + k * 5 + 3, none⟩) hblt).trans (hc 3 _ rfl)
      have c4 : wr.cell? ⟨b, off + k * 5 + 4, none⟩ = some (.slice Ai ni ci) := (BW0.out.cell (p := ⟨b, off + k * 5 + 4, none⟩) hblt).trans (by rw [← hni]; exact hc 4 _ rfl)
      have HIMG := Lib.hid hin.2.2; have HNI := Lib.hid hni
      have HTK1 := Lib.hid (HTK0.out p Ai ni ci hni)
      have HPK := Lib.hid (show (moveP ps pn)[k]? = some ((keptP ps p).getD (freshP p)) by unfold moveP; rw [List.getElem?_map, hp]; rfl)
      have BA := Lib.hid ((Below.refl wr.heap.size wr).alloc (Nat.le_refl _) (.cells #[.int .i64 p.id, .int .i64 p.base, .int .i64 p.size, .bool p.keep, .slice Ai ni ci] 40))
      have BW1 := Lib.hid (BW0.out.alloc BW0.out.size (.cells #[.int .i64 p.id, .int .i64 p.base, .int .i64 p.size, .bool p.keep, .slice Ai ni ci] 40))
      have P1 := Lib.hid (blk_new wr #[.int .i64 p.id, .int .i64 p.base, .int .i64 p.size, .bool p.keep, .slice Ai ni ci] 40)
      have s0 : ∀ o, (wr.alloc o).cell? ⟨w.heap.size, 0, none⟩ = some (.int .i64 fr) := fun o => Lib.cell?_alloc_marked o (blk_cell Sr.out 0)
      have s1 : ∀ o, (wr.alloc o).cell? ⟨w.heap.size, 1, none⟩ = some (.slice Ap np cp) := fun o => Lib.cell?_alloc_marked o (blk_cell Sr.out 1)
      have s2 : ∀ o, (wr.alloc o).cell? ⟨w.heap.size, 2, none⟩ = some (.slice Aq nq cq) := fun o => Lib.cell?_alloc_marked o (blk_cell Sr.out 2)
      clear hp hc hin hni
      cases hkp : keptP ps p with
      | some x =>
        rw [hkp] at HTK1 HPK
        have HTK := Lib.hid (show (moveP ps pn).take (k + 1) = (moveP ps pn).take k ++ [x] by rw [List.take_add_one, HPK.out]; rfl)
        clear hkp
        go_wp2_with fail
        refine (HTK1.out _ (H1.out.below BW1.out)).mono ?_
        rintro e w4 ⟨b4, A9, c9, rfl, hmsg⟩
        have z4 : wr.heap.size + 1 ≤ w4.heap.size := by have := b4.size; simpa using this
        have BW := Lib.hid ((BA.out.trans (b4.mono (by simp))).alloc (by omega) (.cells #[.int .i64 x.id, .int .i64 x.size, .bool x.keep, .int .u32 x.r0, .int .u32 x.r1, .int .u32 x.r2, .int .u32 x.r3, .int .u32 x.r4, .int .u32 x.r5, .int .u32 x.r6, .int .u32 x.r7, .int .u32 x.pc, .int .u8 x.st, .slice A9 x.mem.length c9] 44))
        have BIG := Lib.hid (HB.out.trans (BW.out.mono (by omega)))
        have HMSG := Lib.hid (show ownB (w.heap.size + 4) (w4.alloc (.cells #[.int .i64 x.id, .int .i64 x.size, .bool x.keep, .int .u32 x.r0, .int .u32 x.r1, .int .u32 x.r2, .int .u32 x.r3, .int .u32 x.r4, .int .u32 x.r5, .int .u32 x.r6, .int .u32 x.r7, .int .u32 x.pc, .int .u8 x.st, .slice A9 x.mem.length c9] 44)).heap.size (w4.alloc (.cells #[.int .i64 x.id, .int .i64 x.size, .bool x.keep, .int .u32 x.r0, .int .u32 x.r1, .int .u32 x.r2, .int .u32 x.r3, .int .u32 x.r4, .int .u32 x.r5, .int .u32 x.r6, .int .u32 x.r7, .int .u32 x.pc, .int .u8 x.st, .slice A9 x.mem.length c9] 44)) A9 c9 x from (MsgAt.below hmsg ((Below.refl w4.heap.size w4).alloc (Nat.le_refl _) _) (Nat.le_refl _)).mono (by simp; omega) (by simp))
        have OUTW := Lib.hid (blk_alloc (blk_below (blk_alloc HO.out (.cells #[.int .i64 p.id, .int .i64 p.base, .int .i64 p.size, .bool p.keep, .slice Ai ni ci] 40)) b4 (by simp; omega)) (.cells #[.int .i64 x.id, .int .i64 x.size, .bool x.keep, .int .u32 x.r0, .int .u32 x.r1, .int .u32 x.r2, .int .u32 x.r3, .int .u32 x.r4, .int .u32 x.r5, .int .u32 x.r6, .int .u32 x.r7, .int .u32 x.pc, .int .u8 x.st, .slice A9 x.mem.length c9] 44))
        have o1 : ∀ o, (w4.alloc o).cell? ⟨w.heap.size + 3, 1, none⟩ = some (.slice Av k cv) := fun o => Lib.cell?_alloc_marked o (blk_cell (blk_below (blk_alloc HO.out (.cells #[.int .i64 p.id, .int .i64 p.base, .int .i64 p.size, .bool p.keep, .slice Ai ni ci] 40)) b4 (by simp; omega)) 1)
        clear b4 hmsg s0 s1 s2 c0 c1 c2 c3 c4
        have hgw := HG.out.below BW.out
        obtain ⟨us, hus, hown, hms⟩ := hgw
        rw [HQL.out] at hown
        have HUS := Lib.hid hus; have HOWN := Lib.hid hown; have HMS := Lib.hid hms
        have hsz := Nat.le_trans hz BW.out.size
        have hwz := Nat.le_trans hzw BW.out.size
        have HUL := Lib.hid (show us.length = k by rw [← HQL.out, ← hus, List.length_map])
        have RDN := Lib.hid (show Rd ((w4.alloc (.cells #[.int .i64 x.id, .int .i64 x.size, .bool x.keep, .int .u32 x.r0, .int .u32 x.r1, .int .u32 x.r2, .int .u32 x.r3, .int .u32 x.r4, .int .u32 x.r5, .int .u32 x.r6, .int .u32 x.r7, .int .u32 x.pc, .int .u8 x.st, .slice A9 x.mem.length c9] 44)).alloc (.cells #[.int .i64 x.id, .int .i64 x.size, .bool x.keep, .int .u32 x.r0, .int .u32 x.r1, .int .u32 x.r2, .int .u32 x.r3, .int .u32 x.r4, .int .u32 x.r5, .int .u32 x.r6, .int .u32 x.r7, .int .u32 x.pc, .int .u8 x.st, .slice A9 x.mem.length c9] 44)) (some ⟨w4.heap.size + 1, 0, none⟩) #[.int .i64 x.id, .int .i64 x.size, .bool x.keep, .int .u32 x.r0, .int .u32 x.r1, .int .u32 x.r2, .int .u32 x.r3, .int .u32 x.r4, .int .u32 x.r5, .int .u32 x.r6, .int .u32 x.r7, .int .u32 x.pc, .int .u8 x.st, .slice A9 x.mem.length c9].toList from by
          have h := Rd.new (w4.alloc (.cells #[.int .i64 x.id, .int .i64 x.size, .bool x.keep, .int .u32 x.r0, .int .u32 x.r1, .int .u32 x.r2, .int .u32 x.r3, .int .u32 x.r4, .int .u32 x.r5, .int .u32 x.r6, .int .u32 x.r7, .int .u32 x.pc, .int .u8 x.st, .slice A9 x.mem.length c9] 44)) #[.int .i64 x.id, .int .i64 x.size, .bool x.keep, .int .u32 x.r0, .int .u32 x.r1, .int .u32 x.r2, .int .u32 x.r3, .int .u32 x.r4, .int .u32 x.r5, .int .u32 x.r6, .int .u32 x.r7, .int .u32 x.pc, .int .u8 x.st, .slice A9 x.mem.length c9] 44
          rwa [show (w4.alloc (.cells #[.int .i64 x.id, .int .i64 x.size, .bool x.keep, .int .u32 x.r0, .int .u32 x.r1, .int .u32 x.r2, .int .u32 x.r3, .int .u32 x.r4, .int .u32 x.r5, .int .u32 x.r6, .int .u32 x.r7, .int .u32 x.pc, .int .u8 x.st, .slice A9 x.mem.length c9] 44)).heap.size = w4.heap.size + 1 by first | rfl | simp] at h)
        clear hus hown hms
        go_wp2_with (at_builtin; refine wpList_append_rd _ rfl (.tmp 35) (.tmp 37) 22 rfl (w.heap.size + 4) 44 i0 (.agg #[.int .i64 0, .int .i64 0, .bool false, .int .u32 0, .int .u32 0, .int .u32 0, .int .u32 0, .int .u32 0, .int .u32 0, .int .u32 0, .int .u32 0, .int .u32 0, .int .u8 0, .slice none 0 0]) 14 88 Try.underlying22 hi hz0 hz1 hz2 rfl (by decide) _ k (flat Pt.cells us) rfl (HOWN.out.alloc _) _ 1 _ #[.int .i64 x.id, .int .i64 x.size, .bool x.keep, .int .u32 x.r0, .int .u32 x.r1, .int .u32 x.r2, .int .u32 x.r3, .int .u32 x.r4, .int .u32 x.r5, .int .u32 x.r6, .int .u32 x.r7, .int .u32 x.pc, .int .u8 x.st, .slice A9 x.mem.length c9].toList rfl rfl RDN.out ?d2 ?d3 ?d4 ?d5 ?_)
        case d2 => simp [Value.oneCell']
        case d3 => unfold maxLen; omega
        case d4 => omega
        case d5 => first | omega | (simp; omega)
        intro v5 w5 hown5 hg5
        have BA9 := Lib.hid ((Below.refl (w4.alloc (.cells #[.int .i64 x.id, .int .i64 x.size, .bool x.keep, .int .u32 x.r0, .int .u32 x.r1, .int .u32 x.r2, .int .u32 x.r3, .int .u32 x.r4, .int .u32 x.r5, .int .u32 x.r6, .int .u32 x.r7, .int .u32 x.pc, .int .u8 x.st, .slice A9 x.mem.length c9] 44)).heap.size (w4.alloc (.cells #[.int .i64 x.id, .int .i64 x.size, .bool x.keep, .int .u32 x.r0, .int .u32 x.r1, .int .u32 x.r2, .int .u32 x.r3, .int .u32 x.r4, .int .u32 x.r5, .int .u32 x.r6, .int .u32 x.r7, .int .u32 x.pc, .int .u8 x.st, .slice A9 x.mem.length c9] 44))).alloc (Nat.le_refl _) (.cells #[.int .i64 x.id, .int .i64 x.size, .bool x.keep, .int .u32 x.r0, .int .u32 x.r1, .int .u32 x.r2, .int .u32 x.r3, .int .u32 x.r4, .int .u32 x.r5, .int .u32 x.r6, .int .u32 x.r7, .int .u32 x.pc, .int .u8 x.st, .slice A9 x.mem.length c9] 44))
        have KX := Lib.hid (KeptX.grown (HOWN.out.alloc (.cells #[.int .i64 x.id, .int .i64 x.size, .bool x.keep, .int .u32 x.r0, .int .u32 x.r1, .int .u32 x.r2, .int .u32 x.r3, .int .u32 x.r4, .int .u32 x.r5, .int .u32 x.r6, .int .u32 x.r7, .int .u32 x.pc, .int .u8 x.st, .slice A9 x.mem.length c9] 44)) hg5)
        have OW := Lib.hid (blk_alloc OUTW.out (.cells #[.int .i64 x.id, .int .i64 x.size, .bool x.keep, .int .u32 x.r0, .int .u32 x.r1, .int .u32 x.r2, .int .u32 x.r3, .int .u32 x.r4, .int .u32 x.r5, .int .u32 x.r6, .int .u32 x.r7, .int .u32 x.pc, .int .u8 x.st, .slice A9 x.mem.length c9] 44))
        have O5 := Lib.hid (KX.out.2 _ _ _ (by decide) OW.out)
        have hb5 := below_own (B := w.heap.size + 3) ((BIG.out).alloc (by omega) (.cells #[.int .i64 x.id, .int .i64 x.size, .bool x.keep, .int .u32 x.r0, .int .u32 x.r1, .int .u32 x.r2, .int .u32 x.r3, .int .u32 x.r4, .int .u32 x.r5, .int .u32 x.r6, .int .u32 x.r7, .int .u32 x.pc, .int .u8 x.st, .slice A9 x.mem.length c9] 44)) (own_lo (HOWN.out.alloc _) (Nat.le_succ _)) hg5 (by first | omega | (simp; omega))
        have HG5 := Lib.hid (show GrowP (w.heap.size + 4) w5 v5 ((moveP ps pn).take (k + 1)) from by
          have h := GrowX.snoc (cs := Pt.cells) (own := ownB) (us := us) (u := (x, A9, c9)) (by rw [HUL.out]; exact HOWN.out.alloc (.cells #[.int .i64 x.id, .int .i64 x.size, .bool x.keep, .int .u32 x.r0, .int .u32 x.r1, .int .u32 x.r2, .int .u32 x.r3, .int .u32 x.r4, .int .u32 x.r5, .int .u32 x.r6, .int .u32 x.r7, .int .u32 x.pc, .int .u8 x.st, .slice A9 x.mem.length c9] 44)) (ownB_below _ _ _ _ _ _ HMSG.out BA9.out) (fun y hy => ownB_below _ _ _ _ _ _ (HMS.out y hy) BA9.out) (fun A c y hy => ownB_keptX (by decide) hy KX.out) (by rw [HUL.out]; exact hown5)
          rw [HUS.out] at h
          rw [HTK.out]
          exact h)
        have HB5 := Lib.hid hb5
        obtain ⟨A5, c5, hv5, _, _, _, _⟩ := own_form3s hown5
        subst hv5
        have o5 := blk_cell O5.out 1; have of5 := blk_frozen O5.out 1
        clear hown5 hg5 hb5
        go_wp2_with fail
        go_roundw
        case rel => exact ⟨k + 1, by omega, by go_num, _, blk_set O5.out 1 _, HG5.out.keptX (by decide) (by decide) (KeptX.set O5.out 1 _), HB5.out.setCell (p := ⟨w.heap.size + 3, 1, none⟩) (Nat.le_refl _) _⟩
        case measure => simp [intOf]; omega
      | none =>
        rw [hkp] at HTK1 HPK
        obtain ⟨x, hx⟩ : ∃ x, freshP p = x := ⟨_, rfl⟩
        have TF := fun (W : World) (g : Rd W Ai (bcs p.img)) => fresh p Ai ni ci HNI.out W g
        rw [hx] at TF HPK
        have HTF := Lib.hid TF
        have HTK := Lib.hid (show (moveP ps pn).take (k + 1) = (moveP ps pn).take k ++ [x] by rw [List.take_add_one, HPK.out]; rfl)
        clear hkp hx TF
        go_wp2_with fail
        refine (HTK1.out _ (H1.out.below BW1.out)).mono ?_
        rintro e w4 ⟨b4, rfl⟩
        have z4 : wr.heap.size + 1 ≤ w4.heap.size := by have := b4.size; simpa using this
        have P4 := Lib.hid (blk_below P1.out b4 (by simp))
        have BW4 := Lib.hid ((BA.out.trans (b4.mono (by simp))).alloc (by omega) (.cells #[.int .i64 0, .int .i64 0, .bool false, .int .u32 0, .int .u32 0, .int .u32 0, .int .u32 0, .int .u32 0, .int .u32 0, .int .u32 0, .int .u32 0, .int .u32 0, .int .u8 0, .slice none 0 0] 44))
        have X4 := Lib.hid (blk_new w4 #[.int .i64 0, .int .i64 0, .bool false, .int .u32 0, .int .u32 0, .int .u32 0, .int .u32 0, .int .u32 0, .int .u32 0, .int .u32 0, .int .u32 0, .int .u32 0, .int .u8 0, .slice none 0 0] 44)
        have OUT4 := Lib.hid (blk_alloc (blk_below (blk_alloc HO.out (.cells #[.int .i64 p.id, .int .i64 p.base, .int .i64 p.size, .bool p.keep, .slice Ai ni ci] 40)) b4 (by simp; omega)) (.cells #[.int .i64 0, .int .i64 0, .bool false, .int .u32 0, .int .u32 0, .int .u32 0, .int .u32 0, .int .u32 0, .int .u32 0, .int .u32 0, .int .u32 0, .int .u32 0, .int .u8 0, .slice none 0 0] 44))
        have I4 := Lib.hid ((HIMG.out.below BW0.out).below BW4.out)
        have p0 : ∀ o, (w4.alloc o).cell? ⟨wr.heap.size, 0, none⟩ = some (.int .i64 p.id) := fun o => Lib.cell?_alloc_marked o (blk_cell P4.out 0)
        have p1 : ∀ o, (w4.alloc o).cell? ⟨wr.heap.size, 1, none⟩ = some (.int .i64 p.base) := fun o => Lib.cell?_alloc_marked o (blk_cell P4.out 1)
        have p2 : ∀ o, (w4.alloc o).cell? ⟨wr.heap.size, 2, none⟩ = some (.int .i64 p.size) := fun o => Lib.cell?_alloc_marked o (blk_cell P4.out 2)
        have p3 : ∀ o, (w4.alloc o).cell? ⟨wr.heap.size, 3, none⟩ = some (.bool p.keep) := fun o => Lib.cell?_alloc_marked o (blk_cell P4.out 3)
        have p4 : ∀ o, (w4.alloc o).cell? ⟨wr.heap.size, 4, none⟩ = some (.slice Ai ni ci) := fun o => Lib.cell?_alloc_marked o (blk_cell P4.out 4)
        clear b4 s0 s1 s2 c0 c1 c2 c3 c4
        go_wp2_with fail
        refine (HTF.out _ I4.out).mono ?_
        rintro e w6 ⟨b6, A9, c9, rfl, hmsg⟩
        have z6 : w4.heap.size + 1 ≤ w6.heap.size := by have := b6.size; simpa using this
        have X6 := Lib.hid (blk_below X4.out b6 (by simp))
        have OUT6 := Lib.hid (blk_below OUT4.out b6 (by simp; omega))
        have BW6 := Lib.hid (BW4.out.trans (b6.mono (by simp; omega)))
        clear b6 p0 p1 p2 p3 p4
        go_wp2_with (refine wpList_store_at rfl 44 (.tmp 8) (.tmp 33) rfl w4.heap.size #[.int .i64 x.id, .int .i64 x.size, .bool x.keep, .int .u32 x.r0, .int .u32 x.r1, .int .u32 x.r2, .int .u32 x.r3, .int .u32 x.r4, .int .u32 x.r5, .int .u32 x.r6, .int .u32 x.r7, .int .u32 x.pc, .int .u8 x.st, .slice A9 x.mem.length c9] rfl rfl 44 _ X6.out info_pt rfl (by simp [Value.oneCell']) ?_)
        intro w7 hw7
        have BW := Lib.hid (below_row BW6.out (show wr.heap.size ≤ w4.heap.size by omega) #[.int .i64 x.id, .int .i64 x.size, .bool x.keep, .int .u32 x.r0, .int .u32 x.r1, .int .u32 x.r2, .int .u32 x.r3, .int .u32 x.r4, .int .u32 x.r5, .int .u32 x.r6, .int .u32 x.r7, .int .u32 x.pc, .int .u8 x.st, .slice A9 x.mem.length c9])
        have BIG := Lib.hid (HB.out.trans (BW.out.mono (by omega)))
        have X7 := Lib.hid (blk_row X6.out #[.int .i64 x.id, .int .i64 x.size, .bool x.keep, .int .u32 x.r0, .int .u32 x.r1, .int .u32 x.r2, .int .u32 x.r3, .int .u32 x.r4, .int .u32 x.r5, .int .u32 x.r6, .int .u32 x.r7, .int .u32 x.pc, .int .u8 x.st, .slice A9 x.mem.length c9])
        have OUTW := Lib.hid (blk_row_ne OUT6.out (show w.heap.size + 3 ≠ w4.heap.size by omega) #[.int .i64 x.id, .int .i64 x.size, .bool x.keep, .int .u32 x.r0, .int .u32 x.r1, .int .u32 x.r2, .int .u32 x.r3, .int .u32 x.r4, .int .u32 x.r5, .int .u32 x.r6, .int .u32 x.r7, .int .u32 x.pc, .int .u8 x.st, .slice A9 x.mem.length c9])
        have HMSG := Lib.hid (show ownB (w.heap.size + 4) (w6.setRow w4.heap.size #[.int .i64 x.id, .int .i64 x.size, .bool x.keep, .int .u32 x.r0, .int .u32 x.r1, .int .u32 x.r2, .int .u32 x.r3, .int .u32 x.r4, .int .u32 x.r5, .int .u32 x.r6, .int .u32 x.r7, .int .u32 x.pc, .int .u8 x.st, .slice A9 x.mem.length c9]).heap.size (w6.setRow w4.heap.size #[.int .i64 x.id, .int .i64 x.size, .bool x.keep, .int .u32 x.r0, .int .u32 x.r1, .int .u32 x.r2, .int .u32 x.r3, .int .u32 x.r4, .int .u32 x.r5, .int .u32 x.r6, .int .u32 x.r7, .int .u32 x.pc, .int .u8 x.st, .slice A9 x.mem.length c9]) A9 c9 x from (msg_row hmsg X6.out (by decide) #[.int .i64 x.id, .int .i64 x.size, .bool x.keep, .int .u32 x.r0, .int .u32 x.r1, .int .u32 x.r2, .int .u32 x.r3, .int .u32 x.r4, .int .u32 x.r5, .int .u32 x.r6, .int .u32 x.r7, .int .u32 x.pc, .int .u8 x.st, .slice A9 x.mem.length c9]).mono (by simp; omega) (by rw [size_row]; exact Nat.le_refl _))
        rw [← hw7.out] at BW BIG X7 OUTW HMSG
        clear hw7 hmsg
        have o1 : w7.cell? ⟨w.heap.size + 3, 1, none⟩ = some (.slice Av k cv) := blk_cell OUTW.out 1
        have y0 : w7.cell? ⟨w4.heap.size, 0, none⟩ = some (.int .i64 x.id) := blk_cell X7.out 0
        have y1 : w7.cell? ⟨w4.heap.size, 1, none⟩ = some (.int .i64 x.size) := blk_cell X7.out 1
        have y2 : w7.cell? ⟨w4.heap.size, 2, none⟩ = some (.bool x.keep) := blk_cell X7.out 2
        have y3 : w7.cell? ⟨w4.heap.size, 3, none⟩ = some (.int .u32 x.r0) := blk_cell X7.out 3
        have y4 : w7.cell? ⟨w4.heap.size, 4, none⟩ = some (.int .u32 x.r1) := blk_cell X7.out 4
        have y5 : w7.cell? ⟨w4.heap.size, 5, none⟩ = some (.int .u32 x.r2) := blk_cell X7.out 5
        have y6 : w7.cell? ⟨w4.heap.size, 6, none⟩ = some (.int .u32 x.r3) := blk_cell X7.out 6
        have y7 : w7.cell? ⟨w4.heap.size, 7, none⟩ = some (.int .u32 x.r4) := blk_cell X7.out 7
        have y8 : w7.cell? ⟨w4.heap.size, 8, none⟩ = some (.int .u32 x.r5) := blk_cell X7.out 8
        have y9 : w7.cell? ⟨w4.heap.size, 9, none⟩ = some (.int .u32 x.r6) := blk_cell X7.out 9
        have y10 : w7.cell? ⟨w4.heap.size, 10, none⟩ = some (.int .u32 x.r7) := blk_cell X7.out 10
        have y11 : w7.cell? ⟨w4.heap.size, 11, none⟩ = some (.int .u32 x.pc) := blk_cell X7.out 11
        have y12 : w7.cell? ⟨w4.heap.size, 12, none⟩ = some (.int .u8 x.st) := blk_cell X7.out 12
        have y13 : w7.cell? ⟨w4.heap.size, 13, none⟩ = some (.slice A9 x.mem.length c9) := blk_cell X7.out 13
        have hgw := HG.out.below BW.out
        obtain ⟨us, hus, hown, hms⟩ := hgw
        rw [HQL.out] at hown
        have HUS := Lib.hid hus; have HOWN := Lib.hid hown; have HMS := Lib.hid hms
        have hsz := Nat.le_trans hz BW.out.size
        have hwz := Nat.le_trans hzw BW.out.size
        have HUL := Lib.hid (show us.length = k by rw [← HQL.out, ← hus, List.length_map])
        have RDN := Lib.hid (show Rd (w7.alloc (.cells #[.int .i64 x.id, .int .i64 x.size, .bool x.keep, .int .u32 x.r0, .int .u32 x.r1, .int .u32 x.r2, .int .u32 x.r3, .int .u32 x.r4, .int .u32 x.r5, .int .u32 x.r6, .int .u32 x.r7, .int .u32 x.pc, .int .u8 x.st, .slice A9 x.mem.length c9] 44)) (some ⟨w7.heap.size, 0, none⟩) #[.int .i64 x.id, .int .i64 x.size, .bool x.keep, .int .u32 x.r0, .int .u32 x.r1, .int .u32 x.r2, .int .u32 x.r3, .int .u32 x.r4, .int .u32 x.r5, .int .u32 x.r6, .int .u32 x.r7, .int .u32 x.pc, .int .u8 x.st, .slice A9 x.mem.length c9].toList from by
          have h := Rd.new w7 #[.int .i64 x.id, .int .i64 x.size, .bool x.keep, .int .u32 x.r0, .int .u32 x.r1, .int .u32 x.r2, .int .u32 x.r3, .int .u32 x.r4, .int .u32 x.r5, .int .u32 x.r6, .int .u32 x.r7, .int .u32 x.pc, .int .u8 x.st, .slice A9 x.mem.length c9] 44
          rwa [show w7.heap.size = w7.heap.size by first | rfl | simp] at h)
        clear hus hown hms
        go_wp2_with (at_builtin; refine wpList_append_rd _ rfl (.tmp 35) (.tmp 37) 22 rfl (w.heap.size + 4) 44 i0 (.agg #[.int .i64 0, .int .i64 0, .bool false, .int .u32 0, .int .u32 0, .int .u32 0, .int .u32 0, .int .u32 0, .int .u32 0, .int .u32 0, .int .u32 0, .int .u32 0, .int .u8 0, .slice none 0 0]) 14 88 Try.underlying22 hi hz0 hz1 hz2 rfl (by decide) _ k (flat Pt.cells us) rfl (HOWN.out.alloc _) _ 1 _ #[.int .i64 x.id, .int .i64 x.size, .bool x.keep, .int .u32 x.r0, .int .u32 x.r1, .int .u32 x.r2, .int .u32 x.r3, .int .u32 x.r4, .int .u32 x.r5, .int .u32 x.r6, .int .u32 x.r7, .int .u32 x.pc, .int .u8 x.st, .slice A9 x.mem.length c9].toList rfl rfl RDN.out ?d2 ?d3 ?d4 ?d5 ?_)
        case d2 => simp [Value.oneCell']
        case d3 => unfold maxLen; omega
        case d4 => omega
        case d5 => first | omega | (simp; omega)
        intro v5 w5 hown5 hg5
        have BA9 := Lib.hid ((Below.refl w7.heap.size w7).alloc (Nat.le_refl _) (.cells #[.int .i64 x.id, .int .i64 x.size, .bool x.keep, .int .u32 x.r0, .int .u32 x.r1, .int .u32 x.r2, .int .u32 x.r3, .int .u32 x.r4, .int .u32 x.r5, .int .u32 x.r6, .int .u32 x.r7, .int .u32 x.pc, .int .u8 x.st, .slice A9 x.mem.length c9] 44))
        have KX := Lib.hid (KeptX.grown (HOWN.out.alloc (.cells #[.int .i64 x.id, .int .i64 x.size, .bool x.keep, .int .u32 x.r0, .int .u32 x.r1, .int .u32 x.r2, .int .u32 x.r3, .int .u32 x.r4, .int .u32 x.r5, .int .u32 x.r6, .int .u32 x.r7, .int .u32 x.pc, .int .u8 x.st, .slice A9 x.mem.length c9] 44)) hg5)
        have OW := Lib.hid (blk_alloc OUTW.out (.cells #[.int .i64 x.id, .int .i64 x.size, .bool x.keep, .int .u32 x.r0, .int .u32 x.r1, .int .u32 x.r2, .int .u32 x.r3, .int .u32 x.r4, .int .u32 x.r5, .int .u32 x.r6, .int .u32 x.r7, .int .u32 x.pc, .int .u8 x.st, .slice A9 x.mem.length c9] 44))
        have O5 := Lib.hid (KX.out.2 _ _ _ (by decide) OW.out)
        have hb5 := below_own (B := w.heap.size + 3) ((BIG.out).alloc (by omega) (.cells #[.int .i64 x.id, .int .i64 x.size, .bool x.keep, .int .u32 x.r0, .int .u32 x.r1, .int .u32 x.r2, .int .u32 x.r3, .int .u32 x.r4, .int .u32 x.r5, .int .u32 x.r6, .int .u32 x.r7, .int .u32 x.pc, .int .u8 x.st, .slice A9 x.mem.length c9] 44)) (own_lo (HOWN.out.alloc _) (Nat.le_succ _)) hg5 (by first | omega | (simp; omega))
        have HG5 := Lib.hid (show GrowP (w.heap.size + 4) w5 v5 ((moveP ps pn).take (k + 1)) from by
          have h := GrowX.snoc (cs := Pt.cells) (own := ownB) (us := us) (u := (x, A9, c9)) (by rw [HUL.out]; exact HOWN.out.alloc (.cells #[.int .i64 x.id, .int .i64 x.size, .bool x.keep, .int .u32 x.r0, .int .u32 x.r1, .int .u32 x.r2, .int .u32 x.r3, .int .u32 x.r4, .int .u32 x.r5, .int .u32 x.r6, .int .u32 x.r7, .int .u32 x.pc, .int .u8 x.st, .slice A9 x.mem.length c9] 44)) (ownB_below _ _ _ _ _ _ HMSG.out BA9.out) (fun y hy => ownB_below _ _ _ _ _ _ (HMS.out y hy) BA9.out) (fun A c y hy => ownB_keptX (by decide) hy KX.out) (by rw [HUL.out]; exact hown5)
          rw [HUS.out] at h
          rw [HTK.out]
          exact h)
        have HB5 := Lib.hid hb5
        obtain ⟨A5, c5, hv5, _, _, _, _⟩ := own_form3s hown5
        subst hv5
        have o5 := blk_cell O5.out 1; have of5 := blk_frozen O5.out 1
        clear hown5 hg5 hb5
        go_wp2_with fail
        go_roundw
        case rel => exact ⟨k + 1, by omega, by go_num, _, blk_set O5.out 1 _, HG5.out.keptX (by decide) (by decide) (KeptX.set O5.out 1 _), HB5.out.setCell (p := ⟨w.heap.size + 3, 1, none⟩) (Nat.le_refl _) _⟩
        case measure => simp [intOf]; omega
    · have hki : ¬ (k : Int) < (nn : Int) := by omega
      have hkn : nn = k := by omega
      subst hkn
      have HGA := Lib.hid (show GrowP (w.heap.size + 4) wr (.slice Av nn cv) (moveP ps pn) by
        have h := HG.out
        rwa [List.take_of_length_le (by rw [HLP.out]; exact Nat.le_refl _)] at h)
      have g2 := blk_cell Cr.out 2
      clear HG hki
      go_wp2_with fail
      clear g2
      obtain ⟨w9, hw9⟩ : ∃ w9 : World, w9 = wr := ⟨_, rfl⟩
      rw [← hw9] at HB HO HGA ⊢
      clear hw9 hz hzw BW0 Sr Cr Rr hk hkl HQL
      go_loopw [44] (fun iv wr => ∃ m : Nat, m ≤ nc ∧ iv = .int .i64 m ∧ ∃ v, wr.heap[w.heap.size + 3]? = some (.cells #[.int .i64 fr, .slice Av nn cv, v] 25 (0, 0)) ∧ GrowP (w.heap.size + 4) wr (.slice Av nn cv) (moveP ps pn) ∧ GrowQ (w.heap.size + 4) wr v ((moveQ ps pn qs cs).take m) ∧ Below (w.heap.size + 3) wb wr) (fun iv _ => nc - (intOf iv).toNat)
      case atStart => exact ⟨0, Nat.zero_le _, rfl, _, HO.out, HGA.out, by rw [List.take_zero]; exact GrowX.nil _ _, HB.out⟩
      case round =>
        clear HB HO HGA
        obtain ⟨k, hk, rfl, v, ho, hgp, hg, hb⟩ := hrel
        have HQL := Lib.hid (show ((moveQ ps pn qs cs).take k).length = k by rw [List.length_take, HLQ.out]; omega)
        obtain ⟨Bv, dv, rfl, hdv, _, _⟩ := hg.form
        rw [HQL.out] at ho hg hdv
        have hz := hb.size
        have HB := Lib.hid hb; have HQ := Lib.hid hg; have HO := Lib.hid ho; have HP := Lib.hid hgp
        have hzw : w.heap.size + 4 ≤ wr.heap.size := by rw [HS4.out] at hz; exact hz
        have BW0 := Lib.hid (HB4.out.trans (hb.mono (Nat.le_add_right _ _)))
        have Sr := Lib.hid (blk_below G0.out hb (by omega)); have Cr := Lib.hid (blk_below G1.out hb (by omega)); have Rr := Lib.hid (blk_below G2.out hb (by omega))
        clear hb hg ho hgp
        by_cases hkl : k < nc
        · have hki : (k : Int) < (nc : Int) := by omega
          have hk0 : (0 : Int) ≤ (k : Int) := by omega
          obtain ⟨b, off, rfl, hblt⟩ := H4.out.addr (by rw [chCells_length, HNC.out]; omega)
          obtain ⟨ch, hch⟩ : ∃ ch, cs[k]? = some ch := ⟨_, List.getElem?_eq_getElem (by rw [HNC.out]; exact hkl)⟩
          have hw := chCells_at cs k _ hch
          have hr := H4.out.below BW0.out
          have c0 := hr.cell hw.1; have c1 := hr.cell hw.2.1; have c2 := hr.cell hw.2.2.1; have c3 := hr.cell hw.2.2.2.1; have c4 := hr.cell hw.2.2.2.2
          rw [← Nat.add_assoc] at c1 c2 c3 c4
          have HPK := Lib.hid (show (moveQ ps pn qs cs)[k]? = some ⟨ch, (queueP ps pn qs ch).getD []⟩ by unfold moveQ; rw [List.getElem?_map, hch]; rfl)
          have BA := Lib.hid ((Below.refl wr.heap.size wr).alloc (Nat.le_refl _) (.cells #[.int .i64 ch.id, .int .i64 ch.fr, .int .i64 ch.to, .int .i64 ch.cap, .int .i64 ch.sz] 50))
          have BW1 := Lib.hid (BW0.out.alloc BW0.out.size (.cells #[.int .i64 ch.id, .int .i64 ch.fr, .int .i64 ch.to, .int .i64 ch.cap, .int .i64 ch.sz] 50))
          have P1 := Lib.hid (blk_new wr #[.int .i64 ch.id, .int .i64 ch.fr, .int .i64 ch.to, .int .i64 ch.cap, .int .i64 ch.sz] 50)
          have HTQ1 := Lib.hid (HTQ0.out ch _ (H1.out.below BW1.out) (H2.out.below BW1.out) (H3.out.below BW1.out))
          have s0 : ∀ o, (wr.alloc o).cell? ⟨w.heap.size, 0, none⟩ = some (.int .i64 fr) := fun o => Lib.cell?_alloc_marked o (blk_cell Sr.out 0)
          have s1 : ∀ o, (wr.alloc o).cell? ⟨w.heap.size, 1, none⟩ = some (.slice Ap np cp) := fun o => Lib.cell?_alloc_marked o (blk_cell Sr.out 1)
          have s2 : ∀ o, (wr.alloc o).cell? ⟨w.heap.size, 2, none⟩ = some (.slice Aq nq cq) := fun o => Lib.cell?_alloc_marked o (blk_cell Sr.out 2)
          have f0 : ∀ o, (wr.alloc o).cell? ⟨w.heap.size + 1, 0, none⟩ = some (.slice Aw nw cw) := fun o => Lib.cell?_alloc_marked o (blk_cell Cr.out 0)
          have f1 : ∀ o, (wr.alloc o).cell? ⟨w.heap.size + 1, 1, none⟩ = some (.slice An nn cn) := fun o => Lib.cell?_alloc_marked o (blk_cell Cr.out 1)
          have f2 : ∀ o, (wr.alloc o).cell? ⟨w.heap.size + 1, 2, none⟩ = some (.slice (some ⟨b, off, none⟩) nc cc) := fun o => Lib.cell?_alloc_marked o (blk_cell Cr.out 2)
          clear hch hw hr
          cases hkq : queueP ps pn qs ch with
          | some ls =>
            rw [hkq] at HTQ1 HPK
            have HTK := Lib.hid (show (moveQ ps pn qs cs).take (k + 1) = (moveQ ps pn qs cs).take k ++ [⟨ch, ls⟩] by rw [List.take_add_one, HPK.out]; rfl)
            clear hkq
            go_wp2_with fail
            refine HTQ1.out.mono ?_
            rintro e w4 ⟨b4, A9, c9, rfl, hm1, hm2, hmsg⟩
            have z4 : wr.heap.size + 1 ≤ w4.heap.size := by have := b4.size; simpa using this
            have BW := Lib.hid ((BA.out.trans (b4.mono (by simp))).alloc (by omega) (.cells #[.int .i64 ch.id, .int .i64 ch.fr, .int .i64 ch.to, .int .i64 ch.cap, .int .i64 ch.sz, .slice A9 ls.length c9] 53))
            have BIG := Lib.hid (HB.out.trans (BW.out.mono (by omega)))
            have HMSG := Lib.hid (show ownM (w.heap.size + 4) (w4.alloc (.cells #[.int .i64 ch.id, .int .i64 ch.fr, .int .i64 ch.to, .int .i64 ch.cap, .int .i64 ch.sz, .slice A9 ls.length c9] 53)).heap.size (w4.alloc (.cells #[.int .i64 ch.id, .int .i64 ch.fr, .int .i64 ch.to, .int .i64 ch.cap, .int .i64 ch.sz, .slice A9 ls.length c9] 53)) A9 c9 ⟨ch, ls⟩ from ⟨hm1, hm2, (Own2.below hmsg ((Below.refl w4.heap.size w4).alloc (Nat.le_refl _) _) (Nat.le_refl _)).mono (by simp; omega) (by simp)⟩)
            have OUTW := Lib.hid (blk_alloc (blk_below (blk_alloc HO.out (.cells #[.int .i64 ch.id, .int .i64 ch.fr, .int .i64 ch.to, .int .i64 ch.cap, .int .i64 ch.sz] 50)) b4 (by simp; omega)) (.cells #[.int .i64 ch.id, .int .i64 ch.fr, .int .i64 ch.to, .int .i64 ch.cap, .int .i64 ch.sz, .slice A9 ls.length c9] 53))
            have o1 : ∀ o, (w4.alloc o).cell? ⟨w.heap.size + 3, 2, none⟩ = some (.slice Bv k dv) := fun o => Lib.cell?_alloc_marked o (blk_cell (blk_below (blk_alloc HO.out (.cells #[.int .i64 ch.id, .int .i64 ch.fr, .int .i64 ch.to, .int .i64 ch.cap, .int .i64 ch.sz] 50)) b4 (by simp; omega)) 2)
            clear b4 hmsg s0 s1 s2 f0 f1 f2 c0 c1 c2 c3 c4
            have hgw := HQ.out.below BW.out
            obtain ⟨us, hus, hown, hms⟩ := hgw
            rw [HQL.out] at hown
            have HUS := Lib.hid hus; have HOWN := Lib.hid hown; have HMS := Lib.hid hms
            have hsz := Nat.le_trans hz BW.out.size
            have hwz := Nat.le_trans hzw BW.out.size
            have HUL := Lib.hid (show us.length = k by rw [← HQL.out, ← hus, List.length_map])
            have RDN := Lib.hid (show Rd ((w4.alloc (.cells #[.int .i64 ch.id, .int .i64 ch.fr, .int .i64 ch.to, .int .i64 ch.cap, .int .i64 ch.sz, .slice A9 ls.length c9] 53)).alloc (.cells #[.int .i64 ch.id, .int .i64 ch.fr, .int .i64 ch.to, .int .i64 ch.cap, .int .i64 ch.sz, .slice A9 ls.length c9] 53)) (some ⟨w4.heap.size + 1, 0, none⟩) #[.int .i64 ch.id, .int .i64 ch.fr, .int .i64 ch.to, .int .i64 ch.cap, .int .i64 ch.sz, .slice A9 ls.length c9].toList from by
              have h := Rd.new (w4.alloc (.cells #[.int .i64 ch.id, .int .i64 ch.fr, .int .i64 ch.to, .int .i64 ch.cap, .int .i64 ch.sz, .slice A9 ls.length c9] 53)) #[.int .i64 ch.id, .int .i64 ch.fr, .int .i64 ch.to, .int .i64 ch.cap, .int .i64 ch.sz, .slice A9 ls.length c9] 53
              rwa [show (w4.alloc (.cells #[.int .i64 ch.id, .int .i64 ch.fr, .int .i64 ch.to, .int .i64 ch.cap, .int .i64 ch.sz, .slice A9 ls.length c9] 53)).heap.size = w4.heap.size + 1 by first | rfl | simp] at h)
            clear hus hown hms
            go_wp2_with (at_builtin; refine wpList_append_rd _ rfl (.tmp 60) (.tmp 62) 23 rfl (w.heap.size + 4) 53 j0 (.agg #[.int .i64 0, .int .i64 0, .int .i64 0, .int .i64 0, .int .i64 0, .slice none 0 0]) 6 64 Try.underlying23 ji jz0 jz1 jz2 rfl (by decide) _ k (flat Qu.cells us) rfl (HOWN.out.alloc _) _ 1 _ #[.int .i64 ch.id, .int .i64 ch.fr, .int .i64 ch.to, .int .i64 ch.cap, .int .i64 ch.sz, .slice A9 ls.length c9].toList rfl rfl RDN.out ?d2 ?d3 ?d4 ?d5 ?_)
            case d2 => simp [Value.oneCell']
            case d3 => unfold maxLen; omega
            case d4 => omega
            case d5 => first | omega | (simp; omega)
            intro v5 w5 hown5 hg5
            have BA9 := Lib.hid ((Below.refl (w4.alloc (.cells #[.int .i64 ch.id, .int .i64 ch.fr, .int .i64 ch.to, .int .i64 ch.cap, .int .i64 ch.sz, .slice A9 ls.length c9] 53)).heap.size (w4.alloc (.cells #[.int .i64 ch.id, .int .i64 ch.fr, .int .i64 ch.to, .int .i64 ch.cap, .int .i64 ch.sz, .slice A9 ls.length c9] 53))).alloc (Nat.le_refl _) (.cells #[.int .i64 ch.id, .int .i64 ch.fr, .int .i64 ch.to, .int .i64 ch.cap, .int .i64 ch.sz, .slice A9 ls.length c9] 53))
            have KX := Lib.hid (KeptX.grown (HOWN.out.alloc (.cells #[.int .i64 ch.id, .int .i64 ch.fr, .int .i64 ch.to, .int .i64 ch.cap, .int .i64 ch.sz, .slice A9 ls.length c9] 53)) hg5)
            have OW := Lib.hid (blk_alloc OUTW.out (.cells #[.int .i64 ch.id, .int .i64 ch.fr, .int .i64 ch.to, .int .i64 ch.cap, .int .i64 ch.sz, .slice A9 ls.length c9] 53))
            have O5 := Lib.hid (KX.out.2 _ _ _ (by decide) OW.out)
            have hb5 := below_own (B := w.heap.size + 3) ((BIG.out).alloc (by omega) (.cells #[.int .i64 ch.id, .int .i64 ch.fr, .int .i64 ch.to, .int .i64 ch.cap, .int .i64 ch.sz, .slice A9 ls.length c9] 53)) (own_lo (HOWN.out.alloc _) (Nat.le_succ _)) hg5 (by first | omega | (simp; omega))
            have HG5 := Lib.hid (show GrowQ (w.heap.size + 4) w5 v5 ((moveQ ps pn qs cs).take (k + 1)) from by
              have h := GrowX.snoc (cs := Qu.cells) (own := ownM) (us := us) (u := (⟨ch, ls⟩, A9, c9)) (by rw [HUL.out]; exact HOWN.out.alloc (.cells #[.int .i64 ch.id, .int .i64 ch.fr, .int .i64 ch.to, .int .i64 ch.cap, .int .i64 ch.sz, .slice A9 ls.length c9] 53)) (ownM_below _ _ _ _ _ _ HMSG.out BA9.out) (fun y hy => ownM_below _ _ _ _ _ _ (HMS.out y hy) BA9.out) (fun A c y hy => ownM_keptX (by decide) (by decide) hy KX.out) (by rw [HUL.out]; exact hown5)
              rw [HUS.out] at h
              rw [HTK.out]
              exact h)
            have HP5 := Lib.hid (((HP.out.below BW.out).below BA9.out).keptX (by decide) (by decide) KX.out)
            have HB5 := Lib.hid hb5
            obtain ⟨A5, c5, hv5, _, _, _, _⟩ := own_form3s hown5
            subst hv5
            have o5 := blk_cell O5.out 2; have of5 := blk_frozen O5.out 2
            clear hown5 hg5 hb5
            go_wp2_with fail
            go_roundw
            case rel => exact ⟨k + 1, by omega, by go_num, _, blk_set O5.out 2 _, HP5.out.keptX (by decide) (by decide) (KeptX.set O5.out 2 _), HG5.out.keptX (by decide) (by decide) (by decide) (KeptX.set O5.out 2 _), HB5.out.setCell (p := ⟨w.heap.size + 3, 2, none⟩) (Nat.le_refl _) _⟩
            case measure => simp [intOf]; omega
          | none =>
            rw [hkq] at HTQ1 HPK
            have HTK := Lib.hid (show (moveQ ps pn qs cs).take (k + 1) = (moveQ ps pn qs cs).take k ++ [⟨ch, []⟩] by rw [List.take_add_one, HPK.out]; rfl)
            clear hkq
            go_wp2_with fail
            refine HTQ1.out.mono ?_
            rintro e w4 ⟨b4, rfl⟩
            have z4 : wr.heap.size + 1 ≤ w4.heap.size := by have := b4.size; simpa using this
            have P4 := Lib.hid (blk_below P1.out b4 (by simp))
            have BW4 := Lib.hid ((BA.out.trans (b4.mono (by simp))).alloc (by omega) (.cells #[.int .i64 0, .int .i64 0, .int .i64 0, .int .i64 0, .int .i64 0, .slice none 0 0] 53))
            have X4 := Lib.hid (blk_new w4 #[.int .i64 0, .int .i64 0, .int .i64 0, .int .i64 0, .int .i64 0, .slice none 0 0] 53)
            have OUT4 := Lib.hid (blk_alloc (blk_below (blk_alloc HO.out (.cells #[.int .i64 ch.id, .int .i64 ch.fr, .int .i64 ch.to, .int .i64 ch.cap, .int .i64 ch.sz] 50)) b4 (by simp; omega)) (.cells #[.int .i64 0, .int .i64 0, .int .i64 0, .int .i64 0, .int .i64 0, .slice none 0 0] 53))
            have p0 : ∀ o, (w4.alloc o).cell? ⟨wr.heap.size, 0, none⟩ = some (.int .i64 ch.id) := fun o => Lib.cell?_alloc_marked o (blk_cell P4.out 0)
            have p1 : ∀ o, (w4.alloc o).cell? ⟨wr.heap.size, 1, none⟩ = some (.int .i64 ch.fr) := fun o => Lib.cell?_alloc_marked o (blk_cell P4.out 1)
            have p2 : ∀ o, (w4.alloc o).cell? ⟨wr.heap.size, 2, none⟩ = some (.int .i64 ch.to) := fun o => Lib.cell?_alloc_marked o (blk_cell P4.out 2)
            have p3 : ∀ o, (w4.alloc o).cell? ⟨wr.heap.size, 3, none⟩ = some (.int .i64 ch.cap) := fun o => Lib.cell?_alloc_marked o (blk_cell P4.out 3)
            have p4 : ∀ o, (w4.alloc o).cell? ⟨wr.heap.size, 4, none⟩ = some (.int .i64 ch.sz) := fun o => Lib.cell?_alloc_marked o (blk_cell P4.out 4)
            clear b4 s0 s1 s2 f0 f1 f2 c0 c1 c2 c3 c4
            go_wp2_with (refine wpList_store_at rfl 53 (.tmp 12) (.tmp 58) rfl w4.heap.size #[.int .i64 ch.id, .int .i64 ch.fr, .int .i64 ch.to, .int .i64 ch.cap, .int .i64 ch.sz, .slice none 0 0] rfl rfl 53 _ X4.out info_qu rfl (by simp [Value.oneCell']) ?_)
            intro w7 hw7
            have BW := Lib.hid (below_row BW4.out (show wr.heap.size ≤ w4.heap.size by omega) #[.int .i64 ch.id, .int .i64 ch.fr, .int .i64 ch.to, .int .i64 ch.cap, .int .i64 ch.sz, .slice none 0 0])
            have BIG := Lib.hid (HB.out.trans (BW.out.mono (by omega)))
            have X7 := Lib.hid (blk_row X4.out #[.int .i64 ch.id, .int .i64 ch.fr, .int .i64 ch.to, .int .i64 ch.cap, .int .i64 ch.sz, .slice none 0 0])
            have OUTW := Lib.hid (blk_row_ne OUT4.out (show w.heap.size + 3 ≠ w4.heap.size by omega) #[.int .i64 ch.id, .int .i64 ch.fr, .int .i64 ch.to, .int .i64 ch.cap, .int .i64 ch.sz, .slice none 0 0])
            have HMSG := Lib.hid (show ownM (w.heap.size + 4) w7.heap.size w7 none 0 ⟨ch, []⟩ from ⟨Nat.le_refl _, fun _ => rfl, Own2.nil⟩)
            rw [← hw7.out] at BW BIG X7 OUTW
            clear hw7 p0 p1 p2 p3 p4
            have o1 : w7.cell? ⟨w.heap.size + 3, 2, none⟩ = some (.slice Bv k dv) := blk_cell OUTW.out 2
            have y0 : w7.cell? ⟨w4.heap.size, 0, none⟩ = some (.int .i64 ch.id) := blk_cell X7.out 0
            have y1 : w7.cell? ⟨w4.heap.size, 1, none⟩ = some (.int .i64 ch.fr) := blk_cell X7.out 1
            have y2 : w7.cell? ⟨w4.heap.size, 2, none⟩ = some (.int .i64 ch.to) := blk_cell X7.out 2
            have y3 : w7.cell? ⟨w4.heap.size, 3, none⟩ = some (.int .i64 ch.cap) := blk_cell X7.out 3
            have y4 : w7.cell? ⟨w4.heap.size, 4, none⟩ = some (.int .i64 ch.sz) := blk_cell X7.out 4
            have y5 : w7.cell? ⟨w4.heap.size, 5, none⟩ = some (.slice none 0 0) := blk_cell X7.out 5
            have hgw := HQ.out.below BW.out
            obtain ⟨us, hus, hown, hms⟩ := hgw
            rw [HQL.out] at hown
            have HUS := Lib.hid hus; have HOWN := Lib.hid hown; have HMS := Lib.hid hms
            have hsz := Nat.le_trans hz BW.out.size
            have hwz := Nat.le_trans hzw BW.out.size
            have HUL := Lib.hid (show us.length = k by rw [← HQL.out, ← hus, List.length_map])
            have RDN := Lib.hid (show Rd (w7.alloc (.cells #[.int .i64 ch.id, .int .i64 ch.fr, .int .i64 ch.to, .int .i64 ch.cap, .int .i64 ch.sz, .slice none 0 0] 53)) (some ⟨w7.heap.size, 0, none⟩) #[.int .i64 ch.id, .int .i64 ch.fr, .int .i64 ch.to, .int .i64 ch.cap, .int .i64 ch.sz, .slice none 0 0].toList from by
              have h := Rd.new w7 #[.int .i64 ch.id, .int .i64 ch.fr, .int .i64 ch.to, .int .i64 ch.cap, .int .i64 ch.sz, .slice none 0 0] 53
              rwa [show w7.heap.size = w7.heap.size by first | rfl | simp] at h)
            clear hus hown hms
            go_wp2_with (at_builtin; refine wpList_append_rd _ rfl (.tmp 60) (.tmp 62) 23 rfl (w.heap.size + 4) 53 j0 (.agg #[.int .i64 0, .int .i64 0, .int .i64 0, .int .i64 0, .int .i64 0, .slice none 0 0]) 6 64 Try.underlying23 ji jz0 jz1 jz2 rfl (by decide) _ k (flat Qu.cells us) rfl (HOWN.out.alloc _) _ 1 _ #[.int .i64 ch.id, .int .i64 ch.fr, .int .i64 ch.to, .int .i64 ch.cap, .int .i64 ch.sz, .slice none 0 0].toList rfl rfl RDN.out ?d2 ?d3 ?d4 ?d5 ?_)
            case d2 => simp [Value.oneCell']
            case d3 => unfold maxLen; omega
            case d4 => omega
            case d5 => first | omega | (simp; omega)
            intro v5 w5 hown5 hg5
            have BA9 := Lib.hid ((Below.refl w7.heap.size w7).alloc (Nat.le_refl _) (.cells #[.int .i64 ch.id, .int .i64 ch.fr, .int .i64 ch.to, .int .i64 ch.cap, .int .i64 ch.sz, .slice none 0 0] 53))
            have KX := Lib.hid (KeptX.grown (HOWN.out.alloc (.cells #[.int .i64 ch.id, .int .i64 ch.fr, .int .i64 ch.to, .int .i64 ch.cap, .int .i64 ch.sz, .slice none 0 0] 53)) hg5)
            have OW := Lib.hid (blk_alloc OUTW.out (.cells #[.int .i64 ch.id, .int .i64 ch.fr, .int .i64 ch.to, .int .i64 ch.cap, .int .i64 ch.sz, .slice none 0 0] 53))
            have O5 := Lib.hid (KX.out.2 _ _ _ (by decide) OW.out)
            have hb5 := below_own (B := w.heap.size + 3) ((BIG.out).alloc (by omega) (.cells #[.int .i64 ch.id, .int .i64 ch.fr, .int .i64 ch.to, .int .i64 ch.cap, .int .i64 ch.sz, .slice none 0 0] 53)) (own_lo (HOWN.out.alloc _) (Nat.le_succ _)) hg5 (by first | omega | (simp; omega))
            have HG5 := Lib.hid (show GrowQ (w.heap.size + 4) w5 v5 ((moveQ ps pn qs cs).take (k + 1)) from by
              have h := GrowX.snoc (cs := Qu.cells) (own := ownM) (us := us) (u := (⟨ch, []⟩, none, 0)) (by rw [HUL.out]; exact HOWN.out.alloc (.cells #[.int .i64 ch.id, .int .i64 ch.fr, .int .i64 ch.to, .int .i64 ch.cap, .int .i64 ch.sz, .slice none 0 0] 53)) (ownM_below _ _ _ _ _ _ HMSG.out BA9.out) (fun y hy => ownM_below _ _ _ _ _ _ (HMS.out y hy) BA9.out) (fun A c y hy => ownM_keptX (by decide) (by decide) hy KX.out) (by rw [HUL.out]; exact hown5)
              rw [HUS.out] at h
              rw [HTK.out]
              exact h)
            have HP5 := Lib.hid (((HP.out.below BW.out).below BA9.out).keptX (by decide) (by decide) KX.out)
            have HB5 := Lib.hid hb5
            obtain ⟨A5, c5, hv5, _, _, _, _⟩ := own_form3s hown5
            subst hv5
            have o5 := blk_cell O5.out 2; have of5 := blk_frozen O5.out 2
            clear hown5 hg5 hb5
            go_wp2_with fail
            go_roundw
            case rel => exact ⟨k + 1, by omega, by go_num, _, blk_set O5.out 2 _, HP5.out.keptX (by decide) (by decide) (KeptX.set O5.out 2 _), HG5.out.keptX (by decide) (by decide) (by decide) (KeptX.set O5.out 2 _), HB5.out.setCell (p := ⟨w.heap.size + 3, 2, none⟩) (Nat.le_refl _) _⟩
            case measure => simp [intOf]; omega
        · have hki : ¬ (k : Int) < (nc : Int) := by omega
          have hkc : nc = k := by omega
          subst hkc
          have HQA := Lib.hid (show GrowQ (w.heap.size + 4) wr (.slice Bv nc dv) (moveQ ps pn qs cs) by
            have h := HQ.out
            rwa [List.take_of_length_le (by rw [HLQ.out]; exact Nat.le_refl _)] at h)
          have o0 := blk_cell HO.out 0; have o1 := blk_cell HO.out 1; have o2 := blk_cell HO.out 2
          go_wp2_with (refine wpList_store_at rfl 25 (.tmp 4) (.tmp 66) rfl (w.heap.size + 2) #[.int .i64 fr, .slice Av nn cv, .slice Bv nc dv] rfl rfl 25 _ Rr.out info_st rfl (by simp [Value.oneCell']) ?_)
          intro w8 hw8
          have B8 := Lib.hid (below_row BW0.out (show w.heap.size ≤ w.heap.size + 2 by omega) #[.int .i64 fr, .slice Av nn cv, .slice Bv nc dv])
          have G8 := Lib.hid (blk_row Rr.out #[.int .i64 fr, .slice Av nn cv, .slice Bv nc dv])
          have K8 := Lib.hid (KeptX.row Rr.out #[.int .i64 fr, .slice Av nn cv, .slice Bv nc dv])
          rw [← hw8.out] at B8 G8 K8
          clear hw8
          go_wp2
          refine ret_row rfl (w.heap.size + 2) 25 _ _ rfl G8.out Try.underlying25 rfl info_st rfl ?_
          refine ⟨B8.out, Av, cv, Bv, dv, by rw [HLP.out, HLQ.out], ?_, ?_⟩
          · rw [HLP.out]; exact HP.out.keptX (by decide) (by decide) K8.out
          · rw [HLQ.out]; exact HQA.out.keptX (by decide) (by decide) (by decide) K8.out
end Go.Proofs.Ytnfjkpeifleogaa.mv
