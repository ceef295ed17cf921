/- Moves: the laws' own rows of the chapter; no condition. -/
import Derived.Test.YtnfjkpeifleogaaRows
import Derived.Test.YtnfjkpeifleogaaMvJ
import Derived.RegionTactic
namespace Go.Proofs.Ytnfjkpeifleogaa.mv
open Go Go.ChangeShapes Go.WideShapes Go.ChangeAt Go.RowKit Go.Proofs.Ytnfjkpeifleogaa.rows
theorem msg_below {lo : Nat} {w w' : World} {v : Value} {l : Msg} (h : MsgAt lo w.heap.size w v l) (b : Below w.heap.size w w') : MsgAt lo w'.heap.size w' v l := (MsgAt.below h b (Nat.le_refl _)).mono (Nat.le_refl _) b.size
theorem msg_keptX {T0 : TypeId} {lo : Nat} {w w' : World} {v : Value} {l : Msg} (h : MsgAt lo w.heap.size w v l) (hT : 5 ≠ T0) (k : KeptX T0 w w') : MsgAt lo w'.heap.size w' v l := by
  obtain ⟨A, c, e1, e2, e3, e4, e5⟩ := h
  exact ⟨A, c, e1, e2, e3, e4, (RowIn.keptX e5 hT k).mono (Nat.le_refl _) k.1⟩
theorem KeptX.trans {T0 : TypeId} {a b c : World} (h : KeptX T0 a b) (k : KeptX T0 b c) : KeptX T0 a c := ⟨Nat.le_trans h.1 k.1, fun g cs t ht hg => k.2 g cs t ht (h.2 g cs t ht hg)⟩
theorem ext1 (w : World) (o : Obj) : Below w.heap.size w (w.alloc o) := (Below.refl w.heap.size w).alloc (Nat.le_refl _) o
set_option maxRecDepth 100000 in
set_option maxHeartbeats 8000000 in
theorem awake (w : World) : Calls Try.prog 8 #[] w fun e w' => e = .returned (.bool true) ∧ Below w.heap.size w w' := by
  go_enter Try.func8, Try.ntmps8
  go_wp2_with fail
  refine (small _).mono ?_
  rintro e w1 ⟨b1, rfl, i1, p1, k1⟩
  have z1 : w.heap.size + 5 ≤ w1.heap.size := blk_lt k1
  have W0 := Lib.hid (rfl : w.heap.size = w.heap.size)
  have B1 := Lib.hid b1; have IM := Lib.hid i1; have PA := Lib.hid p1; have CN := Lib.hid k1
  clear b1 i1 p1 k1 W0
  obtain ⟨gW, hgW⟩ : ∃ g, g = w.heap.size + 1 := ⟨_, rfl⟩
  obtain ⟨gI, hgI⟩ : ∃ g, g = w.heap.size + 2 := ⟨_, rfl⟩
  obtain ⟨gP, hgP⟩ : ∃ g, g = w.heap.size + 3 := ⟨_, rfl⟩
  obtain ⟨gN, hgN⟩ : ∃ g, g = w.heap.size + 4 := ⟨_, rfl⟩
  rw [← hgI] at IM PA; rw [← hgP] at PA; rw [← hgN] at CN; rw [← hgW, ← hgP, ← hgN]
  have hLP : w.heap.size ≤ gP := by omega
  clear hgW hgI hgN hgP
  replace IM := Lib.hid (blk_alloc IM.out (.cells #[.slice (some ⟨gW, 0, none⟩) 1 1, .slice (some ⟨gP, 0, none⟩) 2 2, .slice (some ⟨gN, 0, none⟩) 1 1] 30))
  replace PA := Lib.hid (blk_alloc PA.out (.cells #[.slice (some ⟨gW, 0, none⟩) 1 1, .slice (some ⟨gP, 0, none⟩) 2 2, .slice (some ⟨gN, 0, none⟩) 1 1] 30))
  replace CN := Lib.hid (blk_alloc CN.out (.cells #[.slice (some ⟨gW, 0, none⟩) 1 1, .slice (some ⟨gP, 0, none⟩) 2 2, .slice (some ⟨gN, 0, none⟩) 1 1] 30))
  have CB := Lib.hid (blk_new w1 #[.slice (some ⟨gW, 0, none⟩) 1 1, .slice (some ⟨gP, 0, none⟩) 2 2, .slice (some ⟨gN, 0, none⟩) 1 1] 30)
  replace B1 := Lib.hid (B1.out.alloc B1.out.size (.cells #[.slice (some ⟨gW, 0, none⟩) 1 1, .slice (some ⟨gP, 0, none⟩) 2 2, .slice (some ⟨gN, 0, none⟩) 1 1] 30))
  have T1 := move 3 [] [⟨1, 0, 16, true, [1]⟩, ⟨2, 16, 16, false, []⟩] [] [⟨1, 1, 2, 1, 4⟩] none none (some ⟨gW, 0, none⟩) (some ⟨gP, 0, none⟩) (some ⟨gN, 0, none⟩) 0 0 0 0 1 1 2 2 1 1 rfl rfl rfl rfl (by decide) (by decide) (by decide) (by decide) (by decide) (by decide) (w1.alloc (.cells #[.slice (some ⟨gW, 0, none⟩) 1 1, .slice (some ⟨gP, 0, none⟩) 2 2, .slice (some ⟨gN, 0, none⟩) 1 1] 30)) Pts.nil (pns_two 0 16 true PA.out IM.out) Qus.nil (ch_one CN.out)
  rw [show moveP [] [⟨1, 0, 16, true, [1]⟩, ⟨2, 16, 16, false, []⟩] = [freshP ⟨1, 0, 16, true, [1]⟩, freshP ⟨2, 16, 16, false, []⟩] from rfl, show moveQ [] [⟨1, 0, 16, true, [1]⟩, ⟨2, 16, 16, false, []⟩] [] [⟨1, 1, 2, 1, 4⟩] = [⟨⟨1, 1, 2, 1, 4⟩, []⟩] from rfl] at T1
  have HT1 := Lib.hid T1
  clear T1
  have c0 := blk_cell CB.out 0; have c1 := blk_cell CB.out 1; have c2 := blk_cell CB.out 2
  have zB := Lib.hid B1.out.size
  go_wp2_with fail
  refine HT1.out.mono ?_
  rintro e w2 ⟨b2, A2, d2, B2, f2, rfl, hgp, hgq⟩
  clear HT1 c0 c1 c2
  obtain ⟨gS, Am1, cm1, Am2, cm2, cur, rfl, hlS, hS, hcur, m1, m2⟩ := grow2 hgp
  obtain ⟨gQ, Am3, cm3, qcur, rfl, hlQ, hQ, hqcur⟩ := growq hgq
  clear hgp hgq
  have hLS : w.heap.size ≤ gS := Nat.le_trans zB.out (Nat.le_trans (Nat.le_add_right _ _) hlS)
  have hLQ : w.heap.size ≤ gQ := Nat.le_trans zB.out (Nat.le_trans (Nat.le_add_right _ _) hlQ)
  clear hlS hlQ zB
  replace IM := Lib.hid (blk_below IM.out b2 (blk_lt IM.out))
  replace PA := Lib.hid (blk_below PA.out b2 (blk_lt PA.out))
  replace CN := Lib.hid (blk_below CN.out b2 (blk_lt CN.out))
  replace CB := Lib.hid (blk_below CB.out b2 (blk_lt CB.out))
  replace B1 := Lib.hid (B1.out.trans (b2.mono B1.out.size))
  have z2 := b2.size
  clear b2
  have SP := Lib.hid hS; have SQ := Lib.hid hQ; have HCUR := Lib.hid hcur; have HQCUR := Lib.hid hqcur; have M1 := Lib.hid m1; have M2 := Lib.hid m2
  clear hS hQ hcur hqcur m1 m2
  replace IM := Lib.hid (blk_alloc IM.out (.cells #[.int .i64 3, .slice (some ⟨gS, 0, none⟩) 2 d2, .slice (some ⟨gQ, 0, none⟩) 1 f2] 25))
  replace PA := Lib.hid (blk_alloc PA.out (.cells #[.int .i64 3, .slice (some ⟨gS, 0, none⟩) 2 d2, .slice (some ⟨gQ, 0, none⟩) 1 f2] 25))
  replace CN := Lib.hid (blk_alloc CN.out (.cells #[.int .i64 3, .slice (some ⟨gS, 0, none⟩) 2 d2, .slice (some ⟨gQ, 0, none⟩) 1 f2] 25))
  replace CB := Lib.hid (blk_alloc CB.out (.cells #[.int .i64 3, .slice (some ⟨gS, 0, none⟩) 2 d2, .slice (some ⟨gQ, 0, none⟩) 1 f2] 25))
  replace SP := Lib.hid (blk_alloc SP.out (.cells #[.int .i64 3, .slice (some ⟨gS, 0, none⟩) 2 d2, .slice (some ⟨gQ, 0, none⟩) 1 f2] 25))
  replace SQ := Lib.hid (blk_alloc SQ.out (.cells #[.int .i64 3, .slice (some ⟨gS, 0, none⟩) 2 d2, .slice (some ⟨gQ, 0, none⟩) 1 f2] 25))
  replace M1 := Lib.hid (msg_below M1.out (ext1 w2 (.cells #[.int .i64 3, .slice (some ⟨gS, 0, none⟩) 2 d2, .slice (some ⟨gQ, 0, none⟩) 1 f2] 25)))
  replace M2 := Lib.hid (msg_below M2.out (ext1 w2 (.cells #[.int .i64 3, .slice (some ⟨gS, 0, none⟩) 2 d2, .slice (some ⟨gQ, 0, none⟩) 1 f2] 25)))
  have SB := Lib.hid (blk_new w2 #[.int .i64 3, .slice (some ⟨gS, 0, none⟩) 2 d2, .slice (some ⟨gQ, 0, none⟩) 1 f2] 25)
  replace B1 := Lib.hid (B1.out.alloc B1.out.size (.cells #[.int .i64 3, .slice (some ⟨gS, 0, none⟩) 2 d2, .slice (some ⟨gQ, 0, none⟩) 1 f2] 25))
  have s0 := blk_cell SB.out 0; have s1 := blk_cell SB.out 1; have s2 := blk_cell SB.out 2
  have x13 : (w2.alloc (.cells #[.int .i64 3, .slice (some ⟨gS, 0, none⟩) 2 d2, .slice (some ⟨gQ, 0, none⟩) 1 f2] 25)).cell? ⟨gS, 13, none⟩ = some (.slice Am1 16 cm1) := take_cell SP.out HCUR.out rfl
  have hm1 : (w2.alloc (.cells #[.int .i64 3, .slice (some ⟨gS, 0, none⟩) 2 d2, .slice (some ⟨gQ, 0, none⟩) 1 f2] 25)).cell? ⟨gS, 3, none⟩ = some (.int .u32 0) := take_cell SP.out HCUR.out rfl
  obtain ⟨b5, o5, rfl, _⟩ := (msg_in (l := (freshP ⟨1, 0, 16, true, [1]⟩).mem) M1.out).2.2.addr (by decide)
  have y0 : (w2.alloc (.cells #[.int .i64 3, .slice (some ⟨gS, 0, none⟩) 2 d2, .slice (some ⟨gQ, 0, none⟩) 1 f2] 25)).cell? ⟨b5, o5, none⟩ = some (.int .u8 1) := (msg_in (l := (freshP ⟨1, 0, 16, true, [1]⟩).mem) M1.out).2.2.cell (j := 0) rfl
  go_wp2_with fail
  have x17 : (w2.alloc (.cells #[.int .i64 3, .slice (some ⟨gS, 0, none⟩) 2 d2, .slice (some ⟨gQ, 0, none⟩) 1 f2] 25)).cell? ⟨gS, 17, none⟩ = some (.int .u32 0) := take_cell SP.out HCUR.out rfl
  have fz3 := blk_frozen SP.out 3; have fz17 := blk_frozen SP.out 17
  go_region
  clear s0 s1 s2 x13 hm1 y0 x17 fz3 fz17
  have KX := Lib.hid (show KeptX 44 (w2.alloc (.cells #[.int .i64 3, .slice (some ⟨gS, 0, none⟩) 2 d2, .slice (some ⟨gQ, 0, none⟩) 1 f2] 25)) ((((w2.alloc (.cells #[.int .i64 3, .slice (some ⟨gS, 0, none⟩) 2 d2, .slice (some ⟨gQ, 0, none⟩) 1 f2] 25)).setCell ⟨gS, 3, none⟩ (.int .u32 7)).setCell ⟨gS, 17, none⟩ (.int .u32 7)).drew) from (KeptX.trans (KeptX.set SP.out 3 (.int .u32 7)) (KeptX.set (blk_set SP.out 3 (.int .u32 7)) 17 (.int .u32 7))))
  have NEW := Lib.hid (show (((((w2.alloc (.cells #[.int .i64 3, .slice (some ⟨gS, 0, none⟩) 2 d2, .slice (some ⟨gQ, 0, none⟩) 1 f2] 25)).setCell ⟨gS, 3, none⟩ (.int .u32 7)).setCell ⟨gS, 17, none⟩ (.int .u32 7)).drew)).heap[gS]? = _ from (blk_set (blk_set SP.out 3 (.int .u32 7)) 17 (.int .u32 7)))
  replace IM := Lib.hid (KX.out.2 _ _ _ (by decide) IM.out)
  replace PA := Lib.hid (KX.out.2 _ _ _ (by decide) PA.out)
  replace CN := Lib.hid (KX.out.2 _ _ _ (by decide) CN.out)
  replace CB := Lib.hid (KX.out.2 _ _ _ (by decide) CB.out)
  replace SQ := Lib.hid (KX.out.2 _ _ _ (by decide) SQ.out)
  replace SB := Lib.hid (KX.out.2 _ _ _ (by decide) SB.out)
  replace M1 := Lib.hid (msg_keptX M1.out (by decide) KX.out)
  replace M2 := Lib.hid (msg_keptX M2.out (by decide) KX.out)
  replace B1 := Lib.hid (show Below w.heap.size w ((((w2.alloc (.cells #[.int .i64 3, .slice (some ⟨gS, 0, none⟩) 2 d2, .slice (some ⟨gQ, 0, none⟩) 1 f2] 25)).setCell ⟨gS, 3, none⟩ (.int .u32 7)).setCell ⟨gS, 17, none⟩ (.int .u32 7)).drew) from ((B1.out.setCell (p := ⟨gS, 3, none⟩) hLS (.int .u32 7)).setCell (p := ⟨gS, 17, none⟩) hLS (.int .u32 7)).drew)
  clear SP KX
  have SP := NEW
  clear NEW
  replace HCUR := Lib.hid (take_set (i := 17) (u := (.int .u32 7)) (take_set (i := 3) (u := (.int .u32 7)) HCUR.out))
  obtain ⟨cu2, hc2⟩ : ∃ c, c = (cur.setIfInBounds 3 (.int .u32 7)).setIfInBounds 17 (.int .u32 7) := ⟨_, rfl⟩
  rw [← hc2] at SP HCUR
  clear hc2
  replace HCUR := Lib.hid (show cu2.toList.take 28 = Pt.cells ⟨1, 16, true, 7, 0, 0, 0, 0, 0, 0, 0, 0, 0, (freshP ⟨1, 0, 16, true, [1]⟩).mem⟩ (some ⟨b5, o5, none⟩) cm1 ++ Pt.cells ⟨2, 16, false, 7, 0, 0, 0, 0, 0, 0, 0, 0, 0, (freshP ⟨2, 16, 16, false, []⟩).mem⟩ Am2 cm2 from HCUR.out)
  generalize ((((w2.alloc (.cells #[.int .i64 3, .slice (some ⟨gS, 0, none⟩) 2 d2, .slice (some ⟨gQ, 0, none⟩) 1 f2] 25)).setCell ⟨gS, 3, none⟩ (.int .u32 7)).setCell ⟨gS, 17, none⟩ (.int .u32 7)).drew) = w3 at IM PA CN CB SP SQ SB M1 M2 B1 ⊢
  have s2 := blk_cell SB.out 2
  replace IM := Lib.hid (blk_alloc IM.out (.cells #[.int .u8 5] 5))
  replace PA := Lib.hid (blk_alloc PA.out (.cells #[.int .u8 5] 5))
  replace CN := Lib.hid (blk_alloc CN.out (.cells #[.int .u8 5] 5))
  replace CB := Lib.hid (blk_alloc CB.out (.cells #[.int .u8 5] 5))
  replace SP := Lib.hid (blk_alloc SP.out (.cells #[.int .u8 5] 5))
  replace SQ := Lib.hid (blk_alloc SQ.out (.cells #[.int .u8 5] 5))
  replace SB := Lib.hid (blk_alloc SB.out (.cells #[.int .u8 5] 5))
  replace M1 := Lib.hid (msg_below M1.out (ext1 w3 (.cells #[.int .u8 5] 5)))
  replace M2 := Lib.hid (msg_below M2.out (ext1 w3 (.cells #[.int .u8 5] 5)))
  have RR := Lib.hid (blk_new w3 #[.int .u8 5] 5)
  replace IM := Lib.hid (blk_alloc IM.out (.cells #[.slice (some ⟨w3.heap.size, 0, none⟩) 1 1] 38))
  replace PA := Lib.hid (blk_alloc PA.out (.cells #[.slice (some ⟨w3.heap.size, 0, none⟩) 1 1] 38))
  replace CN := Lib.hid (blk_alloc CN.out (.cells #[.slice (some ⟨w3.heap.size, 0, none⟩) 1 1] 38))
  replace CB := Lib.hid (blk_alloc CB.out (.cells #[.slice (some ⟨w3.heap.size, 0, none⟩) 1 1] 38))
  replace SP := Lib.hid (blk_alloc SP.out (.cells #[.slice (some ⟨w3.heap.size, 0, none⟩) 1 1] 38))
  replace SQ := Lib.hid (blk_alloc SQ.out (.cells #[.slice (some ⟨w3.heap.size, 0, none⟩) 1 1] 38))
  replace SB := Lib.hid (blk_alloc SB.out (.cells #[.slice (some ⟨w3.heap.size, 0, none⟩) 1 1] 38))
  replace RR := Lib.hid (blk_alloc RR.out (.cells #[.slice (some ⟨w3.heap.size, 0, none⟩) 1 1] 38))
  replace M1 := Lib.hid (msg_below M1.out (ext1 (w3.alloc (.cells #[.int .u8 5] 5)) (.cells #[.slice (some ⟨w3.heap.size, 0, none⟩) 1 1] 38)))
  replace M2 := Lib.hid (msg_below M2.out (ext1 (w3.alloc (.cells #[.int .u8 5] 5)) (.cells #[.slice (some ⟨w3.heap.size, 0, none⟩) 1 1] 38)))
  have RM := Lib.hid (show (((w3.alloc (.cells #[.int .u8 5] 5)).alloc (.cells #[.slice (some ⟨w3.heap.size, 0, none⟩) 1 1] 38))).heap[w3.heap.size + 1]? = some (.cells #[.slice (some ⟨w3.heap.size, 0, none⟩) 1 1] 38 (0, 0)) by have := blk_new (w3.alloc (.cells #[.int .u8 5] 5)) #[.slice (some ⟨w3.heap.size, 0, none⟩) 1 1] 38; simpa using this)
  replace B1 := Lib.hid ((B1.out.alloc B1.out.size (.cells #[.int .u8 5] 5)).alloc (Nat.le_trans B1.out.size (ext1 w3 _).size) (.cells #[.slice (some ⟨w3.heap.size, 0, none⟩) 1 1] 38))
  have q5 : ((w3.alloc (.cells #[.int .u8 5] 5)).alloc (.cells #[.slice (some ⟨w3.heap.size, 0, none⟩) 1 1] 38)).cell? ⟨gQ, 5, none⟩ = some (.slice Am3 0 cm3) := take_cell SQ.out HQCUR.out rfl
  have fq5 := blk_frozen SQ.out 5
  have KX := Lib.hid (show KeptX 53 ((w3.alloc (.cells #[.int .u8 5] 5)).alloc (.cells #[.slice (some ⟨w3.heap.size, 0, none⟩) 1 1] 38)) (((w3.alloc (.cells #[.int .u8 5] 5)).alloc (.cells #[.slice (some ⟨w3.heap.size, 0, none⟩) 1 1] 38)).setCell ⟨gQ, 5, none⟩ (.slice (some ⟨w3.heap.size + 1, 0, none⟩) 1 1)) from (KeptX.set SQ.out 5 (.slice (some ⟨w3.heap.size + 1, 0, none⟩) 1 1)))
  have NEW := Lib.hid (show ((((w3.alloc (.cells #[.int .u8 5] 5)).alloc (.cells #[.slice (some ⟨w3.heap.size, 0, none⟩) 1 1] 38)).setCell ⟨gQ, 5, none⟩ (.slice (some ⟨w3.heap.size + 1, 0, none⟩) 1 1))).heap[gQ]? = _ from (blk_set SQ.out 5 (.slice (some ⟨w3.heap.size + 1, 0, none⟩) 1 1)))
  replace IM := Lib.hid (KX.out.2 _ _ _ (by decide) IM.out)
  replace PA := Lib.hid (KX.out.2 _ _ _ (by decide) PA.out)
  replace CN := Lib.hid (KX.out.2 _ _ _ (by decide) CN.out)
  replace CB := Lib.hid (KX.out.2 _ _ _ (by decide) CB.out)
  replace SP := Lib.hid (KX.out.2 _ _ _ (by decide) SP.out)
  replace SB := Lib.hid (KX.out.2 _ _ _ (by decide) SB.out)
  replace RR := Lib.hid (KX.out.2 _ _ _ (by decide) RR.out)
  replace RM := Lib.hid (KX.out.2 _ _ _ (by decide) RM.out)
  replace M1 := Lib.hid (msg_keptX M1.out (by decide) KX.out)
  replace M2 := Lib.hid (msg_keptX M2.out (by decide) KX.out)
  replace B1 := Lib.hid (show Below w.heap.size w (((w3.alloc (.cells #[.int .u8 5] 5)).alloc (.cells #[.slice (some ⟨w3.heap.size, 0, none⟩) 1 1] 38)).setCell ⟨gQ, 5, none⟩ (.slice (some ⟨w3.heap.size + 1, 0, none⟩) 1 1)) from (B1.out.setCell (p := ⟨gQ, 5, none⟩) hLQ (.slice (some ⟨w3.heap.size + 1, 0, none⟩) 1 1)))
  clear SQ KX
  have SQ := NEW
  clear NEW
  replace HQCUR := Lib.hid (take_set (i := 5) (u := (.slice (some ⟨w3.heap.size + 1, 0, none⟩) 1 1)) HQCUR.out)
  obtain ⟨qc2, hc2⟩ : ∃ c, c = qcur.setIfInBounds 5 (.slice (some ⟨w3.heap.size + 1, 0, none⟩) 1 1) := ⟨_, rfl⟩
  rw [← hc2] at SQ HQCUR
  clear hc2
  replace HQCUR := Lib.hid (show qc2.toList.take 6 = Qu.cells ⟨⟨1, 1, 2, 1, 4⟩, [[5]]⟩ (some ⟨w3.heap.size + 1, 0, none⟩) 1 from HQCUR.out)
  have s0 := blk_cell SB.out 0
  have s1 := blk_cell SB.out 1
  have s2 := blk_cell SB.out 2
  have c0 := blk_cell CB.out 0
  have c1 := blk_cell CB.out 1
  have c2 := blk_cell CB.out 2
  go_wp2_with fail
  generalize (((w3.alloc (.cells #[.int .u8 5] 5)).alloc (.cells #[.slice (some ⟨w3.heap.size, 0, none⟩) 1 1] 38)).setCell ⟨gQ, 5, none⟩ (.slice (some ⟨w3.heap.size + 1, 0, none⟩) 1 1)) = w4 at IM PA CN CB SP SQ SB RR RM M1 M2 B1 ⊢
  clear s0 s1 s2 c0 c1 c2 q5 fq5
  have Ta := move 3 [⟨1, 16, true, 7, 0, 0, 0, 0, 0, 0, 0, 0, 0, (freshP ⟨1, 0, 16, true, [1]⟩).mem⟩, ⟨2, 16, false, 7, 0, 0, 0, 0, 0, 0, 0, 0, 0, (freshP ⟨2, 16, 16, false, []⟩).mem⟩] [⟨1, 0, 16, true, [1]⟩, ⟨2, 16, 16, false, []⟩] [⟨⟨1, 1, 2, 1, 4⟩, [[5]]⟩] [⟨1, 1, 2, 1, 4⟩] (some ⟨gS, 0, none⟩) (some ⟨gQ, 0, none⟩) (some ⟨gW, 0, none⟩) (some ⟨gP, 0, none⟩) (some ⟨gN, 0, none⟩) 2 d2 1 f2 1 1 2 2 1 1 rfl rfl rfl rfl (by decide) (by decide) (by decide) (by decide) (by decide) (by decide) w4 (pts_two SP.out HCUR.out M1.out M2.out) (pns_two 0 16 true PA.out IM.out) (qus_one SQ.out HQCUR.out RM.out RR.out) (ch_one CN.out)
  rw [show moveP [⟨1, 16, true, 7, 0, 0, 0, 0, 0, 0, 0, 0, 0, (freshP ⟨1, 0, 16, true, [1]⟩).mem⟩, ⟨2, 16, false, 7, 0, 0, 0, 0, 0, 0, 0, 0, 0, (freshP ⟨2, 16, 16, false, []⟩).mem⟩] [⟨1, 0, 16, true, [1]⟩, ⟨2, 16, 16, false, []⟩] = [⟨1, 16, true, 7, 0, 0, 0, 0, 0, 0, 0, 0, 0, (freshP ⟨1, 0, 16, true, [1]⟩).mem⟩, freshP ⟨2, 16, 16, false, []⟩] from rfl, show moveQ [⟨1, 16, true, 7, 0, 0, 0, 0, 0, 0, 0, 0, 0, (freshP ⟨1, 0, 16, true, [1]⟩).mem⟩, ⟨2, 16, false, 7, 0, 0, 0, 0, 0, 0, 0, 0, 0, (freshP ⟨2, 16, 16, false, []⟩).mem⟩] [⟨1, 0, 16, true, [1]⟩, ⟨2, 16, 16, false, []⟩] [⟨⟨1, 1, 2, 1, 4⟩, [[5]]⟩] [⟨1, 1, 2, 1, 4⟩] = [⟨⟨1, 1, 2, 1, 4⟩, []⟩] from rfl] at Ta
  refine Ta.mono ?_
  rintro e w5 ⟨ba, Aa, da, Ba, fa, rfl, hgp, hgq⟩
  clear Ta
  obtain ⟨ga, ama, aca, am2a, ac2a, cura, rfl, _, hS, hcur, _, _⟩ := grow2 hgp
  obtain ⟨gqa, aqa, bqa, qcura, rfl, _, hQ, hqcur⟩ := growq hgq
  clear hgp hgq
  replace IM := Lib.hid (blk_below IM.out ba (blk_lt IM.out))
  replace PA := Lib.hid (blk_below PA.out ba (blk_lt PA.out))
  replace CN := Lib.hid (blk_below CN.out ba (blk_lt CN.out))
  replace CB := Lib.hid (blk_below CB.out ba (blk_lt CB.out))
  replace SP := Lib.hid (blk_below SP.out ba (blk_lt SP.out))
  replace SQ := Lib.hid (blk_below SQ.out ba (blk_lt SQ.out))
  replace SB := Lib.hid (blk_below SB.out ba (blk_lt SB.out))
  replace RR := Lib.hid (blk_below RR.out ba (blk_lt RR.out))
  replace RM := Lib.hid (blk_below RM.out ba (blk_lt RM.out))
  replace M1 := Lib.hid (msg_below M1.out ba)
  replace M2 := Lib.hid (msg_below M2.out ba)
  replace B1 := Lib.hid (B1.out.trans (ba.mono B1.out.size))
  clear ba
  have SPa := Lib.hid hS; have HCa := Lib.hid hcur
  clear hS hcur
  have SQa := Lib.hid hQ; have HQa := Lib.hid hqcur
  clear hQ hqcur
  replace IM := Lib.hid (blk_alloc IM.out (.cells #[.int .i64 3, .slice (some ⟨ga, 0, none⟩) 2 da, .slice (some ⟨gqa, 0, none⟩) 1 fa] 25))
  replace PA := Lib.hid (blk_alloc PA.out (.cells #[.int .i64 3, .slice (some ⟨ga, 0, none⟩) 2 da, .slice (some ⟨gqa, 0, none⟩) 1 fa] 25))
  replace CN := Lib.hid (blk_alloc CN.out (.cells #[.int .i64 3, .slice (some ⟨ga, 0, none⟩) 2 da, .slice (some ⟨gqa, 0, none⟩) 1 fa] 25))
  replace CB := Lib.hid (blk_alloc CB.out (.cells #[.int .i64 3, .slice (some ⟨ga, 0, none⟩) 2 da, .slice (some ⟨gqa, 0, none⟩) 1 fa] 25))
  replace SP := Lib.hid (blk_alloc SP.out (.cells #[.int .i64 3, .slice (some ⟨ga, 0, none⟩) 2 da, .slice (some ⟨gqa, 0, none⟩) 1 fa] 25))
  replace SQ := Lib.hid (blk_alloc SQ.out (.cells #[.int .i64 3, .slice (some ⟨ga, 0, none⟩) 2 da, .slice (some ⟨gqa, 0, none⟩) 1 fa] 25))
  replace SB := Lib.hid (blk_alloc SB.out (.cells #[.int .i64 3, .slice (some ⟨ga, 0, none⟩) 2 da, .slice (some ⟨gqa, 0, none⟩) 1 fa] 25))
  replace RR := Lib.hid (blk_alloc RR.out (.cells #[.int .i64 3, .slice (some ⟨ga, 0, none⟩) 2 da, .slice (some ⟨gqa, 0, none⟩) 1 fa] 25))
  replace RM := Lib.hid (blk_alloc RM.out (.cells #[.int .i64 3, .slice (some ⟨ga, 0, none⟩) 2 da, .slice (some ⟨gqa, 0, none⟩) 1 fa] 25))
  replace SPa := Lib.hid (blk_alloc SPa.out (.cells #[.int .i64 3, .slice (some ⟨ga, 0, none⟩) 2 da, .slice (some ⟨gqa, 0, none⟩) 1 fa] 25))
  replace SQa := Lib.hid (blk_alloc SQa.out (.cells #[.int .i64 3, .slice (some ⟨ga, 0, none⟩) 2 da, .slice (some ⟨gqa, 0, none⟩) 1 fa] 25))
  replace M1 := Lib.hid (msg_below M1.out (ext1 w5 (.cells #[.int .i64 3, .slice (some ⟨ga, 0, none⟩) 2 da, .slice (some ⟨gqa, 0, none⟩) 1 fa] 25)))
  replace M2 := Lib.hid (msg_below M2.out (ext1 w5 (.cells #[.int .i64 3, .slice (some ⟨ga, 0, none⟩) 2 da, .slice (some ⟨gqa, 0, none⟩) 1 fa] 25)))
  have STa := Lib.hid (blk_new w5 #[.int .i64 3, .slice (some ⟨ga, 0, none⟩) 2 da, .slice (some ⟨gqa, 0, none⟩) 1 fa] 25)
  replace B1 := Lib.hid (B1.out.alloc B1.out.size (.cells #[.int .i64 3, .slice (some ⟨ga, 0, none⟩) 2 da, .slice (some ⟨gqa, 0, none⟩) 1 fa] 25))
  have c0 := blk_cell CB.out 0
  have c1 := blk_cell CB.out 1
  have c2 := blk_cell CB.out 2
  have p1 := blk_cell PA.out 1; have p2 := blk_cell PA.out 2; have fp1 := blk_frozen PA.out 1; have fp2 := blk_frozen PA.out 2
  have KX := Lib.hid (show KeptX 40 (w5.alloc (.cells #[.int .i64 3, .slice (some ⟨ga, 0, none⟩) 2 da, .slice (some ⟨gqa, 0, none⟩) 1 fa] 25)) (((w5.alloc (.cells #[.int .i64 3, .slice (some ⟨ga, 0, none⟩) 2 da, .slice (some ⟨gqa, 0, none⟩) 1 fa] 25)).setCell ⟨gP, 1, none⟩ (.int .i64 64)).setCell ⟨gP, 2, none⟩ (.int .i64 16)) from (KeptX.trans (KeptX.set PA.out 1 (.int .i64 64)) (KeptX.set (blk_set PA.out 1 (.int .i64 64)) 2 (.int .i64 16))))
  have NEW := Lib.hid (show ((((w5.alloc (.cells #[.int .i64 3, .slice (some ⟨ga, 0, none⟩) 2 da, .slice (some ⟨gqa, 0, none⟩) 1 fa] 25)).setCell ⟨gP, 1, none⟩ (.int .i64 64)).setCell ⟨gP, 2, none⟩ (.int .i64 16))).heap[gP]? = some (.cells #[.int .i64 1, .int .i64 64, .int .i64 16, .bool true, .slice (some ⟨gI, 0, none⟩) 1 1, .int .i64 2, .int .i64 16, .int .i64 16, .bool false, .slice none 0 0] 40 (0, 0)) from (blk_set (blk_set PA.out 1 (.int .i64 64)) 2 (.int .i64 16)))
  replace IM := Lib.hid (KX.out.2 _ _ _ (by decide) IM.out)
  replace CN := Lib.hid (KX.out.2 _ _ _ (by decide) CN.out)
  replace CB := Lib.hid (KX.out.2 _ _ _ (by decide) CB.out)
  replace SP := Lib.hid (KX.out.2 _ _ _ (by decide) SP.out)
  replace SQ := Lib.hid (KX.out.2 _ _ _ (by decide) SQ.out)
  replace SB := Lib.hid (KX.out.2 _ _ _ (by decide) SB.out)
  replace RR := Lib.hid (KX.out.2 _ _ _ (by decide) RR.out)
  replace RM := Lib.hid (KX.out.2 _ _ _ (by decide) RM.out)
  replace SPa := Lib.hid (KX.out.2 _ _ _ (by decide) SPa.out)
  replace SQa := Lib.hid (KX.out.2 _ _ _ (by decide) SQa.out)
  replace STa := Lib.hid (KX.out.2 _ _ _ (by decide) STa.out)
  replace M1 := Lib.hid (msg_keptX M1.out (by decide) KX.out)
  replace M2 := Lib.hid (msg_keptX M2.out (by decide) KX.out)
  replace B1 := Lib.hid (show Below w.heap.size w (((w5.alloc (.cells #[.int .i64 3, .slice (some ⟨ga, 0, none⟩) 2 da, .slice (some ⟨gqa, 0, none⟩) 1 fa] 25)).setCell ⟨gP, 1, none⟩ (.int .i64 64)).setCell ⟨gP, 2, none⟩ (.int .i64 16)) from ((B1.out.setCell (p := ⟨gP, 1, none⟩) hLP (.int .i64 64)).setCell (p := ⟨gP, 2, none⟩) hLP (.int .i64 16)))
  clear PA KX
  have PA := NEW
  clear NEW
  have s0 := blk_cell SB.out 0
  have s1 := blk_cell SB.out 1
  have s2 := blk_cell SB.out 2
  have e0 := blk_cell CB.out 0
  have e1 := blk_cell CB.out 1
  have e2 := blk_cell CB.out 2
  go_wp2_with fail
  generalize (((w5.alloc (.cells #[.int .i64 3, .slice (some ⟨ga, 0, none⟩) 2 da, .slice (some ⟨gqa, 0, none⟩) 1 fa] 25)).setCell ⟨gP, 1, none⟩ (.int .i64 64)).setCell ⟨gP, 2, none⟩ (.int .i64 16)) = w6 at IM PA CN CB SP SQ SB RR RM SPa SQa STa M1 M2 B1 ⊢
  clear s0 s1 s2 e0 e1 e2 c0 c1 c2 p1 p2 fp1 fp2
  have Tb := move 3 [⟨1, 16, true, 7, 0, 0, 0, 0, 0, 0, 0, 0, 0, (freshP ⟨1, 0, 16, true, [1]⟩).mem⟩, ⟨2, 16, false, 7, 0, 0, 0, 0, 0, 0, 0, 0, 0, (freshP ⟨2, 16, 16, false, []⟩).mem⟩] [⟨1, 64, 16, true, [1]⟩, ⟨2, 16, 16, false, []⟩] [⟨⟨1, 1, 2, 1, 4⟩, [[5]]⟩] [⟨1, 1, 2, 1, 4⟩] (some ⟨gS, 0, none⟩) (some ⟨gQ, 0, none⟩) (some ⟨gW, 0, none⟩) (some ⟨gP, 0, none⟩) (some ⟨gN, 0, none⟩) 2 d2 1 f2 1 1 2 2 1 1 rfl rfl rfl rfl (by decide) (by decide) (by decide) (by decide) (by decide) (by decide) w6 (pts_two SP.out HCUR.out M1.out M2.out) (pns_two 64 16 true PA.out IM.out) (qus_one SQ.out HQCUR.out RM.out RR.out) (ch_one CN.out)
  rw [show moveP [⟨1, 16, true, 7, 0, 0, 0, 0, 0, 0, 0, 0, 0, (freshP ⟨1, 0, 16, true, [1]⟩).mem⟩, ⟨2, 16, false, 7, 0, 0, 0, 0, 0, 0, 0, 0, 0, (freshP ⟨2, 16, 16, false, []⟩).mem⟩] [⟨1, 64, 16, true, [1]⟩, ⟨2, 16, 16, false, []⟩] = [⟨1, 16, true, 7, 0, 0, 0, 0, 0, 0, 0, 0, 0, (freshP ⟨1, 0, 16, true, [1]⟩).mem⟩, freshP ⟨2, 16, 16, false, []⟩] from rfl, show moveQ [⟨1, 16, true, 7, 0, 0, 0, 0, 0, 0, 0, 0, 0, (freshP ⟨1, 0, 16, true, [1]⟩).mem⟩, ⟨2, 16, false, 7, 0, 0, 0, 0, 0, 0, 0, 0, 0, (freshP ⟨2, 16, 16, false, []⟩).mem⟩] [⟨1, 64, 16, true, [1]⟩, ⟨2, 16, 16, false, []⟩] [⟨⟨1, 1, 2, 1, 4⟩, [[5]]⟩] [⟨1, 1, 2, 1, 4⟩] = [⟨⟨1, 1, 2, 1, 4⟩, []⟩] from rfl] at Tb
  refine Tb.mono ?_
  rintro e w7 ⟨bb, Ab, db, Bb, fb, rfl, hgp, hgq⟩
  clear Tb
  obtain ⟨gb, amb, acb, am2b, ac2b, curb, rfl, _, hS, hcur, _, _⟩ := grow2 hgp
  clear hgp hgq
  replace IM := Lib.hid (blk_below IM.out bb (blk_lt IM.out))
  replace PA := Lib.hid (blk_below PA.out bb (blk_lt PA.out))
  replace CN := Lib.hid (blk_below CN.out bb (blk_lt CN.out))
  replace CB := Lib.hid (blk_below CB.out bb (blk_lt CB.out))
  replace SP := Lib.hid (blk_below SP.out bb (blk_lt SP.out))
  replace SQ := Lib.hid (blk_below SQ.out bb (blk_lt SQ.out))
  replace SB := Lib.hid (blk_below SB.out bb (blk_lt SB.out))
  replace RR := Lib.hid (blk_below RR.out bb (blk_lt RR.out))
  replace RM := Lib.hid (blk_below RM.out bb (blk_lt RM.out))
  replace SPa := Lib.hid (blk_below SPa.out bb (blk_lt SPa.out))
  replace SQa := Lib.hid (blk_below SQa.out bb (blk_lt SQa.out))
  replace STa := Lib.hid (blk_below STa.out bb (blk_lt STa.out))
  replace M1 := Lib.hid (msg_below M1.out bb)
  replace M2 := Lib.hid (msg_below M2.out bb)
  replace B1 := Lib.hid (B1.out.trans (bb.mono B1.out.size))
  clear bb
  have SPb := Lib.hid hS; have HCb := Lib.hid hcur
  clear hS hcur
  replace IM := Lib.hid (blk_alloc IM.out (.cells #[.int .i64 3, .slice (some ⟨gb, 0, none⟩) 2 db, .slice Bb 1 fb] 25))
  replace PA := Lib.hid (blk_alloc PA.out (.cells #[.int .i64 3, .slice (some ⟨gb, 0, none⟩) 2 db, .slice Bb 1 fb] 25))
  replace CN := Lib.hid (blk_alloc CN.out (.cells #[.int .i64 3, .slice (some ⟨gb, 0, none⟩) 2 db, .slice Bb 1 fb] 25))
  replace CB := Lib.hid (blk_alloc CB.out (.cells #[.int .i64 3, .slice (some ⟨gb, 0, none⟩) 2 db, .slice Bb 1 fb] 25))
  replace SP := Lib.hid (blk_alloc SP.out (.cells #[.int .i64 3, .slice (some ⟨gb, 0, none⟩) 2 db, .slice Bb 1 fb] 25))
  replace SQ := Lib.hid (blk_alloc SQ.out (.cells #[.int .i64 3, .slice (some ⟨gb, 0, none⟩) 2 db, .slice Bb 1 fb] 25))
  replace SB := Lib.hid (blk_alloc SB.out (.cells #[.int .i64 3, .slice (some ⟨gb, 0, none⟩) 2 db, .slice Bb 1 fb] 25))
  replace RR := Lib.hid (blk_alloc RR.out (.cells #[.int .i64 3, .slice (some ⟨gb, 0, none⟩) 2 db, .slice Bb 1 fb] 25))
  replace RM := Lib.hid (blk_alloc RM.out (.cells #[.int .i64 3, .slice (some ⟨gb, 0, none⟩) 2 db, .slice Bb 1 fb] 25))
  replace SPa := Lib.hid (blk_alloc SPa.out (.cells #[.int .i64 3, .slice (some ⟨gb, 0, none⟩) 2 db, .slice Bb 1 fb] 25))
  replace SQa := Lib.hid (blk_alloc SQa.out (.cells #[.int .i64 3, .slice (some ⟨gb, 0, none⟩) 2 db, .slice Bb 1 fb] 25))
  replace STa := Lib.hid (blk_alloc STa.out (.cells #[.int .i64 3, .slice (some ⟨gb, 0, none⟩) 2 db, .slice Bb 1 fb] 25))
  replace SPb := Lib.hid (blk_alloc SPb.out (.cells #[.int .i64 3, .slice (some ⟨gb, 0, none⟩) 2 db, .slice Bb 1 fb] 25))
  replace M1 := Lib.hid (msg_below M1.out (ext1 w7 (.cells #[.int .i64 3, .slice (some ⟨gb, 0, none⟩) 2 db, .slice Bb 1 fb] 25)))
  replace M2 := Lib.hid (msg_below M2.out (ext1 w7 (.cells #[.int .i64 3, .slice (some ⟨gb, 0, none⟩) 2 db, .slice Bb 1 fb] 25)))
  have STb := Lib.hid (blk_new w7 #[.int .i64 3, .slice (some ⟨gb, 0, none⟩) 2 db, .slice Bb 1 fb] 25)
  replace B1 := Lib.hid (B1.out.alloc B1.out.size (.cells #[.int .i64 3, .slice (some ⟨gb, 0, none⟩) 2 db, .slice Bb 1 fb] 25))
  have c0 := blk_cell CB.out 0
  have c1 := blk_cell CB.out 1
  have c2 := blk_cell CB.out 2
  have p2 := blk_cell PA.out 2; have fp2 := blk_frozen PA.out 2
  have KX := Lib.hid (show KeptX 40 (w7.alloc (.cells #[.int .i64 3, .slice (some ⟨gb, 0, none⟩) 2 db, .slice Bb 1 fb] 25)) ((w7.alloc (.cells #[.int .i64 3, .slice (some ⟨gb, 0, none⟩) 2 db, .slice Bb 1 fb] 25)).setCell ⟨gP, 2, none⟩ (.int .i64 32)) from (KeptX.set PA.out 2 (.int .i64 32)))
  have NEW := Lib.hid (show (((w7.alloc (.cells #[.int .i64 3, .slice (some ⟨gb, 0, none⟩) 2 db, .slice Bb 1 fb] 25)).setCell ⟨gP, 2, none⟩ (.int .i64 32))).heap[gP]? = some (.cells #[.int .i64 1, .int .i64 64, .int .i64 32, .bool true, .slice (some ⟨gI, 0, none⟩) 1 1, .int .i64 2, .int .i64 16, .int .i64 16, .bool false, .slice none 0 0] 40 (0, 0)) from (blk_set PA.out 2 (.int .i64 32)))
  replace IM := Lib.hid (KX.out.2 _ _ _ (by decide) IM.out)
  replace CN := Lib.hid (KX.out.2 _ _ _ (by decide) CN.out)
  replace CB := Lib.hid (KX.out.2 _ _ _ (by decide) CB.out)
  replace SP := Lib.hid (KX.out.2 _ _ _ (by decide) SP.out)
  replace SQ := Lib.hid (KX.out.2 _ _ _ (by decide) SQ.out)
  replace SB := Lib.hid (KX.out.2 _ _ _ (by decide) SB.out)
  replace RR := Lib.hid (KX.out.2 _ _ _ (by decide) RR.out)
  replace RM := Lib.hid (KX.out.2 _ _ _ (by decide) RM.out)
  replace SPa := Lib.hid (KX.out.2 _ _ _ (by decide) SPa.out)
  replace SQa := Lib.hid (KX.out.2 _ _ _ (by decide) SQa.out)
  replace STa := Lib.hid (KX.out.2 _ _ _ (by decide) STa.out)
  replace SPb := Lib.hid (KX.out.2 _ _ _ (by decide) SPb.out)
  replace STb := Lib.hid (KX.out.2 _ _ _ (by decide) STb.out)
  replace M1 := Lib.hid (msg_keptX M1.out (by decide) KX.out)
  replace M2 := Lib.hid (msg_keptX M2.out (by decide) KX.out)
  replace B1 := Lib.hid (show Below w.heap.size w ((w7.alloc (.cells #[.int .i64 3, .slice (some ⟨gb, 0, none⟩) 2 db, .slice Bb 1 fb] 25)).setCell ⟨gP, 2, none⟩ (.int .i64 32)) from (B1.out.setCell (p := ⟨gP, 2, none⟩) hLP (.int .i64 32)))
  clear PA KX
  have PA := NEW
  clear NEW
  have s0 := blk_cell SB.out 0
  have s1 := blk_cell SB.out 1
  have s2 := blk_cell SB.out 2
  have e0 := blk_cell CB.out 0
  have e1 := blk_cell CB.out 1
  have e2 := blk_cell CB.out 2
  go_wp2_with fail
  generalize ((w7.alloc (.cells #[.int .i64 3, .slice (some ⟨gb, 0, none⟩) 2 db, .slice Bb 1 fb] 25)).setCell ⟨gP, 2, none⟩ (.int .i64 32)) = w8 at IM PA CN CB SP SQ SB RR RM SPa SQa STa SPb STb M1 M2 B1 ⊢
  clear s0 s1 s2 e0 e1 e2 c0 c1 c2 p2 fp2
  have Td := move 3 [⟨1, 16, true, 7, 0, 0, 0, 0, 0, 0, 0, 0, 0, (freshP ⟨1, 0, 16, true, [1]⟩).mem⟩, ⟨2, 16, false, 7, 0, 0, 0, 0, 0, 0, 0, 0, 0, (freshP ⟨2, 16, 16, false, []⟩).mem⟩] [⟨1, 64, 32, true, [1]⟩, ⟨2, 16, 16, false, []⟩] [⟨⟨1, 1, 2, 1, 4⟩, [[5]]⟩] [⟨1, 1, 2, 1, 4⟩] (some ⟨gS, 0, none⟩) (some ⟨gQ, 0, none⟩) (some ⟨gW, 0, none⟩) (some ⟨gP, 0, none⟩) (some ⟨gN, 0, none⟩) 2 d2 1 f2 1 1 2 2 1 1 rfl rfl rfl rfl (by decide) (by decide) (by decide) (by decide) (by decide) (by decide) w8 (pts_two SP.out HCUR.out M1.out M2.out) (pns_two 64 32 true PA.out IM.out) (qus_one SQ.out HQCUR.out RM.out RR.out) (ch_one CN.out)
  rw [show moveP [⟨1, 16, true, 7, 0, 0, 0, 0, 0, 0, 0, 0, 0, (freshP ⟨1, 0, 16, true, [1]⟩).mem⟩, ⟨2, 16, false, 7, 0, 0, 0, 0, 0, 0, 0, 0, 0, (freshP ⟨2, 16, 16, false, []⟩).mem⟩] [⟨1, 64, 32, true, [1]⟩, ⟨2, 16, 16, false, []⟩] = [freshP ⟨1, 64, 32, true, [1]⟩, freshP ⟨2, 16, 16, false, []⟩] from rfl, show moveQ [⟨1, 16, true, 7, 0, 0, 0, 0, 0, 0, 0, 0, 0, (freshP ⟨1, 0, 16, true, [1]⟩).mem⟩, ⟨2, 16, false, 7, 0, 0, 0, 0, 0, 0, 0, 0, 0, (freshP ⟨2, 16, 16, false, []⟩).mem⟩] [⟨1, 64, 32, true, [1]⟩, ⟨2, 16, 16, false, []⟩] [⟨⟨1, 1, 2, 1, 4⟩, [[5]]⟩] [⟨1, 1, 2, 1, 4⟩] = [⟨⟨1, 1, 2, 1, 4⟩, []⟩] from rfl] at Td
  refine Td.mono ?_
  rintro e w9 ⟨bd, Ad, dd, Bd, fd, rfl, hgp, hgq⟩
  clear Td
  obtain ⟨gd, amd, acd, am2d, ac2d, curd, rfl, _, hS, hcur, _, _⟩ := grow2 hgp
  clear hgp hgq
  replace IM := Lib.hid (blk_below IM.out bd (blk_lt IM.out))
  replace PA := Lib.hid (blk_below PA.out bd (blk_lt PA.out))
  replace CN := Lib.hid (blk_below CN.out bd (blk_lt CN.out))
  replace CB := Lib.hid (blk_below CB.out bd (blk_lt CB.out))
  replace SP := Lib.hid (blk_below SP.out bd (blk_lt SP.out))
  replace SQ := Lib.hid (blk_below SQ.out bd (blk_lt SQ.out))
  replace SB := Lib.hid (blk_below SB.out bd (blk_lt SB.out))
  replace RR := Lib.hid (blk_below RR.out bd (blk_lt RR.out))
  replace RM := Lib.hid (blk_below RM.out bd (blk_lt RM.out))
  replace SPa := Lib.hid (blk_below SPa.out bd (blk_lt SPa.out))
  replace SQa := Lib.hid (blk_below SQa.out bd (blk_lt SQa.out))
  replace STa := Lib.hid (blk_below STa.out bd (blk_lt STa.out))
  replace SPb := Lib.hid (blk_below SPb.out bd (blk_lt SPb.out))
  replace STb := Lib.hid (blk_below STb.out bd (blk_lt STb.out))
  replace M1 := Lib.hid (msg_below M1.out bd)
  replace M2 := Lib.hid (msg_below M2.out bd)
  replace B1 := Lib.hid (B1.out.trans (bd.mono B1.out.size))
  clear bd
  have SPd := Lib.hid hS; have HCd := Lib.hid hcur
  clear hS hcur
  replace IM := Lib.hid (blk_alloc IM.out (.cells #[.int .i64 3, .slice (some ⟨gd, 0, none⟩) 2 dd, .slice Bd 1 fd] 25))
  replace PA := Lib.hid (blk_alloc PA.out (.cells #[.int .i64 3, .slice (some ⟨gd, 0, none⟩) 2 dd, .slice Bd 1 fd] 25))
  replace CN := Lib.hid (blk_alloc CN.out (.cells #[.int .i64 3, .slice (some ⟨gd, 0, none⟩) 2 dd, .slice Bd 1 fd] 25))
  replace CB := Lib.hid (blk_alloc CB.out (.cells #[.int .i64 3, .slice (some ⟨gd, 0, none⟩) 2 dd, .slice Bd 1 fd] 25))
  replace SP := Lib.hid (blk_alloc SP.out (.cells #[.int .i64 3, .slice (some ⟨gd, 0, none⟩) 2 dd, .slice Bd 1 fd] 25))
  replace SQ := Lib.hid (blk_alloc SQ.out (.cells #[.int .i64 3, .slice (some ⟨gd, 0, none⟩) 2 dd, .slice Bd 1 fd] 25))
  replace SB := Lib.hid (blk_alloc SB.out (.cells #[.int .i64 3, .slice (some ⟨gd, 0, none⟩) 2 dd, .slice Bd 1 fd] 25))
  replace RR := Lib.hid (blk_alloc RR.out (.cells #[.int .i64 3, .slice (some ⟨gd, 0, none⟩) 2 dd, .slice Bd 1 fd] 25))
  replace RM := Lib.hid (blk_alloc RM.out (.cells #[.int .i64 3, .slice (some ⟨gd, 0, none⟩) 2 dd, .slice Bd 1 fd] 25))
  replace SPa := Lib.hid (blk_alloc SPa.out (.cells #[.int .i64 3, .slice (some ⟨gd, 0, none⟩) 2 dd, .slice Bd 1 fd] 25))
  replace SQa := Lib.hid (blk_alloc SQa.out (.cells #[.int .i64 3, .slice (some ⟨gd, 0, none⟩) 2 dd, .slice Bd 1 fd] 25))
  replace STa := Lib.hid (blk_alloc STa.out (.cells #[.int .i64 3, .slice (some ⟨gd, 0, none⟩) 2 dd, .slice Bd 1 fd] 25))
  replace SPb := Lib.hid (blk_alloc SPb.out (.cells #[.int .i64 3, .slice (some ⟨gd, 0, none⟩) 2 dd, .slice Bd 1 fd] 25))
  replace STb := Lib.hid (blk_alloc STb.out (.cells #[.int .i64 3, .slice (some ⟨gd, 0, none⟩) 2 dd, .slice Bd 1 fd] 25))
  replace SPd := Lib.hid (blk_alloc SPd.out (.cells #[.int .i64 3, .slice (some ⟨gd, 0, none⟩) 2 dd, .slice Bd 1 fd] 25))
  replace M1 := Lib.hid (msg_below M1.out (ext1 w9 (.cells #[.int .i64 3, .slice (some ⟨gd, 0, none⟩) 2 dd, .slice Bd 1 fd] 25)))
  replace M2 := Lib.hid (msg_below M2.out (ext1 w9 (.cells #[.int .i64 3, .slice (some ⟨gd, 0, none⟩) 2 dd, .slice Bd 1 fd] 25)))
  have STd := Lib.hid (blk_new w9 #[.int .i64 3, .slice (some ⟨gd, 0, none⟩) 2 dd, .slice Bd 1 fd] 25)
  replace B1 := Lib.hid (B1.out.alloc B1.out.size (.cells #[.int .i64 3, .slice (some ⟨gd, 0, none⟩) 2 dd, .slice Bd 1 fd] 25))
  go_wp2_with fail
  generalize (w9.alloc (.cells #[.int .i64 3, .slice (some ⟨gd, 0, none⟩) 2 dd, .slice Bd 1 fd] 25)) = w10 at IM PA CN CB SP SQ SB RR RM SPa SQa STa SPb STb SPd STd M1 M2 B1 ⊢
  refine (small w10).mono ?_
  rintro e w11 ⟨b11, rfl, hi2, hp2, hk2⟩
  have zC := B1.out.size
  clear IM PA CN
  replace CB := Lib.hid (blk_below CB.out b11 (blk_lt CB.out))
  replace SP := Lib.hid (blk_below SP.out b11 (blk_lt SP.out))
  replace SQ := Lib.hid (blk_below SQ.out b11 (blk_lt SQ.out))
  replace SB := Lib.hid (blk_below SB.out b11 (blk_lt SB.out))
  replace RR := Lib.hid (blk_below RR.out b11 (blk_lt RR.out))
  replace RM := Lib.hid (blk_below RM.out b11 (blk_lt RM.out))
  replace SPa := Lib.hid (blk_below SPa.out b11 (blk_lt SPa.out))
  replace SQa := Lib.hid (blk_below SQa.out b11 (blk_lt SQa.out))
  replace STa := Lib.hid (blk_below STa.out b11 (blk_lt STa.out))
  replace SPb := Lib.hid (blk_below SPb.out b11 (blk_lt SPb.out))
  replace STb := Lib.hid (blk_below STb.out b11 (blk_lt STb.out))
  replace SPd := Lib.hid (blk_below SPd.out b11 (blk_lt SPd.out))
  replace STd := Lib.hid (blk_below STd.out b11 (blk_lt STd.out))
  replace M1 := Lib.hid (msg_below M1.out b11)
  replace M2 := Lib.hid (msg_below M2.out b11)
  replace B1 := Lib.hid (B1.out.trans (b11.mono B1.out.size))
  clear b11
  have IN := Lib.hid hi2; have PB := Lib.hid hp2; have CM := Lib.hid hk2
  clear hi2 hp2 hk2
  obtain ⟨gW2, hgW⟩ : ∃ g, g = w10.heap.size + 1 := ⟨_, rfl⟩
  obtain ⟨gI2, hgI⟩ : ∃ g, g = w10.heap.size + 2 := ⟨_, rfl⟩
  obtain ⟨gP2, hgP⟩ : ∃ g, g = w10.heap.size + 3 := ⟨_, rfl⟩
  obtain ⟨gN2, hgN⟩ : ∃ g, g = w10.heap.size + 4 := ⟨_, rfl⟩
  rw [← hgI] at IN PB; rw [← hgP] at PB; rw [← hgN] at CM; rw [← hgW, ← hgP, ← hgN]
  have hLPB : w.heap.size ≤ gP2 := by omega
  clear hgW hgI hgN hgP zC
  go_wp2_with (refine wpList_store_at rfl 30 (.tmp 1) (.tmp 80) rfl w1.heap.size #[.slice (some ⟨gW2, 0, none⟩) 1 1, .slice (some ⟨gP2, 0, none⟩) 2 2, .slice (some ⟨gN2, 0, none⟩) 1 1] rfl rfl 30 _ CB.out info_cf rfl (by simp [Value.oneCell']) ?_)
  intro w12 hw12
  have KX := Lib.hid (KeptX.row CB.out #[.slice (some ⟨gW2, 0, none⟩) 1 1, .slice (some ⟨gP2, 0, none⟩) 2 2, .slice (some ⟨gN2, 0, none⟩) 1 1])
  replace SP := Lib.hid (KX.out.2 _ _ _ (by decide) SP.out)
  replace SQ := Lib.hid (KX.out.2 _ _ _ (by decide) SQ.out)
  replace SB := Lib.hid (KX.out.2 _ _ _ (by decide) SB.out)
  replace RR := Lib.hid (KX.out.2 _ _ _ (by decide) RR.out)
  replace RM := Lib.hid (KX.out.2 _ _ _ (by decide) RM.out)
  replace SPa := Lib.hid (KX.out.2 _ _ _ (by decide) SPa.out)
  replace SQa := Lib.hid (KX.out.2 _ _ _ (by decide) SQa.out)
  replace STa := Lib.hid (KX.out.2 _ _ _ (by decide) STa.out)
  replace SPb := Lib.hid (KX.out.2 _ _ _ (by decide) SPb.out)
  replace STb := Lib.hid (KX.out.2 _ _ _ (by decide) STb.out)
  replace SPd := Lib.hid (KX.out.2 _ _ _ (by decide) SPd.out)
  replace STd := Lib.hid (KX.out.2 _ _ _ (by decide) STd.out)
  replace IN := Lib.hid (KX.out.2 _ _ _ (by decide) IN.out)
  replace PB := Lib.hid (KX.out.2 _ _ _ (by decide) PB.out)
  replace CM := Lib.hid (KX.out.2 _ _ _ (by decide) CM.out)
  replace CB := Lib.hid (blk_row CB.out #[.slice (some ⟨gW2, 0, none⟩) 1 1, .slice (some ⟨gP2, 0, none⟩) 2 2, .slice (some ⟨gN2, 0, none⟩) 1 1])
  replace M1 := Lib.hid (msg_keptX M1.out (by decide) KX.out)
  replace M2 := Lib.hid (msg_keptX M2.out (by decide) KX.out)
  replace B1 := Lib.hid (below_row B1.out (Nat.le_of_lt (Nat.lt_of_lt_of_le (Nat.lt_of_succ_le (Nat.le_trans (Nat.add_le_add_left (by decide : 1 ≤ 5) _) z1)) (Nat.le_refl _))) #[.slice (some ⟨gW2, 0, none⟩) 1 1, .slice (some ⟨gP2, 0, none⟩) 2 2, .slice (some ⟨gN2, 0, none⟩) 1 1])
  clear KX
  rw [← hw12.out] at CB SP SQ SB RR RM SPa SQa STa SPb STb SPd STd IN PB CM M1 M2 B1
  clear hw12
  have c0 := blk_cell CB.out 0
  have c1 := blk_cell CB.out 1
  have c2 := blk_cell CB.out 2
  have p3 := blk_cell PB.out 3; have fp3 := blk_frozen PB.out 3
  have KX := Lib.hid (show KeptX 40 w12 (w12.setCell ⟨gP2, 3, none⟩ (.bool false)) from (KeptX.set PB.out 3 (.bool false)))
  have NEW := Lib.hid (show ((w12.setCell ⟨gP2, 3, none⟩ (.bool false))).heap[gP2]? = some (.cells #[.int .i64 1, .int .i64 0, .int .i64 16, .bool false, .slice (some ⟨gI2, 0, none⟩) 1 1, .int .i64 2, .int .i64 16, .int .i64 16, .bool false, .slice none 0 0] 40 (0, 0)) from (blk_set PB.out 3 (.bool false)))
  replace CB := Lib.hid (KX.out.2 _ _ _ (by decide) CB.out)
  replace SP := Lib.hid (KX.out.2 _ _ _ (by decide) SP.out)
  replace SQ := Lib.hid (KX.out.2 _ _ _ (by decide) SQ.out)
  replace SB := Lib.hid (KX.out.2 _ _ _ (by decide) SB.out)
  replace RR := Lib.hid (KX.out.2 _ _ _ (by decide) RR.out)
  replace RM := Lib.hid (KX.out.2 _ _ _ (by decide) RM.out)
  replace SPa := Lib.hid (KX.out.2 _ _ _ (by decide) SPa.out)
  replace SQa := Lib.hid (KX.out.2 _ _ _ (by decide) SQa.out)
  replace STa := Lib.hid (KX.out.2 _ _ _ (by decide) STa.out)
  replace SPb := Lib.hid (KX.out.2 _ _ _ (by decide) SPb.out)
  replace STb := Lib.hid (KX.out.2 _ _ _ (by decide) STb.out)
  replace SPd := Lib.hid (KX.out.2 _ _ _ (by decide) SPd.out)
  replace STd := Lib.hid (KX.out.2 _ _ _ (by decide) STd.out)
  replace IN := Lib.hid (KX.out.2 _ _ _ (by decide) IN.out)
  replace CM := Lib.hid (KX.out.2 _ _ _ (by decide) CM.out)
  replace M1 := Lib.hid (msg_keptX M1.out (by decide) KX.out)
  replace M2 := Lib.hid (msg_keptX M2.out (by decide) KX.out)
  replace B1 := Lib.hid (show Below w.heap.size w (w12.setCell ⟨gP2, 3, none⟩ (.bool false)) from (B1.out.setCell (p := ⟨gP2, 3, none⟩) hLPB (.bool false)))
  clear PB KX
  have PB := NEW
  clear NEW
  have s0 := blk_cell SB.out 0
  have s1 := blk_cell SB.out 1
  have s2 := blk_cell SB.out 2
  have e0 := blk_cell CB.out 0
  have e1 := blk_cell CB.out 1
  have e2 := blk_cell CB.out 2
  go_wp2_with fail
  generalize (w12.setCell ⟨gP2, 3, none⟩ (.bool false)) = w13 at CB SP SQ SB RR RM SPa SQa STa SPb STb SPd STd IN PB CM M1 M2 B1 ⊢
  clear s0 s1 s2 e0 e1 e2 c0 c1 c2 p3 fp3
  have Te := move 3 [⟨1, 16, true, 7, 0, 0, 0, 0, 0, 0, 0, 0, 0, (freshP ⟨1, 0, 16, true, [1]⟩).mem⟩, ⟨2, 16, false, 7, 0, 0, 0, 0, 0, 0, 0, 0, 0, (freshP ⟨2, 16, 16, false, []⟩).mem⟩] [⟨1, 0, 16, false, [1]⟩, ⟨2, 16, 16, false, []⟩] [⟨⟨1, 1, 2, 1, 4⟩, [[5]]⟩] [⟨1, 1, 2, 1, 4⟩] (some ⟨gS, 0, none⟩) (some ⟨gQ, 0, none⟩) (some ⟨gW2, 0, none⟩) (some ⟨gP2, 0, none⟩) (some ⟨gN2, 0, none⟩) 2 d2 1 f2 1 1 2 2 1 1 rfl rfl rfl rfl (by decide) (by decide) (by decide) (by decide) (by decide) (by decide) w13 (pts_two SP.out HCUR.out M1.out M2.out) (pns_two 0 16 false PB.out IN.out) (qus_one SQ.out HQCUR.out RM.out RR.out) (ch_one CM.out)
  rw [show moveP [⟨1, 16, true, 7, 0, 0, 0, 0, 0, 0, 0, 0, 0, (freshP ⟨1, 0, 16, true, [1]⟩).mem⟩, ⟨2, 16, false, 7, 0, 0, 0, 0, 0, 0, 0, 0, 0, (freshP ⟨2, 16, 16, false, []⟩).mem⟩] [⟨1, 0, 16, false, [1]⟩, ⟨2, 16, 16, false, []⟩] = [freshP ⟨1, 0, 16, false, [1]⟩, freshP ⟨2, 16, 16, false, []⟩] from rfl, show moveQ [⟨1, 16, true, 7, 0, 0, 0, 0, 0, 0, 0, 0, 0, (freshP ⟨1, 0, 16, true, [1]⟩).mem⟩, ⟨2, 16, false, 7, 0, 0, 0, 0, 0, 0, 0, 0, 0, (freshP ⟨2, 16, 16, false, []⟩).mem⟩] [⟨1, 0, 16, false, [1]⟩, ⟨2, 16, 16, false, []⟩] [⟨⟨1, 1, 2, 1, 4⟩, [[5]]⟩] [⟨1, 1, 2, 1, 4⟩] = [⟨⟨1, 1, 2, 1, 4⟩, []⟩] from rfl] at Te
  refine Te.mono ?_
  rintro e w14 ⟨be, Ae, de, Be, fe, rfl, hgp, hgq⟩
  clear Te
  obtain ⟨ge, ame, ace, am2e, ac2e, cure, rfl, _, hS, hcur, _, _⟩ := grow2 hgp
  clear hgp hgq
  replace CB := Lib.hid (blk_below CB.out be (blk_lt CB.out))
  replace SP := Lib.hid (blk_below SP.out be (blk_lt SP.out))
  replace SQ := Lib.hid (blk_below SQ.out be (blk_lt SQ.out))
  replace SB := Lib.hid (blk_below SB.out be (blk_lt SB.out))
  replace RR := Lib.hid (blk_below RR.out be (blk_lt RR.out))
  replace RM := Lib.hid (blk_below RM.out be (blk_lt RM.out))
  replace SPa := Lib.hid (blk_below SPa.out be (blk_lt SPa.out))
  replace SQa := Lib.hid (blk_below SQa.out be (blk_lt SQa.out))
  replace STa := Lib.hid (blk_below STa.out be (blk_lt STa.out))
  replace SPb := Lib.hid (blk_below SPb.out be (blk_lt SPb.out))
  replace STb := Lib.hid (blk_below STb.out be (blk_lt STb.out))
  replace SPd := Lib.hid (blk_below SPd.out be (blk_lt SPd.out))
  replace STd := Lib.hid (blk_below STd.out be (blk_lt STd.out))
  replace IN := Lib.hid (blk_below IN.out be (blk_lt IN.out))
  replace PB := Lib.hid (blk_below PB.out be (blk_lt PB.out))
  replace CM := Lib.hid (blk_below CM.out be (blk_lt CM.out))
  replace M1 := Lib.hid (msg_below M1.out be)
  replace M2 := Lib.hid (msg_below M2.out be)
  replace B1 := Lib.hid (B1.out.trans (be.mono B1.out.size))
  clear be
  have SPe := Lib.hid hS; have HCe := Lib.hid hcur
  clear hS hcur
  replace CB := Lib.hid (blk_alloc CB.out (.cells #[.int .i64 3, .slice (some ⟨ge, 0, none⟩) 2 de, .slice Be 1 fe] 25))
  replace SP := Lib.hid (blk_alloc SP.out (.cells #[.int .i64 3, .slice (some ⟨ge, 0, none⟩) 2 de, .slice Be 1 fe] 25))
  replace SQ := Lib.hid (blk_alloc SQ.out (.cells #[.int .i64 3, .slice (some ⟨ge, 0, none⟩) 2 de, .slice Be 1 fe] 25))
  replace SB := Lib.hid (blk_alloc SB.out (.cells #[.int .i64 3, .slice (some ⟨ge, 0, none⟩) 2 de, .slice Be 1 fe] 25))
  replace RR := Lib.hid (blk_alloc RR.out (.cells #[.int .i64 3, .slice (some ⟨ge, 0, none⟩) 2 de, .slice Be 1 fe] 25))
  replace RM := Lib.hid (blk_alloc RM.out (.cells #[.int .i64 3, .slice (some ⟨ge, 0, none⟩) 2 de, .slice Be 1 fe] 25))
  replace SPa := Lib.hid (blk_alloc SPa.out (.cells #[.int .i64 3, .slice (some ⟨ge, 0, none⟩) 2 de, .slice Be 1 fe] 25))
  replace SQa := Lib.hid (blk_alloc SQa.out (.cells #[.int .i64 3, .slice (some ⟨ge, 0, none⟩) 2 de, .slice Be 1 fe] 25))
  replace STa := Lib.hid (blk_alloc STa.out (.cells #[.int .i64 3, .slice (some ⟨ge, 0, none⟩) 2 de, .slice Be 1 fe] 25))
  replace SPb := Lib.hid (blk_alloc SPb.out (.cells #[.int .i64 3, .slice (some ⟨ge, 0, none⟩) 2 de, .slice Be 1 fe] 25))
  replace STb := Lib.hid (blk_alloc STb.out (.cells #[.int .i64 3, .slice (some ⟨ge, 0, none⟩) 2 de, .slice Be 1 fe] 25))
  replace SPd := Lib.hid (blk_alloc SPd.out (.cells #[.int .i64 3, .slice (some ⟨ge, 0, none⟩) 2 de, .slice Be 1 fe] 25))
  replace STd := Lib.hid (blk_alloc STd.out (.cells #[.int .i64 3, .slice (some ⟨ge, 0, none⟩) 2 de, .slice Be 1 fe] 25))
  replace IN := Lib.hid (blk_alloc IN.out (.cells #[.int .i64 3, .slice (some ⟨ge, 0, none⟩) 2 de, .slice Be 1 fe] 25))
  replace PB := Lib.hid (blk_alloc PB.out (.cells #[.int .i64 3, .slice (some ⟨ge, 0, none⟩) 2 de, .slice Be 1 fe] 25))
  replace CM := Lib.hid (blk_alloc CM.out (.cells #[.int .i64 3, .slice (some ⟨ge, 0, none⟩) 2 de, .slice Be 1 fe] 25))
  replace SPe := Lib.hid (blk_alloc SPe.out (.cells #[.int .i64 3, .slice (some ⟨ge, 0, none⟩) 2 de, .slice Be 1 fe] 25))
  replace M1 := Lib.hid (msg_below M1.out (ext1 w14 (.cells #[.int .i64 3, .slice (some ⟨ge, 0, none⟩) 2 de, .slice Be 1 fe] 25)))
  replace M2 := Lib.hid (msg_below M2.out (ext1 w14 (.cells #[.int .i64 3, .slice (some ⟨ge, 0, none⟩) 2 de, .slice Be 1 fe] 25)))
  have STe := Lib.hid (blk_new w14 #[.int .i64 3, .slice (some ⟨ge, 0, none⟩) 2 de, .slice Be 1 fe] 25)
  replace B1 := Lib.hid (B1.out.alloc B1.out.size (.cells #[.int .i64 3, .slice (some ⟨ge, 0, none⟩) 2 de, .slice Be 1 fe] 25))
  have a1 := blk_cell STa.out 1; have a2 := blk_cell STa.out 2; have v1 := blk_cell STb.out 1; have u1 := blk_cell STd.out 1; have t1 := blk_cell STe.out 1
  have r1 : (w14.alloc (.cells #[.int .i64 3, .slice (some ⟨ge, 0, none⟩) 2 de, .slice Be 1 fe] 25)).cell? ⟨ga, 3, none⟩ = some (.int .u32 7) := take_cell SPa.out HCa.out rfl
  have r2 : (w14.alloc (.cells #[.int .i64 3, .slice (some ⟨ge, 0, none⟩) 2 de, .slice Be 1 fe] 25)).cell? ⟨ga, 17, none⟩ = some (.int .u32 0) := take_cell SPa.out HCa.out rfl
  have r3 : (w14.alloc (.cells #[.int .i64 3, .slice (some ⟨ge, 0, none⟩) 2 de, .slice Be 1 fe] 25)).cell? ⟨gqa, 5, none⟩ = some (.slice aqa 0 bqa) := take_cell SQa.out HQa.out rfl
  have r4 : (w14.alloc (.cells #[.int .i64 3, .slice (some ⟨ge, 0, none⟩) 2 de, .slice Be 1 fe] 25)).cell? ⟨gb, 3, none⟩ = some (.int .u32 7) := take_cell SPb.out HCb.out rfl
  have r5 : (w14.alloc (.cells #[.int .i64 3, .slice (some ⟨ge, 0, none⟩) 2 de, .slice Be 1 fe] 25)).cell? ⟨gd, 3, none⟩ = some (.int .u32 0) := take_cell SPd.out HCd.out rfl
  have r6 : (w14.alloc (.cells #[.int .i64 3, .slice (some ⟨ge, 0, none⟩) 2 de, .slice Be 1 fe] 25)).cell? ⟨gd, 13, none⟩ = some (.slice amd 32 acd) := take_cell SPd.out HCd.out rfl
  have r7 : (w14.alloc (.cells #[.int .i64 3, .slice (some ⟨ge, 0, none⟩) 2 de, .slice Be 1 fe] 25)).cell? ⟨ge, 3, none⟩ = some (.int .u32 0) := take_cell SPe.out HCe.out rfl
  go_wp2_with fail
  go_ret
  exact ⟨rfl, B1.out⟩
end Go.Proofs.Ytnfjkpeifleogaa.mv
