/- Calls of a partition: the chapter's rows; no condition. -/
import Derived.Test.YthkkmnckidfmkaaRows
import Derived.Test.YthkkmnckidfmkaaHyM3
import Derived.Test.YthkkmnckidfmkaaHyKM
import Derived.Test.YthkkmnckidfmkaaHyR0
import Derived.Test.YthkkmnckidfmkaaHyR1
import Derived.Deep.CutRange
import Derived.Deep.RegionHeld3
import Derived.BigRegion
import Derived.Deep.Light
namespace Go.Proofs.Ythkkmnckidfmkaa.hy
open Go Go.ChangeShapes Go.WideShapes Go.ChangeAt Go.RowKit Go.Proofs.Ythkkmnckidfmkaa.rows
set_option linter.unusedSimpArgs false in
set_option maxRecDepth 100000 in
set_option maxHeartbeats 16000000 in
theorem awake (w : World) : Calls Try.prog 7 #[] w fun e w' => e = .returned (.bool true) ∧ Below w.heap.size w w' := by
  go_enter Try.func7, Try.ntmps7
  go_wp2_with fail
  have BB := Lib.hid (show Below w.heap.size w ((w.alloc (.cells #[.int .i64 1, .int .i64 1, .int .i64 2, .int .i64 1, .int .i64 4, .slice none 0 0] 36)).alloc (.cells #[.int .i64 5, .int .i64 3, .int .i64 9, .slice (some ⟨w.heap.size, 0, none⟩) 1 1, .slice none 0 0] 37)) from (ext1 w (.cells #[.int .i64 1, .int .i64 1, .int .i64 2, .int .i64 1, .int .i64 4, .slice none 0 0] 36)).trans ((ext1 (w.alloc (.cells #[.int .i64 1, .int .i64 1, .int .i64 2, .int .i64 1, .int .i64 4, .slice none 0 0] 36)) (.cells #[.int .i64 5, .int .i64 3, .int .i64 9, .slice (some ⟨w.heap.size, 0, none⟩) 1 1, .slice none 0 0] 37)).mono (ext1 w (.cells #[.int .i64 1, .int .i64 1, .int .i64 2, .int .i64 1, .int .i64 4, .slice none 0 0] 36)).size))
  have GQ := Lib.hid (blk_alloc (blk_new w #[.int .i64 1, .int .i64 1, .int .i64 2, .int .i64 1, .int .i64 4, .slice none 0 0] 36) (.cells #[.int .i64 5, .int .i64 3, .int .i64 9, .slice (some ⟨w.heap.size, 0, none⟩) 1 1, .slice none 0 0] 37))
  have GV := Lib.hid (blk_new2 w (.cells #[.int .i64 1, .int .i64 1, .int .i64 2, .int .i64 1, .int .i64 4, .slice none 0 0] 36) #[.int .i64 5, .int .i64 3, .int .i64 9, .slice (some ⟨w.heap.size, 0, none⟩) 1 1, .slice none 0 0] 37)
  generalize ((w.alloc (.cells #[.int .i64 1, .int .i64 1, .int .i64 2, .int .i64 1, .int .i64 4, .slice none 0 0] 36)).alloc (.cells #[.int .i64 5, .int .i64 3, .int .i64 9, .slice (some ⟨w.heap.size, 0, none⟩) 1 1, .slice none 0 0] 37)) = w0 at *
  have WI := Lib.hid (show WIn w0 (some ⟨w.heap.size, 0, none⟩) 1 [⟨⟨1, 1, 2, 1, 4⟩, []⟩] none 0 [] from ⟨⟨[(⟨⟨1, 1, 2, 1, 4⟩, []⟩, none, 0)], rfl, .inr ⟨w.heap.size, 0, rfl, blk_lt GQ.out, fun j u hu => by rw [Nat.zero_add, blk_cell GQ.out]; simpa [flat, Qu.cells] using hu⟩, fun u hu => by rw [List.mem_singleton.1 hu]; exact ⟨Nat.le_refl _, fun _ => rfl, Rms.nil⟩⟩, Nat.le_refl _, (fun h => by cases h), Rd.nil, Nat.le_refl _, fun _ => rfl⟩)
  clear GQ
  obtain ⟨L, hL⟩ : ∃ l, w0.heap.size = l := ⟨_, rfl⟩
  have HL := Lib.hid hL
  go_cut [2, 3, 4, 5] from 50 to 57 (fun tX tY tz tf wc => Res L w0 (fun A c => #[.int .i64 1, .int .i64 16, .bool false, .int .u32 1, .int .u32 0, .int .u32 2, .int .u32 0, .int .u32 0, .int .u32 0, .int .u32 0, .int .u32 0, .int .u32 0, .int .u8 0, .slice A 16 c]) (fun B d C e => #[.int .i64 5, .int .i64 3, .int .i64 9, .slice B 1 d, .slice C 0 e]) [7, 8, 0, 0, 0, 0, 0, 0, 0, 0, 0, 0, 0, 0, 0, 0] [⟨⟨1, 1, 2, 1, 4⟩, [[7, 8]]⟩] [] false tX tY tz tf wc)
  case first =>
    rename_i J0 K0 hJ0 hK0
    exact reg0_any GV.out WI.out HL.out rfl _ _ (fun _ _ _ _ _ _ _ _ _ _ _ _ _ h => hK0 _ _ (hJ0 _ _ ⟨_, _, _, _, _, _, _, _, _, _, _, _, h, rfl⟩))
  case rest =>
    obtain ⟨a2, b2, A2, c2, B2, d2, C2, e2, rfl, rfl, rfl, rfl, ⟨t1, t2, hx, hy, hb⟩, hm, ho⟩ := hcut
    dsimp only at hx hy
    have HB0 := Lib.hid (show Below w0.heap.size w0 wc by rw [HL.out]; exact hb)
    obtain ⟨w1, hwn⟩ : ∃ z : World, z = wc := ⟨_, rfl⟩
    subst hwn
    replace GV := Lib.hid (blk_below GV.out HB0.out (blk_lt GV.out)); replace WI := Lib.hid (WI.out.below HB0.out); replace BB := Lib.hid (BB.out.trans (HB0.out.mono BB.out.size))
    have H2 := Lib.hid hx
    have G3 := Lib.hid hy; have WO := Lib.hid ho.win
    obtain ⟨gq, gm, om, cm, M, mc, rfl, q5, m0, hM⟩ := q1_open ho.1
    clear hx hy hm ho t1 t2 hb HL H2
    have c3 := blk_cell G3.out 3
    have d3 := fun o => blk_cell (blk_alloc G3.out o) 3
    have q5a := fun o => Lib.cell?_alloc_marked o q5
    have m0a := fun o => Lib.cell?_alloc_marked o m0
    have S1 := mem.str_rd [7, 8] M 2 mc rfl _ hM
    have S1a := fun o => mem.str_rd [7, 8] M 2 mc rfl _ (hM.below (ext1 w1 o))
    go_wp2_with fail
    have R2 : Rd (w1.alloc (.cells #[.int .u8 7, .int .u8 8] 5)) (some ⟨w1.heap.size, 0, none⟩) (bcs [7, 8]) := .inr ⟨w1.heap.size, 0, rfl, by simp, fun j u hu => by rw [Nat.zero_add, blk_cell (blk_new w1 #[.int .u8 7, .int .u8 8] 5)]; simpa [bcs, Lib.byteCells] using hu⟩
    have S2 := mem.str_rd [7, 8] (some ⟨w1.heap.size, 0, none⟩) 2 2 rfl (w1.alloc (.cells #[.int .u8 7, .int .u8 8] 5)) R2
    have S2d := mem.str_rd [7, 8] (some ⟨w1.heap.size, 0, none⟩) 2 2 rfl (w1.alloc (.cells #[.int .u8 7, .int .u8 8] 5)).drew (R2.below (Below.refl _ _).drew)
    have S1d := mem.str_rd [7, 8] M 2 mc rfl w1.drew (hM.below (Below.refl _ _).drew)
    have S1ad := fun o => mem.str_rd [7, 8] M 2 mc rfl (w1.alloc o).drew (hM.below (ext1 w1 o).drew)
    go_region
    have b2b : Below w1.heap.size w1 (w1.alloc (.cells #[.int .u8 7, .int .u8 8] 5)).drew := (ext1 w1 (.cells #[.int .u8 7, .int .u8 8] 5)).drew
    replace GV := Lib.hid (blk_below GV.out b2b (blk_lt GV.out)); replace WI := Lib.hid (WI.out.below b2b); replace BB := Lib.hid (BB.out.trans (b2b.mono BB.out.size)); replace G3 := Lib.hid (blk_below G3.out b2b (blk_lt G3.out)); replace WO := Lib.hid (WO.out.below b2b)
    generalize (w1.alloc (.cells #[.int .u8 7, .int .u8 8] 5)).drew = w2 at *
    clear q5 m0 hM c3 d3 q5a m0a S1 S1a R2 S2 S2d S1d S1ad b2b HB0
    go_wp2_with fail
    obtain ⟨L, hL⟩ : ∃ l, w2.heap.size = l := ⟨_, rfl⟩
    have HL := Lib.hid hL
    go_cut [6, 7, 8, 9] from 88 to 95 (fun tX tY tz tf wc => Res L w2 (fun A c => #[.int .i64 2, .int .i64 16, .bool false, .int .u32 3, .int .u32 4, .int .u32 4, .int .u32 0, .int .u32 0, .int .u32 0, .int .u32 0, .int .u32 0, .int .u32 0, .int .u8 0, .slice A 16 c]) (fun B d C e => #[.int .i64 5, .int .i64 3, .int .i64 9, .slice B 1 d, .slice C 0 e]) [7, 8, 0, 0, 7, 8, 0, 0, 0, 0, 0, 0, 0, 0, 0, 0] [⟨⟨1, 1, 2, 1, 4⟩, []⟩] [] false tX tY tz tf wc)
    case first =>
      rename_i J0 K0 hJ0 hK0
      exact reg1_any G3.out WO.out HL.out rfl _ _ (fun _ _ _ _ _ _ _ _ _ _ _ _ _ h => hK0 _ _ (hJ0 _ _ ⟨_, _, _, _, _, _, _, _, _, _, _, _, h, rfl⟩))
    case rest =>
      obtain ⟨a6, b6, A6, c6, B6, d6, C6, e6, rfl, rfl, rfl, rfl, ⟨t1, t2, hx, hy, hb⟩, hm, ho⟩ := hcut
      dsimp only at hx hy
      have HB1 := Lib.hid (show Below w2.heap.size w2 wc by rw [HL.out]; exact hb)
      obtain ⟨w3, hwn⟩ : ∃ z : World, z = wc := ⟨_, rfl⟩
      subst hwn
      replace GV := Lib.hid (blk_below GV.out HB1.out (blk_lt GV.out)); replace WI := Lib.hid (WI.out.below HB1.out); replace BB := Lib.hid (BB.out.trans (HB1.out.mono BB.out.size))
      have H6 := Lib.hid hx
      have G7 := Lib.hid hy
      obtain ⟨gp, Ap, cp, rfl, r5⟩ := q0_open ho.1
      obtain ⟨gr, og, rfl, r7, r8⟩ := m1_open hm
      clear hx hy hm ho t1 t2 hb HL
      have e3 := blk_cell H6.out 3
      have e13 := blk_cell H6.out 13
      have f3 := blk_cell G7.out 3
      go_upto_if 138 with fail
      go_cut [] from 139 (fun wc => wc = w3)
      case first =>
        go_wp2_with fail
        go_meet
        exact rfl
      case rest =>
        subst hcut
        rename_i K0 hK0
        refine hK0 _ _ ?_
        exact awake2_any BB.out GV.out WI.out rfl
end Go.Proofs.Ythkkmnckidfmkaa.hy
