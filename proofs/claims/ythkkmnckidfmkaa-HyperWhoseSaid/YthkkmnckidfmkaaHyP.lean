/- Calls of a partition: to and from; no condition. -/
import Derived.Test.YthkkmnckidfmkaaRows
import Derived.Test.YthkkmnckidfmkaaHyH
namespace Go.Proofs.Ythkkmnckidfmkaa.hy
open Go Go.ChangeShapes Go.WideShapes Go.ChangeAt Go.RowKit Go.Proofs.Ythkkmnckidfmkaa.rows
theorem info_hw : (Try.prog.info? 37).map (·.size) = some 5 := by kernel_rfl
theorem info_cw : (Try.prog.info? 29).map (·.size) = some 5 := by kernel_rfl
set_option maxHeartbeats 4000000 in
theorem to_ (fr tk ver : Int) (qs : List Qu) (inp : Msg) (B : Option Addr) (d : Nat) (Ci : Option Addr) (ci : Nat) (hs : Small qs inp) (w : World) (hw : WIn w B d qs Ci ci inp) :
    Calls Try.prog 8 #[.agg #[.int .i64 fr, .int .i64 tk, .int .i64 ver, .slice B qs.length d, .slice Ci inp.length ci]] w (CdOut fr tk ver qs.length inp.length qs inp w) := by
  obtain ⟨nq, hnq⟩ : ∃ m, qs.length = m := ⟨_, rfl⟩
  obtain ⟨ni, hni⟩ : ∃ m, inp.length = m := ⟨_, rfl⟩
  have HB := Lib.hid ((ext1 w (.cells #[.int .i64 fr, .int .i64 tk, .int .i64 ver, .slice B nq d, .slice Ci ni ci] 29)).trans ((ext1 (w.alloc (.cells #[.int .i64 fr, .int .i64 tk, .int .i64 ver, .slice B nq d, .slice Ci ni ci] 29)) (.cells #[.int .i64 0, .int .i64 0, .int .i64 0, .slice none 0 0, .slice none 0 0] 37)).mono (ext1 w (.cells #[.int .i64 fr, .int .i64 tk, .int .i64 ver, .slice B nq d, .slice Ci ni ci] 29)).size))
  have HC := Lib.hid (copied fr tk ver qs inp B d Ci ci hs _ (hw.below HB.out))
  rw [hnq, hni] at HC ⊢
  have G2 := Lib.hid (blk_new2 w (.cells #[.int .i64 fr, .int .i64 tk, .int .i64 ver, .slice B nq d, .slice Ci ni ci] 29) #[.int .i64 0, .int .i64 0, .int .i64 0, .slice none 0 0, .slice none 0 0] 37)
  clear hs hw
  go_enter Try.func8, Try.ntmps8
  go_wp2_with ((with_reducible refine HC.out.mono ?_); rintro e w1 ⟨B2, d2, C2, c2, rfl, ho, hb⟩; have b5 := ext1 w1 (.cells #[.int .i64 fr, .int .i64 tk, .int .i64 ver, .slice B2 nq d2, .slice C2 ni c2] 29); have g2 := blk_below G2.out hb (blk_lt G2.out); have g3 := blk_alloc g2 (.cells #[.int .i64 fr, .int .i64 tk, .int .i64 ver, .slice B2 nq d2, .slice C2 ni c2] 29); have f0 := fun j => blk_frozen g3 j; have HBB := Lib.hid hb; have HO := Lib.hid ho; have y0 := blk_cell g3 0; have y1 := blk_cell g3 1; have y2 := blk_cell g3 2; have y3 := blk_cell g3 3; have y4 := blk_cell g3 4)
  refine ret_row rfl (w.heap.size + 1) 37 _ _ rfl (set5_here g3 _ _ _ _ _) Try.underlying37 rfl info_hw rfl ?_
  have K5 := set5_kept g3 (.int .i64 fr) (.int .i64 tk) (.int .i64 ver) (.slice B2 nq d2) (.slice C2 ni c2)
  have hlo : w.heap.size ≤ w.heap.size + 1 := Nat.le_succ _
  refine ⟨B2, d2, C2, c2, rfl, ⟨((HO.out.1.below b5).keptX (by decide) (by decide) (by decide) K5).lo (HB.out.size), ((HO.out.2.below b5).keptX (by decide) K5).lo (HB.out.size)⟩, ?_⟩
  exact set5_below (HB.out.trans ((HBB.out.trans (b5.mono HBB.out.size)).mono HB.out.size)) hlo _ _ _ _ _
theorem from_ (fr tk ver : Int) (B : Option Addr) (nq d : Nat) (Ci : Option Addr) (ni ci : Nat) (w : World) :
    Calls Try.prog 14 #[.agg #[.int .i64 fr, .int .i64 tk, .int .i64 ver, .slice B nq d, .slice Ci ni ci]] w fun e w' => e = .returned (.agg #[.int .i64 fr, .int .i64 tk, .int .i64 ver, .slice B nq d, .slice Ci ni ci]) ∧ Below w.heap.size w w' := by
  go_enter Try.func14, Try.ntmps14
  go_wp2_with fail
  refine ret_row rfl (w.heap.size + 1) 29 _ _ rfl (blk_new2 w (.cells #[.int .i64 fr, .int .i64 tk, .int .i64 ver, .slice B nq d, .slice Ci ni ci] 37) #[.int .i64 fr, .int .i64 tk, .int .i64 ver, .slice B nq d, .slice Ci ni ci] 29) Try.underlying29 rfl info_cw rfl ?_
  exact ⟨rfl, (ext1 w (.cells #[.int .i64 fr, .int .i64 tk, .int .i64 ver, .slice B nq d, .slice Ci ni ci] 37)).trans ((ext1 (w.alloc (.cells #[.int .i64 fr, .int .i64 tk, .int .i64 ver, .slice B nq d, .slice Ci ni ci] 37)) (.cells #[.int .i64 fr, .int .i64 tk, .int .i64 ver, .slice B nq d, .slice Ci ni ci] 29)).mono (ext1 w (.cells #[.int .i64 fr, .int .i64 tk, .int .i64 ver, .slice B nq d, .slice Ci ni ci] 37)).size)⟩
end Go.Proofs.Ythkkmnckidfmkaa.hy
