/- Regions: the chapter's rows; no condition. -/
import Derived.Test.YtcgpndjidommlaaRows
import Derived.Test.YtcgpndjidommlaaRegF
namespace Go.Proofs.Ytcgpndjidommlaa.reg
open Go Go.ChangeShapes Go.WideShapes Go.ChangeAt Go.RowKit
def two : List Reg := [(0, 16), (32, 16)]
def one : List Reg := [(0, 32)]
theorem place_two : placeV two 16 = ((16, 16), 0) := placeV_some (l := two) (by decide) (by decide) (by decide) 4 (by decide) (fun j hj => by
  have : j = 0 ∨ j = 1 ∨ j = 2 ∨ j = 3 := by omega
  rcases this with rfl | rfl | rfl | rfl <;> decide)
theorem place_one : placeV one 16 = ((32, 16), 0) := placeV_some (l := one) (by decide) (by decide) (by decide) 8 (by decide) (fun j hj => by
  have : j = 0 ∨ j = 1 ∨ j = 2 ∨ j = 3 ∨ j = 4 ∨ j = 5 ∨ j = 6 ∨ j = 7 := by omega
  rcases this with rfl | rfl | rfl | rfl | rfl | rfl | rfl | rfl <;> decide)
theorem may_c (b s : Int) (v : Bool) (h : mayR b s = v) (w : World) : Calls Try.prog 9 #[.agg #[.int .i64 b, .int .i64 s]] w fun e w' => e = .returned (.bool v) ∧ Below w.heap.size w w' := h ▸ may b s w
theorem apart_c (a s b t : Int) (v : Bool) (h : apartR a s b t = v) (w : World) : Calls Try.prog 13 #[.agg #[.int .i64 a, .int .i64 s], .agg #[.int .i64 b, .int .i64 t]] w fun e w' => e = .returned (.bool v) ∧ Below w.heap.size w w' := h ▸ apart a s b t w
theorem holder_c (g : Nat) (x z : Int) (hz : holderR two x = z) (w : World) (h : Rd w (some ⟨g, 0, none⟩) (regCells two)) : Calls Try.prog 20 #[.slice (some ⟨g, 0, none⟩) 2 2, .int .i64 x] w fun e w' => e = .returned (.int .i64 z) ∧ Below w.heap.size w w' := hz ▸ holder two (some ⟨g, 0, none⟩) 2 x (by decide) w h
theorem place_c (l : List Reg) (n : Nat) (hn : l.length = n) (h63 : n ≤ 1000) (g : Nat) (z x y : Int) (hz : placeV l 16 = ((x, y), z)) (w : World) (h : Rd w (some ⟨g, 0, none⟩) (regCells l)) :
    Calls Try.prog 16 #[.slice (some ⟨g, 0, none⟩) n n, .int .i64 16] w fun e w' => e = .returned (.tuple #[.agg #[.int .i64 x, .int .i64 y], .int .i64 z]) ∧ Below w.heap.size w w' := by
  subst hn
  have T := place l (some ⟨g, 0, none⟩) l.length (Nat.le_refl _) (by omega) 16 w h
  unfold PlaceOk at T
  rw [hz] at T
  exact T
set_option maxRecDepth 100000 in
set_option maxHeartbeats 4000000 in
theorem awake (w : World) : Calls Try.prog 15 #[] w fun e w' => e = .returned (.bool true) ∧ Below w.heap.size w w' := by
  have B0 := Lib.hid (Below.refl w.heap.size w)
  go_enter Try.func15, Try.ntmps15
  go_wp2_with fail
  refine (of_any (0) 16 _).mono ?_
  rintro e w1 ⟨rfl, b1⟩
  have B1 := Lib.hid (B0.out.trans (b1.mono B0.out.size))
  clear b1
  go_wp2_with fail
  refine (of_any (32) 16 _).mono ?_
  rintro e w2 ⟨rfl, b2⟩
  have B2 := Lib.hid (B1.out.trans (b2.mono B1.out.size))
  clear b2
  have X2 := Lib.hid (B2.out.alloc B2.out.size (.cells #[.int .i64 0, .int .i64 16, .int .i64 32, .int .i64 16] 23))
  have Tx2 := Lib.hid (Rd.new w2 #[.int .i64 0, .int .i64 16, .int .i64 32, .int .i64 16] 23)
  go_wp2_with fail
  refine (place_c two 2 rfl (by decide) _ 0 16 16 place_two _ Tx2.out).mono ?_
  rintro e w3 ⟨rfl, b3⟩
  have B3 := Lib.hid (X2.out.trans (b3.mono X2.out.size))
  have T3 := Lib.hid (Tx2.out.below b3)
  clear b3
  have X3 := Lib.hid (B3.out.alloc B3.out.size (.cells #[.int .i64 16, .int .i64 16] 23))
  have Tx3 := Lib.hid (Rd.alloc T3.out (.cells #[.int .i64 16, .int .i64 16] 23))
  have Ax3 := Lib.hid (blk_new w3 #[.int .i64 16, .int .i64 16] 23)
  go_wp2_with fail
  refine (of_any (0) 32 _).mono ?_
  rintro e w4 ⟨rfl, b4⟩
  have B4 := Lib.hid (X3.out.trans (b4.mono X3.out.size))
  have T4 := Lib.hid (Tx3.out.below b4)
  have A4 := Lib.hid (blk_below Ax3.out b4 (blk_lt Ax3.out))
  clear b4
  have X4 := Lib.hid (B4.out.alloc B4.out.size (.cells #[.int .i64 0, .int .i64 32] 23))
  have Tx4 := Lib.hid (Rd.alloc T4.out (.cells #[.int .i64 0, .int .i64 32] 23))
  have Ax4 := Lib.hid (blk_alloc A4.out (.cells #[.int .i64 0, .int .i64 32] 23))
  have Ox4 := Lib.hid (Rd.new w4 #[.int .i64 0, .int .i64 32] 23)
  go_wp2_with fail
  refine (place_c one 1 rfl (by decide) _ 0 32 16 place_one _ Ox4.out).mono ?_
  rintro e w5 ⟨rfl, b5⟩
  have B5 := Lib.hid (X4.out.trans (b5.mono X4.out.size))
  have T5 := Lib.hid (Tx4.out.below b5)
  have A5 := Lib.hid (blk_below Ax4.out b5 (blk_lt Ax4.out))
  clear b5
  have HX := Lib.hid (B5.out.alloc B5.out.size (.cells #[.int .i64 32, .int .i64 16] 23))
  have Tz := Lib.hid (T5.out.alloc (.cells #[.int .i64 32, .int .i64 16] 23))
  have Az := Lib.hid (blk_alloc A5.out (.cells #[.int .i64 32, .int .i64 16] 23))
  have Bz := Lib.hid (blk_new w5 #[.int .i64 32, .int .i64 16] 23)
  go_wp2_with fail
  generalize (w5.alloc (.cells #[.int .i64 32, .int .i64 16] 23)) = W at *
  have ya0 : ∀ x : Ext W.heap.size W, x.world.cell? ⟨w3.heap.size, 0, none⟩ = some (.int .i64 16) := fun x => (x.cell _ _ (blk_lt Az.out)).trans (blk_cell Az.out 0)
  have ya1 : ∀ x : Ext W.heap.size W, x.world.cell? ⟨w3.heap.size, 1, none⟩ = some (.int .i64 16) := fun x => (x.cell _ _ (blk_lt Az.out)).trans (blk_cell Az.out 1)
  have yb0 : ∀ x : Ext W.heap.size W, x.world.cell? ⟨w5.heap.size, 0, none⟩ = some (.int .i64 32) := fun x => (x.cell _ _ (blk_lt Bz.out)).trans (blk_cell Bz.out 0)
  have yb1 : ∀ x : Ext W.heap.size W, x.world.cell? ⟨w5.heap.size, 1, none⟩ = some (.int .i64 16) := fun x => (x.cell _ _ (blk_lt Bz.out)).trans (blk_cell Bz.out 1)
  have M0 := may_c (0) 16 true (by decide)
  have M1 := may_c (4) 512 true (by decide)
  have M2 := may_c (2) 16 false (by decide)
  have M3 := may_c (0) 12 false (by decide)
  have M4 := may_c (4084) 16 false (by decide)
  have M5 := may_c (-4) 16 false (by decide)
  have P0 := apart_c 0 16 16 16 true (by decide)
  have P1 := apart_c 0 20 16 16 false (by decide)
  have N0 := fun x : Ext W.heap.size W => holder_c _ 15 (0) (by decide) x.world (Tz.out.below x.below)
  have N1 := fun x : Ext W.heap.size W => holder_c _ 16 (-1) (by decide) x.world (Tz.out.below x.below)
  have N2 := fun x : Ext W.heap.size W => holder_c _ 47 (1) (by decide) x.world (Tz.out.below x.below)
  refine region_ext (by kernel_rfl) (by kernel_rfl) ?_
  simp only [List.append_eq, List.cons_append, List.nil_append]
  repeat (go_big_quiet_step (first | (with_reducible exact calls_ext (Nat.le_refl _) (of_any _ _ _)) | (with_reducible exact calls_ext (Nat.le_refl _) (M0 _)) | (with_reducible exact calls_ext (Nat.le_refl _) (M1 _)) | (with_reducible exact calls_ext (Nat.le_refl _) (M2 _)) | (with_reducible exact calls_ext (Nat.le_refl _) (M3 _)) | (with_reducible exact calls_ext (Nat.le_refl _) (M4 _)) | (with_reducible exact calls_ext (Nat.le_refl _) (M5 _)) | (with_reducible exact calls_ext (Nat.le_refl _) (P0 _)) | (with_reducible exact calls_ext (Nat.le_refl _) (P1 _)) | (with_reducible exact calls_ext (Nat.le_refl _) (N0 _)) | (with_reducible exact calls_ext (Nat.le_refl _) (N1 _)) | (with_reducible exact calls_ext (Nat.le_refl _) (N2 _))))
  refine wpQuiet_nil ?_
  intro x
  go_wp2
  go_ret
  exact ⟨rfl, HX.out.trans (x.below.mono HX.out.size)⟩
end Go.Proofs.Ytcgpndjidommlaa.reg
