/- Regions: are two apart; no condition. -/
import Derived.Test.YtjliaojanmbicaaRows
import Derived.Test.YtjliaojanmbicaaRegA
namespace Go.Proofs.Ytjliaojanmbicaa.reg
open Go Go.ChangeShapes Go.WideShapes Go.ChangeAt Go.RowKit
def apartR (a s b t : Int) : Bool := mayR a s && mayR b t && (decide (a + s ≤ b) || decide (b + t ≤ a))
theorem apart_comm (a s b t : Int) : apartR a s b t = apartR b t a s := by
  unfold apartR
  rw [Bool.and_comm (mayR a s), Bool.or_comm]
set_option maxHeartbeats 1000000 in
theorem apart_na (a s b t : Int) (m1 : mayR a s = false) (w : World) : Calls Try.prog 41 #[.agg #[.int .i64 a, .int .i64 s], .agg #[.int .i64 b, .int .i64 t]] w fun e w' => e = .returned (.bool false) ∧ Below w.heap.size w w' := by
  have M1 := fun (W : World) => (by have := may a s W; rwa [m1] at this : Calls Try.prog 37 #[.agg #[.int .i64 a, .int .i64 s]] W fun e w' => e = .returned (.bool false) ∧ Below W.heap.size W w')
  clear m1
  generalize a + s = z1 at *
  generalize b + t = z2 at *
  have x0 : ((w.alloc (.cells #[.int .i64 a, .int .i64 s] 52)).alloc (.cells #[.int .i64 b, .int .i64 t] 52)).heap[w.heap.size]? = some (.cells #[.int .i64 a, .int .i64 s] 52 (0, 0)) := blk_alloc (blk_new w _ _) _
  have x1 : ((w.alloc (.cells #[.int .i64 a, .int .i64 s] 52)).alloc (.cells #[.int .i64 b, .int .i64 t] 52)).heap[w.heap.size + 1]? = some (.cells #[.int .i64 b, .int .i64 t] 52 (0, 0)) := by
    have := blk_new (w.alloc (.cells #[.int .i64 a, .int .i64 s] 52)) #[.int .i64 b, .int .i64 t] 52
    simpa using this
  have hWb : Below w.heap.size w ((w.alloc (.cells #[.int .i64 a, .int .i64 s] 52)).alloc (.cells #[.int .i64 b, .int .i64 t] 52)) := ((Below.refl _ _).alloc (Nat.le_refl _) _).alloc (by simp) _
  go_enter Try.func41, Try.ntmps41
  go_wp2_with fail
  generalize (w.alloc (.cells #[.int .i64 a, .int .i64 s] 52)).alloc (.cells #[.int .i64 b, .int .i64 t] 52) = W at *
  have y00 : ∀ x : Ext W.heap.size W, x.world.cell? ⟨w.heap.size, 0, none⟩ = some (.int .i64 a) := fun x => (x.cell _ _ (blk_lt x0)).trans (blk_cell x0 0)
  have y01 : ∀ x : Ext W.heap.size W, x.world.cell? ⟨w.heap.size, 1, none⟩ = some (.int .i64 s) := fun x => (x.cell _ _ (blk_lt x0)).trans (blk_cell x0 1)
  have y10 : ∀ x : Ext W.heap.size W, x.world.cell? ⟨w.heap.size + 1, 0, none⟩ = some (.int .i64 b) := fun x => (x.cell _ _ (blk_lt x1)).trans (blk_cell x1 0)
  have y11 : ∀ x : Ext W.heap.size W, x.world.cell? ⟨w.heap.size + 1, 1, none⟩ = some (.int .i64 t) := fun x => (x.cell _ _ (blk_lt x1)).trans (blk_cell x1 1)
  have HB := Lib.hid hWb
  clear x0 x1 hWb
  refine region_ext (by kernel_rfl) (by kernel_rfl) ?_
  repeat (go_big_quiet_step (first | (with_reducible exact calls_ext (Nat.le_refl _) (M1 _))))
  refine wpQuiet_nil ?_
  intro x
  go_wp2
  go_ret
  exact ⟨rfl, HB.out.trans (x.below.mono HB.out.size)⟩
set_option maxHeartbeats 1000000 in
theorem apart_nb (a s b t : Int) (m1 : mayR a s = true) (m2 : mayR b t = false) (w : World) : Calls Try.prog 41 #[.agg #[.int .i64 a, .int .i64 s], .agg #[.int .i64 b, .int .i64 t]] w fun e w' => e = .returned (.bool false) ∧ Below w.heap.size w w' := by
  have M1 := fun (W : World) => (by have := may a s W; rwa [m1] at this : Calls Try.prog 37 #[.agg #[.int .i64 a, .int .i64 s]] W fun e w' => e = .returned (.bool true) ∧ Below W.heap.size W w')
  have M2 := fun (W : World) => (by have := may b t W; rwa [m2] at this : Calls Try.prog 37 #[.agg #[.int .i64 b, .int .i64 t]] W fun e w' => e = .returned (.bool false) ∧ Below W.heap.size W w')
  clear m1 m2
  generalize a + s = z1 at *
  generalize b + t = z2 at *
  have x0 : ((w.alloc (.cells #[.int .i64 a, .int .i64 s] 52)).alloc (.cells #[.int .i64 b, .int .i64 t] 52)).heap[w.heap.size]? = some (.cells #[.int .i64 a, .int .i64 s] 52 (0, 0)) := blk_alloc (blk_new w _ _) _
  have x1 : ((w.alloc (.cells #[.int .i64 a, .int .i64 s] 52)).alloc (.cells #[.int .i64 b, .int .i64 t] 52)).heap[w.heap.size + 1]? = some (.cells #[.int .i64 b, .int .i64 t] 52 (0, 0)) := by
    have := blk_new (w.alloc (.cells #[.int .i64 a, .int .i64 s] 52)) #[.int .i64 b, .int .i64 t] 52
    simpa using this
  have hWb : Below w.heap.size w ((w.alloc (.cells #[.int .i64 a, .int .i64 s] 52)).alloc (.cells #[.int .i64 b, .int .i64 t] 52)) := ((Below.refl _ _).alloc (Nat.le_refl _) _).alloc (by simp) _
  go_enter Try.func41, Try.ntmps41
  go_wp2_with fail
  generalize (w.alloc (.cells #[.int .i64 a, .int .i64 s] 52)).alloc (.cells #[.int .i64 b, .int .i64 t] 52) = W at *
  have y00 : ∀ x : Ext W.heap.size W, x.world.cell? ⟨w.heap.size, 0, none⟩ = some (.int .i64 a) := fun x => (x.cell _ _ (blk_lt x0)).trans (blk_cell x0 0)
  have y01 : ∀ x : Ext W.heap.size W, x.world.cell? ⟨w.heap.size, 1, none⟩ = some (.int .i64 s) := fun x => (x.cell _ _ (blk_lt x0)).trans (blk_cell x0 1)
  have y10 : ∀ x : Ext W.heap.size W, x.world.cell? ⟨w.heap.size + 1, 0, none⟩ = some (.int .i64 b) := fun x => (x.cell _ _ (blk_lt x1)).trans (blk_cell x1 0)
  have y11 : ∀ x : Ext W.heap.size W, x.world.cell? ⟨w.heap.size + 1, 1, none⟩ = some (.int .i64 t) := fun x => (x.cell _ _ (blk_lt x1)).trans (blk_cell x1 1)
  have HB := Lib.hid hWb
  clear x0 x1 hWb
  refine region_ext (by kernel_rfl) (by kernel_rfl) ?_
  repeat (go_big_quiet_step (first | (with_reducible exact calls_ext (Nat.le_refl _) (M1 _)) | (with_reducible exact calls_ext (Nat.le_refl _) (M2 _))))
  refine wpQuiet_nil ?_
  intro x
  go_wp2
  go_ret
  exact ⟨rfl, HB.out.trans (x.below.mono HB.out.size)⟩
set_option maxHeartbeats 1000000 in
theorem apart_l (a s b t : Int) (m1 : mayR a s = true) (m2 : mayR b t = true) (d1 : decide (a + s ≤ b) = true) (w : World) : Calls Try.prog 41 #[.agg #[.int .i64 a, .int .i64 s], .agg #[.int .i64 b, .int .i64 t]] w fun e w' => e = .returned (.bool true) ∧ Below w.heap.size w w' := by
  have M1 := fun (W : World) => (by have := may a s W; rwa [m1] at this : Calls Try.prog 37 #[.agg #[.int .i64 a, .int .i64 s]] W fun e w' => e = .returned (.bool true) ∧ Below W.heap.size W w')
  have M2 := fun (W : World) => (by have := may b t W; rwa [m2] at this : Calls Try.prog 37 #[.agg #[.int .i64 b, .int .i64 t]] W fun e w' => e = .returned (.bool true) ∧ Below W.heap.size W w')
  have E1 := fun (W : World) => end_yes a s m1 W
  clear m1 m2
  generalize a + s = z1 at *
  generalize b + t = z2 at *
  have x0 : ((w.alloc (.cells #[.int .i64 a, .int .i64 s] 52)).alloc (.cells #[.int .i64 b, .int .i64 t] 52)).heap[w.heap.size]? = some (.cells #[.int .i64 a, .int .i64 s] 52 (0, 0)) := blk_alloc (blk_new w _ _) _
  have x1 : ((w.alloc (.cells #[.int .i64 a, .int .i64 s] 52)).alloc (.cells #[.int .i64 b, .int .i64 t] 52)).heap[w.heap.size + 1]? = some (.cells #[.int .i64 b, .int .i64 t] 52 (0, 0)) := by
    have := blk_new (w.alloc (.cells #[.int .i64 a, .int .i64 s] 52)) #[.int .i64 b, .int .i64 t] 52
    simpa using this
  have hWb : Below w.heap.size w ((w.alloc (.cells #[.int .i64 a, .int .i64 s] 52)).alloc (.cells #[.int .i64 b, .int .i64 t] 52)) := ((Below.refl _ _).alloc (Nat.le_refl _) _).alloc (by simp) _
  go_enter Try.func41, Try.ntmps41
  go_wp2_with fail
  generalize (w.alloc (.cells #[.int .i64 a, .int .i64 s] 52)).alloc (.cells #[.int .i64 b, .int .i64 t] 52) = W at *
  have y00 : ∀ x : Ext W.heap.size W, x.world.cell? ⟨w.heap.size, 0, none⟩ = some (.int .i64 a) := fun x => (x.cell _ _ (blk_lt x0)).trans (blk_cell x0 0)
  have y01 : ∀ x : Ext W.heap.size W, x.world.cell? ⟨w.heap.size, 1, none⟩ = some (.int .i64 s) := fun x => (x.cell _ _ (blk_lt x0)).trans (blk_cell x0 1)
  have y10 : ∀ x : Ext W.heap.size W, x.world.cell? ⟨w.heap.size + 1, 0, none⟩ = some (.int .i64 b) := fun x => (x.cell _ _ (blk_lt x1)).trans (blk_cell x1 0)
  have y11 : ∀ x : Ext W.heap.size W, x.world.cell? ⟨w.heap.size + 1, 1, none⟩ = some (.int .i64 t) := fun x => (x.cell _ _ (blk_lt x1)).trans (blk_cell x1 1)
  have HB := Lib.hid hWb
  clear x0 x1 hWb
  refine region_ext (by kernel_rfl) (by kernel_rfl) ?_
  repeat (go_big_quiet_step (first | (with_reducible exact calls_ext (Nat.le_refl _) (M1 _)) | (with_reducible exact calls_ext (Nat.le_refl _) (M2 _)) | (with_reducible exact calls_ext (Nat.le_refl _) (E1 _))))
  refine wpQuiet_nil ?_
  intro x
  go_wp2
  go_ret
  exact ⟨rfl, HB.out.trans (x.below.mono HB.out.size)⟩
set_option maxHeartbeats 1000000 in
theorem apart_rt (a s b t : Int) (m1 : mayR a s = true) (m2 : mayR b t = true) (d1 : decide (a + s ≤ b) = false) (d2 : decide (b + t ≤ a) = true) (w : World) : Calls Try.prog 41 #[.agg #[.int .i64 a, .int .i64 s], .agg #[.int .i64 b, .int .i64 t]] w fun e w' => e = .returned (.bool true) ∧ Below w.heap.size w w' := by
  have M1 := fun (W : World) => (by have := may a s W; rwa [m1] at this : Calls Try.prog 37 #[.agg #[.int .i64 a, .int .i64 s]] W fun e w' => e = .returned (.bool true) ∧ Below W.heap.size W w')
  have M2 := fun (W : World) => (by have := may b t W; rwa [m2] at this : Calls Try.prog 37 #[.agg #[.int .i64 b, .int .i64 t]] W fun e w' => e = .returned (.bool true) ∧ Below W.heap.size W w')
  have E1 := fun (W : World) => end_yes a s m1 W
  have E2 := fun (W : World) => end_yes b t m2 W
  clear m1 m2
  generalize a + s = z1 at *
  generalize b + t = z2 at *
  have x0 : ((w.alloc (.cells #[.int .i64 a, .int .i64 s] 52)).alloc (.cells #[.int .i64 b, .int .i64 t] 52)).heap[w.heap.size]? = some (.cells #[.int .i64 a, .int .i64 s] 52 (0, 0)) := blk_alloc (blk_new w _ _) _
  have x1 : ((w.alloc (.cells #[.int .i64 a, .int .i64 s] 52)).alloc (.cells #[.int .i64 b, .int .i64 t] 52)).heap[w.heap.size + 1]? = some (.cells #[.int .i64 b, .int .i64 t] 52 (0, 0)) := by
    have := blk_new (w.alloc (.cells #[.int .i64 a, .int .i64 s] 52)) #[.int .i64 b, .int .i64 t] 52
    simpa using this
  have hWb : Below w.heap.size w ((w.alloc (.cells #[.int .i64 a, .int .i64 s] 52)).alloc (.cells #[.int .i64 b, .int .i64 t] 52)) := ((Below.refl _ _).alloc (Nat.le_refl _) _).alloc (by simp) _
  go_enter Try.func41, Try.ntmps41
  go_wp2_with fail
  generalize (w.alloc (.cells #[.int .i64 a, .int .i64 s] 52)).alloc (.cells #[.int .i64 b, .int .i64 t] 52) = W at *
  have y00 : ∀ x : Ext W.heap.size W, x.world.cell? ⟨w.heap.size, 0, none⟩ = some (.int .i64 a) := fun x => (x.cell _ _ (blk_lt x0)).trans (blk_cell x0 0)
  have y01 : ∀ x : Ext W.heap.size W, x.world.cell? ⟨w.heap.size, 1, none⟩ = some (.int .i64 s) := fun x => (x.cell _ _ (blk_lt x0)).trans (blk_cell x0 1)
  have y10 : ∀ x : Ext W.heap.size W, x.world.cell? ⟨w.heap.size + 1, 0, none⟩ = some (.int .i64 b) := fun x => (x.cell _ _ (blk_lt x1)).trans (blk_cell x1 0)
  have y11 : ∀ x : Ext W.heap.size W, x.world.cell? ⟨w.heap.size + 1, 1, none⟩ = some (.int .i64 t) := fun x => (x.cell _ _ (blk_lt x1)).trans (blk_cell x1 1)
  have HB := Lib.hid hWb
  clear x0 x1 hWb
  refine region_ext (by kernel_rfl) (by kernel_rfl) ?_
  repeat (go_big_quiet_step (first | (with_reducible exact calls_ext (Nat.le_refl _) (M1 _)) | (with_reducible exact calls_ext (Nat.le_refl _) (M2 _)) | (with_reducible exact calls_ext (Nat.le_refl _) (E1 _)) | (with_reducible exact calls_ext (Nat.le_refl _) (E2 _))))
  refine wpQuiet_nil ?_
  intro x
  go_wp2
  go_ret
  exact ⟨rfl, HB.out.trans (x.below.mono HB.out.size)⟩
set_option maxHeartbeats 1000000 in
theorem apart_rf (a s b t : Int) (m1 : mayR a s = true) (m2 : mayR b t = true) (d1 : decide (a + s ≤ b) = false) (d2 : decide (b + t ≤ a) = false) (w : World) : Calls Try.prog 41 #[.agg #[.int .i64 a, .int .i64 s], .agg #[.int .i64 b, .int .i64 t]] w fun e w' => e = .returned (.bool false) ∧ Below w.heap.size w w' := by
  have M1 := fun (W : World) => (by have := may a s W; rwa [m1] at this : Calls Try.prog 37 #[.agg #[.int .i64 a, .int .i64 s]] W fun e w' => e = .returned (.bool true) ∧ Below W.heap.size W w')
  have M2 := fun (W : World) => (by have := may b t W; rwa [m2] at this : Calls Try.prog 37 #[.agg #[.int .i64 b, .int .i64 t]] W fun e w' => e = .returned (.bool true) ∧ Below W.heap.size W w')
  have E1 := fun (W : World) => end_yes a s m1 W
  have E2 := fun (W : World) => end_yes b t m2 W
  clear m1 m2
  generalize a + s = z1 at *
  generalize b + t = z2 at *
  have x0 : ((w.alloc (.cells #[.int .i64 a, .int .i64 s] 52)).alloc (.cells #[.int .i64 b, .int .i64 t] 52)).heap[w.heap.size]? = some (.cells #[.int .i64 a, .int .i64 s] 52 (0, 0)) := blk_alloc (blk_new w _ _) _
  have x1 : ((w.alloc (.cells #[.int .i64 a, .int .i64 s] 52)).alloc (.cells #[.int .i64 b, .int .i64 t] 52)).heap[w.heap.size + 1]? = some (.cells #[.int .i64 b, .int .i64 t] 52 (0, 0)) := by
    have := blk_new (w.alloc (.cells #[.int .i64 a, .int .i64 s] 52)) #[.int .i64 b, .int .i64 t] 52
    simpa using this
  have hWb : Below w.heap.size w ((w.alloc (.cells #[.int .i64 a, .int .i64 s] 52)).alloc (.cells #[.int .i64 b, .int .i64 t] 52)) := ((Below.refl _ _).alloc (Nat.le_refl _) _).alloc (by simp) _
  go_enter Try.func41, Try.ntmps41
  go_wp2_with fail
  generalize (w.alloc (.cells #[.int .i64 a, .int .i64 s] 52)).alloc (.cells #[.int .i64 b, .int .i64 t] 52) = W at *
  have y00 : ∀ x : Ext W.heap.size W, x.world.cell? ⟨w.heap.size, 0, none⟩ = some (.int .i64 a) := fun x => (x.cell _ _ (blk_lt x0)).trans (blk_cell x0 0)
  have y01 : ∀ x : Ext W.heap.size W, x.world.cell? ⟨w.heap.size, 1, none⟩ = some (.int .i64 s) := fun x => (x.cell _ _ (blk_lt x0)).trans (blk_cell x0 1)
  have y10 : ∀ x : Ext W.heap.size W, x.world.cell? ⟨w.heap.size + 1, 0, none⟩ = some (.int .i64 b) := fun x => (x.cell _ _ (blk_lt x1)).trans (blk_cell x1 0)
  have y11 : ∀ x : Ext W.heap.size W, x.world.cell? ⟨w.heap.size + 1, 1, none⟩ = some (.int .i64 t) := fun x => (x.cell _ _ (blk_lt x1)).trans (blk_cell x1 1)
  have HB := Lib.hid hWb
  clear x0 x1 hWb
  refine region_ext (by kernel_rfl) (by kernel_rfl) ?_
  repeat (go_big_quiet_step (first | (with_reducible exact calls_ext (Nat.le_refl _) (M1 _)) | (with_reducible exact calls_ext (Nat.le_refl _) (M2 _)) | (with_reducible exact calls_ext (Nat.le_refl _) (E1 _)) | (with_reducible exact calls_ext (Nat.le_refl _) (E2 _))))
  refine wpQuiet_nil ?_
  intro x
  go_wp2
  go_ret
  exact ⟨rfl, HB.out.trans (x.below.mono HB.out.size)⟩
theorem apart (a s b t : Int) (w : World) : Calls Try.prog 41 #[.agg #[.int .i64 a, .int .i64 s], .agg #[.int .i64 b, .int .i64 t]] w fun e w' => e = .returned (.bool (apartR a s b t)) ∧ Below w.heap.size w w' := by
  unfold apartR
  cases m1 : mayR a s with
  | false => exact apart_na a s b t m1 w
  | true =>
    cases m2 : mayR b t with
    | false => exact apart_nb a s b t m1 m2 w
    | true =>
      cases d1 : decide (a + s ≤ b) with
      | true => exact apart_l a s b t m1 m2 d1 w
      | false =>
        cases d2 : decide (b + t ≤ a) with
        | true => exact apart_rt a s b t m1 m2 d1 d2 w
        | false => exact apart_rf a s b t m1 m2 d1 d2 w
theorem rapart_na (a s b t : Int) (m1 : mayR a s = false) (w : World) : Calls Try.prog 46 #[.agg #[.int .i64 a, .int .i64 s], .agg #[.int .i64 b, .int .i64 t]] w fun e w' => e = .returned (.bool false) ∧ Below w.heap.size w w' := by
  have T := Lib.hid (rmay a s); rw [m1] at T; clear m1
  go_enter Try.func46, Try.ntmps46
  go_wp2_with fail
  refine (T.out _).mono ?_
  rintro e w1 ⟨rfl, b1⟩
  have B1 := Lib.hid (below_alloc (below_alloc b1)); clear b1
  go_wp2
  go_ret
  exact ⟨rfl, B1.out⟩
theorem rapart_nb (a s b t : Int) (m1 : mayR a s = true) (m2 : mayR b t = false) (w : World) : Calls Try.prog 46 #[.agg #[.int .i64 a, .int .i64 s], .agg #[.int .i64 b, .int .i64 t]] w fun e w' => e = .returned (.bool false) ∧ Below w.heap.size w w' := by
  have T := Lib.hid (rmay a s); rw [m1] at T
  have T2 := Lib.hid (rmay b t); rw [m2] at T2; clear m1 m2
  have x1 : ((w.alloc (.cells #[.int .i64 a, .int .i64 s] 52)).alloc (.cells #[.int .i64 b, .int .i64 t] 52)).heap[w.heap.size + 1]? = some (.cells #[.int .i64 b, .int .i64 t] 52 (0, 0)) := by
    have := blk_new (w.alloc (.cells #[.int .i64 a, .int .i64 s] 52)) #[.int .i64 b, .int .i64 t] 52
    simpa using this
  have X1 := Lib.hid x1; clear x1
  go_enter Try.func46, Try.ntmps46
  go_wp2_with fail
  refine (T.out _).mono ?_
  rintro e w1 ⟨rfl, b1⟩
  have hb := blk_below X1.out b1 (by simp)
  have c0 := blk_cell hb 0; have c1 := blk_cell hb 1
  have B1 := Lib.hid (below_alloc (below_alloc b1)); clear b1 hb
  go_wp2_with fail
  refine (T2.out _).mono ?_
  rintro e w2 ⟨rfl, b2⟩
  have B2 := Lib.hid (B1.out.trans (b2.mono B1.out.size)); clear b2
  go_wp2
  go_ret
  exact ⟨rfl, B2.out⟩
theorem hit_iff {a s b t : Int} (m1 : mayR a s = true) (m2 : mayR b t = true) : (∀ k : Nat, 4 * (k : Int) < s → hasR b t (a + 4 * k) = false) ↔ (a + s ≤ b ∨ b + t ≤ a) := by
  obtain ⟨h0, h1, h2, h3, h4, h5, h6⟩ := mayR_iff.1 m1
  obtain ⟨g0, g1, g2, g3, g4, g5, g6⟩ := mayR_iff.1 m2
  unfold hasR
  simp only [m2, Bool.true_and, decide_eq_false_iff_not]
  constructor
  · intro h
    by_cases h7 : a ≤ b
    · by_cases h8 : a + s ≤ b
      · exact .inl h8
      · have := h ((b - a) / 4).toNat (by omega)
        omega
    · by_cases h8 : b + t ≤ a
      · exact .inr h8
      · have := h 0 (by omega)
        omega
  · intro h k hk
    omega
set_option maxHeartbeats 1000000 in
theorem rapart_yy (a s b t : Int) (m1 : mayR a s = true) (m2 : mayR b t = true) (w : World) : Calls Try.prog 46 #[.agg #[.int .i64 a, .int .i64 s], .agg #[.int .i64 b, .int .i64 t]] w fun e w' => e = .returned (.bool (decide (a + s ≤ b) || decide (b + t ≤ a))) ∧ Below w.heap.size w w' := by
  have T := Lib.hid (rmay a s); rw [m1] at T
  have T2 := Lib.hid (rmay b t); rw [m2] at T2
  have hit := Lib.hid (hit_iff m1 m2)
  have TH := Lib.hid (fun (x : Int) (hx : x ≤ 9223372036854775807) (W : World) => rhas b t x hx W)
  obtain ⟨h0, h1, h2, h3, h4, h5, h6⟩ := mayR_iff.1 m1
  have x0 : ((w.alloc (.cells #[.int .i64 a, .int .i64 s] 52)).alloc (.cells #[.int .i64 b, .int .i64 t] 52)).heap[w.heap.size]? = some (.cells #[.int .i64 a, .int .i64 s] 52 (0, 0)) := blk_alloc (blk_new w _ _) _
  have x1 : ((w.alloc (.cells #[.int .i64 a, .int .i64 s] 52)).alloc (.cells #[.int .i64 b, .int .i64 t] 52)).heap[w.heap.size + 1]? = some (.cells #[.int .i64 b, .int .i64 t] 52 (0, 0)) := by
    have := blk_new (w.alloc (.cells #[.int .i64 a, .int .i64 s] 52)) #[.int .i64 b, .int .i64 t] 52
    simpa using this
  have X1 := Lib.hid x1; have X0 := Lib.hid x0; clear x1 x0 m1 m2 h2 h3
  have HZ : w.heap.size + 2 ≤ ((w.alloc (.cells #[.int .i64 a, .int .i64 s] 52)).alloc (.cells #[.int .i64 b, .int .i64 t] 52)).heap.size := by simp
  go_enter Try.func46, Try.ntmps46
  go_wp2_with fail
  refine (T.out _).mono ?_
  rintro e w1 ⟨rfl, b1⟩
  have hb := blk_below X1.out b1 (by simp)
  have hb0 := blk_below X0.out b1 (by simp; omega)
  have c0 := blk_cell hb 0; have c1 := blk_cell hb 1
  have hz : w.heap.size + 2 ≤ w1.heap.size := Nat.le_trans HZ b1.size
  have Y1 := Lib.hid hb; have Y0 := Lib.hid hb0
  have B1 := Lib.hid (below_alloc (below_alloc b1)); clear b1 hb hb0 HZ
  go_wp2_with fail
  refine (T2.out _).mono ?_
  rintro e w2 ⟨rfl, b2⟩
  clear c0 c1
  have Z1 := Lib.hid (blk_below Y1.out b2 (by omega)); have Z0 := Lib.hid (blk_below Y0.out b2 (by omega))
  have hz2 : w.heap.size + 2 ≤ w2.heap.size := Nat.le_trans hz b2.size
  have c0 := blk_cell Z0.out 0; have c1 := blk_cell Z0.out 1
  have B2 := Lib.hid (B1.out.trans (b2.mono B1.out.size)); clear b2 hz
  go_wp2_with fail
  clear c0 c1
  go_loopw [5] (fun i wr => ∃ k : Nat, 4 * (k : Int) ≤ s + 3 ∧ i = .int .i64 (a + 4 * (k : Int)) ∧ (∀ j : Nat, j < k → hasR b t (a + 4 * j) = false) ∧ Below w2.heap.size w2 wr) (fun i _ => (a + s + 4 - intOf i).toNat)
  case atStart => exact ⟨0, by omega, by simp, (fun j hj => absurd hj (Nat.not_lt_zero _)), Below.refl _ _⟩
  case round =>
    obtain ⟨k, hk, rfl, hall, hbw⟩ := hrel
    have P1 := blk_below Z1.out hbw (by omega)
    have P0 := blk_below Z0.out hbw (by omega)
    have c0 := blk_cell P0 0; have c1 := blk_cell P0 1; have c2 := blk_cell P1 0; have c3 := blk_cell P1 1
    have HA := Lib.hid hall; have HB := Lib.hid hbw
    clear P0 P1 hall hbw
    by_cases hlt : 4 * (k : Int) < s
    · have q1 : a + 4 * (k : Int) < a + s := by omega
      have TK := Lib.hid (TH.out (a + 4 * (k : Int)) (by omega))
      have e4 : IntKind.i64.wrap (a + 4 * (k : Int) + 4) = a + 4 * (k : Int) + 4 := IntWalk.i64_in _ (by omega)
      cases hh : hasR b t (a + 4 * (k : Int)) with
      | true =>
        rw [hh] at TK
        have HH := Lib.hid hh; clear hh
        go_wp2_with fail
        refine (TK.out _).mono ?_
        rintro e w3 ⟨rfl, b3⟩
        have B3 := Lib.hid (HB.out.trans (b3.mono HB.out.size)); clear b3
        go_wp2_with fail
        go_ret
        refine ⟨?_, B2.out.trans (B3.out.mono B2.out.size)⟩
        have hf : ¬ (a + s ≤ b ∨ b + t ≤ a) := fun h => by
          have := hit.out.2 h k hlt
          rw [HH.out] at this; cases this
        rw [show (decide (a + s ≤ b) || decide (b + t ≤ a)) = false by simp; omega]
        rfl
      | false =>
        rw [hh] at TK
        have HH := Lib.hid hh; clear hh
        go_wp2_with fail
        refine (TK.out _).mono ?_
        rintro e w3 ⟨rfl, b3⟩
        have B3 := Lib.hid (HB.out.trans (b3.mono HB.out.size)); clear b3
        go_wp2_with fail
        go_roundw
        case rel => exact ⟨k + 1, by omega, by congr 1; omega, (fun j hj => (Nat.lt_or_eq_of_le (Nat.lt_succ_iff.1 hj)).elim (fun h => HA.out j h) (fun h => h ▸ HH.out)), B3.out⟩
        case measure => simp [intOf]; omega
    · have q1 : ¬ a + 4 * (k : Int) < a + s := by omega
      go_wp2_with fail
      go_ret
      refine ⟨?_, B2.out.trans (HB.out.mono B2.out.size)⟩
      have hf := hit.out.1 fun j hj => HA.out j (by omega)
      rw [show (decide (a + s ≤ b) || decide (b + t ≤ a)) = true by simpa using hf]
      rfl
theorem rapart (a s b t : Int) (w : World) : Calls Try.prog 46 #[.agg #[.int .i64 a, .int .i64 s], .agg #[.int .i64 b, .int .i64 t]] w fun e w' => e = .returned (.bool (apartR a s b t)) ∧ Below w.heap.size w w' := by
  unfold apartR
  cases m1 : mayR a s with
  | false => exact rapart_na a s b t m1 w
  | true =>
    cases m2 : mayR b t with
    | false => exact rapart_nb a s b t m1 m2 w
    | true => exact rapart_yy a s b t m1 m2 w
end Go.Proofs.Ytjliaojanmbicaa.reg
