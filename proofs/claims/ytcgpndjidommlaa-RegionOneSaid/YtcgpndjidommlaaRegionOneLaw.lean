/- The law RegionOne: its walk. -/
import Derived.Test.YtcgpndjidommlaaRows
import Derived.Test.YtcgpndjidommlaaRegG
namespace Go.Proofs.Ytcgpndjidommlaa.reg.one
open Go Go.ChangeShapes Go.WideShapes Go.ChangeAt Go.RowKit Go.Proofs.Ytcgpndjidommlaa.reg
set_option maxRecDepth 100000 in
set_option maxHeartbeats 2000000 in
theorem law_true (a s b t x : Int) (hx : x ≤ 9223372036854775807) (hm : mayR a s = true) (w : World) : Calls Try.prog 3 #[.agg #[.int .i64 a, .int .i64 s], .agg #[.int .i64 b, .int .i64 t], .int .i64 x] w fun e w' => e = .returned (.bool true) ∧ Below w.heap.size w w' := by
  have T1 := may a s; have T2 := rmay a s; have T3 := endd a s; have T4 := has a s x; have T5 := rhas a s x hx; have T6 := apart a s b t; have T7 := rapart a s b t; have T8 := reg.awake
  rw [hm] at T1 T2
  rw [show endR a s = a + s by unfold endR; rw [hm]; rfl] at T3
  have hbd : true = true → (0 ≤ a ∧ a ≤ 4096 ∧ 16 ≤ s ∧ s ≤ 512) := fun h => by have := mayR_iff.1 (hm.trans h); omega
  obtain ⟨k1, k2, k3, k4⟩ := hbd rfl
  clear hm hbd
  generalize hasR a s x = h at *
  generalize apartR a s b t = p at *
  have g0 := Lib.hid (blk_alloc (blk_new w #[.int .i64 a, .int .i64 s] 23) (.cells #[.int .i64 b, .int .i64 t] 23))
  have g1 := Lib.hid (show ((w.alloc (.cells #[.int .i64 a, .int .i64 s] 23)).alloc (.cells #[.int .i64 b, .int .i64 t] 23)).heap[w.heap.size + 1]? = some (.cells #[.int .i64 b, .int .i64 t] 23 (0, 0)) by have := blk_new (w.alloc (.cells #[.int .i64 a, .int .i64 s] 23)) #[.int .i64 b, .int .i64 t] 23; simpa using this)
  have hX := Lib.hid (show Below w.heap.size w ((w.alloc (.cells #[.int .i64 a, .int .i64 s] 23)).alloc (.cells #[.int .i64 b, .int .i64 t] 23)) from ((Below.refl _ _).alloc (Nat.le_refl _) _).alloc (by simp) _)
  have hsz : ((w.alloc (.cells #[.int .i64 a, .int .i64 s] 23)).alloc (.cells #[.int .i64 b, .int .i64 t] 23)).heap.size = w.heap.size + 2 := by simp
  go_enter Try.func3, Try.ntmps3
  go_wp2_with fail
  refine (T2 _).mono ?_
  rintro e w1 ⟨rfl, b1⟩
  have G0 := Lib.hid (blk_below g0.out b1 (by omega)); have G1 := Lib.hid (blk_below g1.out b1 (by omega))
  have HB := Lib.hid (hX.out.trans (b1.mono (by omega)))
  have c0 := blk_cell G0.out 0; have c1 := blk_cell G0.out 1
  clear b1
  go_wp2_with fail
  clear c0 c1
  have y00 : ∀ x : Ext w1.heap.size w1, x.world.cell? ⟨w.heap.size, 0, none⟩ = some (.int .i64 a) := fun x => (x.cell _ _ (blk_lt G0.out)).trans (blk_cell G0.out 0)
  have y01 : ∀ x : Ext w1.heap.size w1, x.world.cell? ⟨w.heap.size, 1, none⟩ = some (.int .i64 s) := fun x => (x.cell _ _ (blk_lt G0.out)).trans (blk_cell G0.out 1)
  have y10 : ∀ x : Ext w1.heap.size w1, x.world.cell? ⟨w.heap.size + 1, 0, none⟩ = some (.int .i64 b) := fun x => (x.cell _ _ (blk_lt G1.out)).trans (blk_cell G1.out 0)
  have y11 : ∀ x : Ext w1.heap.size w1, x.world.cell? ⟨w.heap.size + 1, 1, none⟩ = some (.int .i64 t) := fun x => (x.cell _ _ (blk_lt G1.out)).trans (blk_cell G1.out 1)
  refine region_ext (by kernel_rfl) (by kernel_rfl) ?_
  try simp only [List.append_eq, List.cons_append, List.nil_append]
  repeat (go_big_quiet_step (first | (with_reducible exact calls_ext (Nat.le_refl _) (T1 _)) | (with_reducible exact calls_ext (Nat.le_refl _) (T2 _)) | (with_reducible exact calls_ext (Nat.le_refl _) (T3 _)) | (with_reducible exact calls_ext (Nat.le_refl _) (T4 _)) | (with_reducible exact calls_ext (Nat.le_refl _) (T5 _)) | (with_reducible exact calls_ext (Nat.le_refl _) (T6 _)) | (with_reducible exact calls_ext (Nat.le_refl _) (T7 _)) | (with_reducible exact calls_ext (Nat.le_refl _) (T8 _))))
  refine wpQuiet_nil ?_
  intro z
  go_wp2
  go_ret
  exact ⟨rfl, HB.out.trans (z.below.mono HB.out.size)⟩
set_option maxRecDepth 100000 in
set_option maxHeartbeats 2000000 in
theorem law_false (a s b t x : Int) (hx : x ≤ 9223372036854775807) (hm : mayR a s = false) (w : World) : Calls Try.prog 3 #[.agg #[.int .i64 a, .int .i64 s], .agg #[.int .i64 b, .int .i64 t], .int .i64 x] w fun e w' => e = .returned (.bool true) ∧ Below w.heap.size w w' := by
  have T1 := may a s; have T2 := rmay a s; have T3 := endd a s; have T4 := has a s x; have T5 := rhas a s x hx; have T6 := apart a s b t; have T7 := rapart a s b t; have T8 := reg.awake
  rw [hm] at T1 T2
  rw [show endR a s = 0 by unfold endR; rw [hm]; rfl] at T3
  have hbd : false = true → (0 ≤ a ∧ a ≤ 4096 ∧ 16 ≤ s ∧ s ≤ 512) := fun h => by have := mayR_iff.1 (hm.trans h); omega
  clear hm hbd
  generalize hasR a s x = h at *
  generalize apartR a s b t = p at *
  have g0 := Lib.hid (blk_alloc (blk_new w #[.int .i64 a, .int .i64 s] 23) (.cells #[.int .i64 b, .int .i64 t] 23))
  have g1 := Lib.hid (show ((w.alloc (.cells #[.int .i64 a, .int .i64 s] 23)).alloc (.cells #[.int .i64 b, .int .i64 t] 23)).heap[w.heap.size + 1]? = some (.cells #[.int .i64 b, .int .i64 t] 23 (0, 0)) by have := blk_new (w.alloc (.cells #[.int .i64 a, .int .i64 s] 23)) #[.int .i64 b, .int .i64 t] 23; simpa using this)
  have hX := Lib.hid (show Below w.heap.size w ((w.alloc (.cells #[.int .i64 a, .int .i64 s] 23)).alloc (.cells #[.int .i64 b, .int .i64 t] 23)) from ((Below.refl _ _).alloc (Nat.le_refl _) _).alloc (by simp) _)
  have hsz : ((w.alloc (.cells #[.int .i64 a, .int .i64 s] 23)).alloc (.cells #[.int .i64 b, .int .i64 t] 23)).heap.size = w.heap.size + 2 := by simp
  go_enter Try.func3, Try.ntmps3
  go_wp2_with fail
  refine (T2 _).mono ?_
  rintro e w1 ⟨rfl, b1⟩
  have G0 := Lib.hid (blk_below g0.out b1 (by omega)); have G1 := Lib.hid (blk_below g1.out b1 (by omega))
  have HB := Lib.hid (hX.out.trans (b1.mono (by omega)))
  have c0 := blk_cell G0.out 0; have c1 := blk_cell G0.out 1
  clear b1
  go_wp2_with fail
  clear c0 c1
  have y00 : ∀ x : Ext w1.heap.size w1, x.world.cell? ⟨w.heap.size, 0, none⟩ = some (.int .i64 a) := fun x => (x.cell _ _ (blk_lt G0.out)).trans (blk_cell G0.out 0)
  have y01 : ∀ x : Ext w1.heap.size w1, x.world.cell? ⟨w.heap.size, 1, none⟩ = some (.int .i64 s) := fun x => (x.cell _ _ (blk_lt G0.out)).trans (blk_cell G0.out 1)
  have y10 : ∀ x : Ext w1.heap.size w1, x.world.cell? ⟨w.heap.size + 1, 0, none⟩ = some (.int .i64 b) := fun x => (x.cell _ _ (blk_lt G1.out)).trans (blk_cell G1.out 0)
  have y11 : ∀ x : Ext w1.heap.size w1, x.world.cell? ⟨w.heap.size + 1, 1, none⟩ = some (.int .i64 t) := fun x => (x.cell _ _ (blk_lt G1.out)).trans (blk_cell G1.out 1)
  refine region_ext (by kernel_rfl) (by kernel_rfl) ?_
  try simp only [List.append_eq, List.cons_append, List.nil_append]
  repeat (go_big_quiet_step (first | (with_reducible exact calls_ext (Nat.le_refl _) (T1 _)) | (with_reducible exact calls_ext (Nat.le_refl _) (T2 _)) | (with_reducible exact calls_ext (Nat.le_refl _) (T3 _)) | (with_reducible exact calls_ext (Nat.le_refl _) (T4 _)) | (with_reducible exact calls_ext (Nat.le_refl _) (T5 _)) | (with_reducible exact calls_ext (Nat.le_refl _) (T6 _)) | (with_reducible exact calls_ext (Nat.le_refl _) (T7 _)) | (with_reducible exact calls_ext (Nat.le_refl _) (T8 _))))
  refine wpQuiet_nil ?_
  intro z
  go_wp2
  go_ret
  exact ⟨rfl, HB.out.trans (z.below.mono HB.out.size)⟩
theorem law (a s b t x : Int) (hx : x ≤ 9223372036854775807) (w : World) : Calls Try.prog 3 #[.agg #[.int .i64 a, .int .i64 s], .agg #[.int .i64 b, .int .i64 t], .int .i64 x] w fun e w' => e = .returned (.bool true) ∧ Below w.heap.size w w' := by
  cases hm : mayR a s with
  | true => exact law_true a s b t x hx hm w
  | false => exact law_false a s b t x hx hm w
end Go.Proofs.Ytcgpndjidommlaa.reg.one
