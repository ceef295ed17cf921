/- trial and its reference: Commit, Boundary, Text, walked case by case (printed by gen_trial.py). -/
import Derived.Test.YtojielokkpmjeaaDoorRows
import Derived.Test.YtojielokkpmjeaaDoorTrialB
import Derived.Deep.RegionWith
namespace Go.Proofs.YtojielokkpmjeaaDoor.tr
open Go Go.ChangeShapes Go.WideShapes Go.ChangeAt Go.RowKit
set_option maxHeartbeats 4000000 in
theorem bd_rest_true (l : Int) (h : mayB 0 l = true) (w : World) : Calls Tryd.prog 9 #[ph 0 l, .bool true] w fun e w' => e = .returned (.tuple #[ph 0 0, .int .u8 0]) ∧ Below w.heap.size w w' := by
  have n0 := blk_new (w) #[.int .u8 0, .int .i64 l] 25
  have n1 := blk_new ((w).alloc (.cells #[.int .u8 0, .int .i64 l] 25)) #[.int .u8 0, .int .i64 0] 25
  have m0 : (((w).alloc (.cells #[.int .u8 0, .int .i64 l] 25)).alloc (.cells #[.int .u8 0, .int .i64 0] 25)).heap[w.heap.size]? = some (.cells #[.int .u8 0, .int .i64 l] 25 (0, 0)) := by have := (blk_alloc n0 (.cells #[.int .u8 0, .int .i64 0] 25)); simpa using this
  have m1 : (((w).alloc (.cells #[.int .u8 0, .int .i64 l] 25)).alloc (.cells #[.int .u8 0, .int .i64 0] 25)).heap[(w.heap.size + 1)]? = some (.cells #[.int .u8 0, .int .i64 0] 25 (0, 0)) := by have := n1; simpa using this
  have hs0 : (((w).alloc (.cells #[.int .u8 0, .int .i64 l] 25)).alloc (.cells #[.int .u8 0, .int .i64 0] 25)).heap.size = w.heap.size + 2 := by simp
  clear n0 n1
  have M0 := Lib.hid m0
  have M1 := Lib.hid m1
  clear m0 m1
  go_enter Tryd.func9, Tryd.ntmps9
  go_wp2_with fail
  refine (Calls.mono (h ▸ may 0 l _) ?_)
  rintro e w1 ⟨rfl, b1⟩
  have z1 : w.heap.size + 2 ≤ w1.heap.size := by have := b1.size; first | omega | (simp at this; omega)
  have g1_0 : w1.heap[w.heap.size]? = some (.cells #[.int .u8 0, .int .i64 l] 25 (0, 0)) := blk_below M0.out b1 (by first | omega | (simp <;> omega))
  have c1_0_0 : w1.cell? ⟨w.heap.size, 0, none⟩ = some (.int .u8 0) := blk_cell g1_0 0
  have f1_0_0 : w1.frozen? ⟨w.heap.size, 0, none⟩ = false := blk_frozen g1_0 0
  have c1_0_1 : w1.cell? ⟨w.heap.size, 1, none⟩ = some (.int .i64 l) := blk_cell g1_0 1
  have f1_0_1 : w1.frozen? ⟨w.heap.size, 1, none⟩ = false := blk_frozen g1_0 1
  have G1_0 := Lib.hid g1_0
  have g1_1 : w1.heap[(w.heap.size + 1)]? = some (.cells #[.int .u8 0, .int .i64 0] 25 (0, 0)) := blk_below M1.out b1 (by first | omega | (simp <;> omega))
  have c1_1_0 : w1.cell? ⟨(w.heap.size + 1), 0, none⟩ = some (.int .u8 0) := blk_cell g1_1 0
  have f1_1_0 : w1.frozen? ⟨(w.heap.size + 1), 0, none⟩ = false := blk_frozen g1_1 0
  have c1_1_1 : w1.cell? ⟨(w.heap.size + 1), 1, none⟩ = some (.int .i64 0) := blk_cell g1_1 1
  have f1_1_1 : w1.frozen? ⟨(w.heap.size + 1), 1, none⟩ = false := blk_frozen g1_1 1
  have G1_1 := Lib.hid g1_1
  clear g1_0 g1_1
  go_wp2
  have hix : ∀ W : World, Sem.run Tryd.prog (Instr.index 49 (.agg #[.func (.func 19) #[] #[], .func (.func 20) #[] #[], .func (.func 21) #[] #[]]) (.int .u8 0)) W = .ok (.func (.func 19) #[] #[]) W := fun W => by simp [Instr.index, go_sem]
  go_region_with (go_at_call 19; refine (Calls.mono (rest_true _ _ _) ?_); rintro e w2 ⟨rfl, b2⟩; have z2 : w.heap.size + 2 ≤ w2.heap.size := (by have := b2.size; first | omega | (simp at this; omega)); have g2 : w2.heap[w.heap.size + 1]? = some (.cells #[.int .u8 0, .int .i64 0] 25 (0, 0)) := blk_below (w := w1.drew) G1_1.out b2 (by first | omega | (simp <;> omega)); have c2 : w2.cell? ⟨w.heap.size + 1, 0, none⟩ = some (.int .u8 0) := blk_cell g2 0; have d2 : w2.cell? ⟨w.heap.size + 1, 1, none⟩ = some (.int .i64 0) := blk_cell g2 1; have f2 : w2.frozen? ⟨w.heap.size + 1, 0, none⟩ = false := blk_frozen g2 0; have f3 : w2.frozen? ⟨w.heap.size + 1, 1, none⟩ = false := blk_frozen g2 1; have G2 := Lib.hid g2; clear g2)
  all_goals go_wp2
  all_goals exact ret_row_tmp rfl (w.heap.size + 1) 25 _ _ rfl (blk_eq (blk_set (blk_set G2.out _ _) _ _) rfl) Tryd.underlying25 rfl (by kernel_rfl) rfl ⟨rfl, by repeat (first | exact Below.refl _ _ | refine Below.alloc ?_ (by first | omega | (simp <;> omega)) _ | refine Below.setCell ?_ (by first | omega | (simp <;> omega)) _ | refine Below.trans ?_ (b2.mono (by first | omega | (simp <;> omega))) | refine Below.trans ?_ (b1.mono (by first | omega | (simp <;> omega))) | refine Below.drew ?_)⟩
set_option maxHeartbeats 4000000 in
theorem bd_take_true (l : Int) (h : mayB 1 l = true) (w : World) : Calls Tryd.prog 9 #[ph 1 l, .bool true] w fun e w' => e = .returned (.tuple #[ph 2 l, .int .u8 1]) ∧ Below w.heap.size w w' := by
  have n0 := blk_new (w) #[.int .u8 1, .int .i64 l] 25
  have n1 := blk_new ((w).alloc (.cells #[.int .u8 1, .int .i64 l] 25)) #[.int .u8 0, .int .i64 0] 25
  have m0 : (((w).alloc (.cells #[.int .u8 1, .int .i64 l] 25)).alloc (.cells #[.int .u8 0, .int .i64 0] 25)).heap[w.heap.size]? = some (.cells #[.int .u8 1, .int .i64 l] 25 (0, 0)) := by have := (blk_alloc n0 (.cells #[.int .u8 0, .int .i64 0] 25)); simpa using this
  have m1 : (((w).alloc (.cells #[.int .u8 1, .int .i64 l] 25)).alloc (.cells #[.int .u8 0, .int .i64 0] 25)).heap[(w.heap.size + 1)]? = some (.cells #[.int .u8 0, .int .i64 0] 25 (0, 0)) := by have := n1; simpa using this
  have hs0 : (((w).alloc (.cells #[.int .u8 1, .int .i64 l] 25)).alloc (.cells #[.int .u8 0, .int .i64 0] 25)).heap.size = w.heap.size + 2 := by simp
  clear n0 n1
  have M0 := Lib.hid m0
  have M1 := Lib.hid m1
  clear m0 m1
  go_enter Tryd.func9, Tryd.ntmps9
  go_wp2_with fail
  refine (Calls.mono (h ▸ may 1 l _) ?_)
  rintro e w1 ⟨rfl, b1⟩
  have z1 : w.heap.size + 2 ≤ w1.heap.size := by have := b1.size; first | omega | (simp at this; omega)
  have g1_0 : w1.heap[w.heap.size]? = some (.cells #[.int .u8 1, .int .i64 l] 25 (0, 0)) := blk_below M0.out b1 (by first | omega | (simp <;> omega))
  have c1_0_0 : w1.cell? ⟨w.heap.size, 0, none⟩ = some (.int .u8 1) := blk_cell g1_0 0
  have f1_0_0 : w1.frozen? ⟨w.heap.size, 0, none⟩ = false := blk_frozen g1_0 0
  have c1_0_1 : w1.cell? ⟨w.heap.size, 1, none⟩ = some (.int .i64 l) := blk_cell g1_0 1
  have f1_0_1 : w1.frozen? ⟨w.heap.size, 1, none⟩ = false := blk_frozen g1_0 1
  have G1_0 := Lib.hid g1_0
  have g1_1 : w1.heap[(w.heap.size + 1)]? = some (.cells #[.int .u8 0, .int .i64 0] 25 (0, 0)) := blk_below M1.out b1 (by first | omega | (simp <;> omega))
  have c1_1_0 : w1.cell? ⟨(w.heap.size + 1), 0, none⟩ = some (.int .u8 0) := blk_cell g1_1 0
  have f1_1_0 : w1.frozen? ⟨(w.heap.size + 1), 0, none⟩ = false := blk_frozen g1_1 0
  have c1_1_1 : w1.cell? ⟨(w.heap.size + 1), 1, none⟩ = some (.int .i64 0) := blk_cell g1_1 1
  have f1_1_1 : w1.frozen? ⟨(w.heap.size + 1), 1, none⟩ = false := blk_frozen g1_1 1
  have G1_1 := Lib.hid g1_1
  clear g1_0 g1_1
  go_wp2
  have hix : ∀ W : World, Sem.run Tryd.prog (Instr.index 49 (.agg #[.func (.func 19) #[] #[], .func (.func 20) #[] #[], .func (.func 21) #[] #[]]) (.int .u8 1)) W = .ok (.func (.func 20) #[] #[]) W := fun W => by simp [Instr.index, go_sem]
  go_region_with (go_at_call 20; refine (Calls.mono (take_true _ _ _) ?_); rintro e w2 ⟨rfl, b2⟩; have z2 : w.heap.size + 2 ≤ w2.heap.size := (by have := b2.size; first | omega | (simp at this; omega)); have g2 : w2.heap[w.heap.size + 1]? = some (.cells #[.int .u8 0, .int .i64 0] 25 (0, 0)) := blk_below (w := w1.drew) G1_1.out b2 (by first | omega | (simp <;> omega)); have c2 : w2.cell? ⟨w.heap.size + 1, 0, none⟩ = some (.int .u8 0) := blk_cell g2 0; have d2 : w2.cell? ⟨w.heap.size + 1, 1, none⟩ = some (.int .i64 0) := blk_cell g2 1; have f2 : w2.frozen? ⟨w.heap.size + 1, 0, none⟩ = false := blk_frozen g2 0; have f3 : w2.frozen? ⟨w.heap.size + 1, 1, none⟩ = false := blk_frozen g2 1; have G2 := Lib.hid g2; clear g2)
  all_goals go_wp2
  all_goals exact ret_row_tmp rfl (w.heap.size + 1) 25 _ _ rfl (blk_eq (blk_set (blk_set G2.out _ _) _ _) rfl) Tryd.underlying25 rfl (by kernel_rfl) rfl ⟨rfl, by repeat (first | exact Below.refl _ _ | refine Below.alloc ?_ (by first | omega | (simp <;> omega)) _ | refine Below.setCell ?_ (by first | omega | (simp <;> omega)) _ | refine Below.trans ?_ (b2.mono (by first | omega | (simp <;> omega))) | refine Below.trans ?_ (b1.mono (by first | omega | (simp <;> omega))) | refine Below.drew ?_)⟩
set_option maxHeartbeats 4000000 in
theorem bd_rest_false (l : Int) (h : mayB 0 l = true) (w : World) : Calls Tryd.prog 9 #[ph 0 l, .bool false] w fun e w' => e = .returned (.tuple #[ph 0 0, .int .u8 0]) ∧ Below w.heap.size w w' := by
  have n0 := blk_new (w) #[.int .u8 0, .int .i64 l] 25
  have n1 := blk_new ((w).alloc (.cells #[.int .u8 0, .int .i64 l] 25)) #[.int .u8 0, .int .i64 0] 25
  have m0 : (((w).alloc (.cells #[.int .u8 0, .int .i64 l] 25)).alloc (.cells #[.int .u8 0, .int .i64 0] 25)).heap[w.heap.size]? = some (.cells #[.int .u8 0, .int .i64 l] 25 (0, 0)) := by have := (blk_alloc n0 (.cells #[.int .u8 0, .int .i64 0] 25)); simpa using this
  have m1 : (((w).alloc (.cells #[.int .u8 0, .int .i64 l] 25)).alloc (.cells #[.int .u8 0, .int .i64 0] 25)).heap[(w.heap.size + 1)]? = some (.cells #[.int .u8 0, .int .i64 0] 25 (0, 0)) := by have := n1; simpa using this
  have hs0 : (((w).alloc (.cells #[.int .u8 0, .int .i64 l] 25)).alloc (.cells #[.int .u8 0, .int .i64 0] 25)).heap.size = w.heap.size + 2 := by simp
  clear n0 n1
  have M0 := Lib.hid m0
  have M1 := Lib.hid m1
  clear m0 m1
  go_enter Tryd.func9, Tryd.ntmps9
  go_wp2_with fail
  refine (Calls.mono (h ▸ may 0 l _) ?_)
  rintro e w1 ⟨rfl, b1⟩
  have z1 : w.heap.size + 2 ≤ w1.heap.size := by have := b1.size; first | omega | (simp at this; omega)
  have g1_0 : w1.heap[w.heap.size]? = some (.cells #[.int .u8 0, .int .i64 l] 25 (0, 0)) := blk_below M0.out b1 (by first | omega | (simp <;> omega))
  have c1_0_0 : w1.cell? ⟨w.heap.size, 0, none⟩ = some (.int .u8 0) := blk_cell g1_0 0
  have f1_0_0 : w1.frozen? ⟨w.heap.size, 0, none⟩ = false := blk_frozen g1_0 0
  have c1_0_1 : w1.cell? ⟨w.heap.size, 1, none⟩ = some (.int .i64 l) := blk_cell g1_0 1
  have f1_0_1 : w1.frozen? ⟨w.heap.size, 1, none⟩ = false := blk_frozen g1_0 1
  have G1_0 := Lib.hid g1_0
  have g1_1 : w1.heap[(w.heap.size + 1)]? = some (.cells #[.int .u8 0, .int .i64 0] 25 (0, 0)) := blk_below M1.out b1 (by first | omega | (simp <;> omega))
  have c1_1_0 : w1.cell? ⟨(w.heap.size + 1), 0, none⟩ = some (.int .u8 0) := blk_cell g1_1 0
  have f1_1_0 : w1.frozen? ⟨(w.heap.size + 1), 0, none⟩ = false := blk_frozen g1_1 0
  have c1_1_1 : w1.cell? ⟨(w.heap.size + 1), 1, none⟩ = some (.int .i64 0) := blk_cell g1_1 1
  have f1_1_1 : w1.frozen? ⟨(w.heap.size + 1), 1, none⟩ = false := blk_frozen g1_1 1
  have G1_1 := Lib.hid g1_1
  clear g1_0 g1_1
  go_wp2
  have hix : ∀ W : World, Sem.run Tryd.prog (Instr.index 49 (.agg #[.func (.func 19) #[] #[], .func (.func 20) #[] #[], .func (.func 21) #[] #[]]) (.int .u8 0)) W = .ok (.func (.func 19) #[] #[]) W := fun W => by simp [Instr.index, go_sem]
  go_region_with (go_at_call 19; refine (Calls.mono (rest_false _ _ _) ?_); rintro e w2 ⟨rfl, b2⟩; have z2 : w.heap.size + 2 ≤ w2.heap.size := (by have := b2.size; first | omega | (simp at this; omega)); have g2 : w2.heap[w.heap.size + 1]? = some (.cells #[.int .u8 0, .int .i64 0] 25 (0, 0)) := blk_below (w := w1.drew) G1_1.out b2 (by first | omega | (simp <;> omega)); have c2 : w2.cell? ⟨w.heap.size + 1, 0, none⟩ = some (.int .u8 0) := blk_cell g2 0; have d2 : w2.cell? ⟨w.heap.size + 1, 1, none⟩ = some (.int .i64 0) := blk_cell g2 1; have f2 : w2.frozen? ⟨w.heap.size + 1, 0, none⟩ = false := blk_frozen g2 0; have f3 : w2.frozen? ⟨w.heap.size + 1, 1, none⟩ = false := blk_frozen g2 1; have G2 := Lib.hid g2; clear g2)
  all_goals go_wp2
  all_goals exact ret_row_tmp rfl (w.heap.size + 1) 25 _ _ rfl (blk_eq (blk_set (blk_set G2.out _ _) _ _) rfl) Tryd.underlying25 rfl (by kernel_rfl) rfl ⟨rfl, by repeat (first | exact Below.refl _ _ | refine Below.alloc ?_ (by first | omega | (simp <;> omega)) _ | refine Below.setCell ?_ (by first | omega | (simp <;> omega)) _ | refine Below.trans ?_ (b2.mono (by first | omega | (simp <;> omega))) | refine Below.trans ?_ (b1.mono (by first | omega | (simp <;> omega))) | refine Below.drew ?_)⟩
set_option maxHeartbeats 4000000 in
theorem bd_take_false (l : Int) (h : mayB 1 l = true) (w : World) : Calls Tryd.prog 9 #[ph 1 l, .bool false] w fun e w' => e = .returned (.tuple #[ph 2 l, .int .u8 1]) ∧ Below w.heap.size w w' := by
  have n0 := blk_new (w) #[.int .u8 1, .int .i64 l] 25
  have n1 := blk_new ((w).alloc (.cells #[.int .u8 1, .int .i64 l] 25)) #[.int .u8 0, .int .i64 0] 25
  have m0 : (((w).alloc (.cells #[.int .u8 1, .int .i64 l] 25)).alloc (.cells #[.int .u8 0, .int .i64 0] 25)).heap[w.heap.size]? = some (.cells #[.int .u8 1, .int .i64 l] 25 (0, 0)) := by have := (blk_alloc n0 (.cells #[.int .u8 0, .int .i64 0] 25)); simpa using this
  have m1 : (((w).alloc (.cells #[.int .u8 1, .int .i64 l] 25)).alloc (.cells #[.int .u8 0, .int .i64 0] 25)).heap[(w.heap.size + 1)]? = some (.cells #[.int .u8 0, .int .i64 0] 25 (0, 0)) := by have := n1; simpa using this
  have hs0 : (((w).alloc (.cells #[.int .u8 1, .int .i64 l] 25)).alloc (.cells #[.int .u8 0, .int .i64 0] 25)).heap.size = w.heap.size + 2 := by simp
  clear n0 n1
  have M0 := Lib.hid m0
  have M1 := Lib.hid m1
  clear m0 m1
  go_enter Tryd.func9, Tryd.ntmps9
  go_wp2_with fail
  refine (Calls.mono (h ▸ may 1 l _) ?_)
  rintro e w1 ⟨rfl, b1⟩
  have z1 : w.heap.size + 2 ≤ w1.heap.size := by have := b1.size; first | omega | (simp at this; omega)
  have g1_0 : w1.heap[w.heap.size]? = some (.cells #[.int .u8 1, .int .i64 l] 25 (0, 0)) := blk_below M0.out b1 (by first | omega | (simp <;> omega))
  have c1_0_0 : w1.cell? ⟨w.heap.size, 0, none⟩ = some (.int .u8 1) := blk_cell g1_0 0
  have f1_0_0 : w1.frozen? ⟨w.heap.size, 0, none⟩ = false := blk_frozen g1_0 0
  have c1_0_1 : w1.cell? ⟨w.heap.size, 1, none⟩ = some (.int .i64 l) := blk_cell g1_0 1
  have f1_0_1 : w1.frozen? ⟨w.heap.size, 1, none⟩ = false := blk_frozen g1_0 1
  have G1_0 := Lib.hid g1_0
  have g1_1 : w1.heap[(w.heap.size + 1)]? = some (.cells #[.int .u8 0, .int .i64 0] 25 (0, 0)) := blk_below M1.out b1 (by first | omega | (simp <;> omega))
  have c1_1_0 : w1.cell? ⟨(w.heap.size + 1), 0, none⟩ = some (.int .u8 0) := blk_cell g1_1 0
  have f1_1_0 : w1.frozen? ⟨(w.heap.size + 1), 0, none⟩ = false := blk_frozen g1_1 0
  have c1_1_1 : w1.cell? ⟨(w.heap.size + 1), 1, none⟩ = some (.int .i64 0) := blk_cell g1_1 1
  have f1_1_1 : w1.frozen? ⟨(w.heap.size + 1), 1, none⟩ = false := blk_frozen g1_1 1
  have G1_1 := Lib.hid g1_1
  clear g1_0 g1_1
  go_wp2
  have hix : ∀ W : World, Sem.run Tryd.prog (Instr.index 49 (.agg #[.func (.func 19) #[] #[], .func (.func 20) #[] #[], .func (.func 21) #[] #[]]) (.int .u8 1)) W = .ok (.func (.func 20) #[] #[]) W := fun W => by simp [Instr.index, go_sem]
  go_region_with (go_at_call 20; refine (Calls.mono (take_false _ _ _) ?_); rintro e w2 ⟨rfl, b2⟩; have z2 : w.heap.size + 2 ≤ w2.heap.size := (by have := b2.size; first | omega | (simp at this; omega)); have g2 : w2.heap[w.heap.size + 1]? = some (.cells #[.int .u8 0, .int .i64 0] 25 (0, 0)) := blk_below (w := w1.drew) G1_1.out b2 (by first | omega | (simp <;> omega)); have c2 : w2.cell? ⟨w.heap.size + 1, 0, none⟩ = some (.int .u8 0) := blk_cell g2 0; have d2 : w2.cell? ⟨w.heap.size + 1, 1, none⟩ = some (.int .i64 0) := blk_cell g2 1; have f2 : w2.frozen? ⟨w.heap.size + 1, 0, none⟩ = false := blk_frozen g2 0; have f3 : w2.frozen? ⟨w.heap.size + 1, 1, none⟩ = false := blk_frozen g2 1; have G2 := Lib.hid g2; clear g2)
  all_goals go_wp2
  all_goals exact ret_row_tmp rfl (w.heap.size + 1) 25 _ _ rfl (blk_eq (blk_set (blk_set G2.out _ _) _ _) rfl) Tryd.underlying25 rfl (by kernel_rfl) rfl ⟨rfl, by repeat (first | exact Below.refl _ _ | refine Below.alloc ?_ (by first | omega | (simp <;> omega)) _ | refine Below.setCell ?_ (by first | omega | (simp <;> omega)) _ | refine Below.trans ?_ (b2.mono (by first | omega | (simp <;> omega))) | refine Below.trans ?_ (b1.mono (by first | omega | (simp <;> omega))) | refine Below.drew ?_)⟩
set_option maxHeartbeats 4000000 in
theorem bd_try_bad (l : Int) (h : mayB 2 l = true) (w : World) : Calls Tryd.prog 9 #[ph 2 l, .bool false] w fun e w' => e = .returned (.tuple #[ph 0 0, .int .u8 4]) ∧ Below w.heap.size w w' := by
  have n0 := blk_new (w) #[.int .u8 2, .int .i64 l] 25
  have n1 := blk_new ((w).alloc (.cells #[.int .u8 2, .int .i64 l] 25)) #[.int .u8 0, .int .i64 0] 25
  have m0 : (((w).alloc (.cells #[.int .u8 2, .int .i64 l] 25)).alloc (.cells #[.int .u8 0, .int .i64 0] 25)).heap[w.heap.size]? = some (.cells #[.int .u8 2, .int .i64 l] 25 (0, 0)) := by have := (blk_alloc n0 (.cells #[.int .u8 0, .int .i64 0] 25)); simpa using this
  have m1 : (((w).alloc (.cells #[.int .u8 2, .int .i64 l] 25)).alloc (.cells #[.int .u8 0, .int .i64 0] 25)).heap[(w.heap.size + 1)]? = some (.cells #[.int .u8 0, .int .i64 0] 25 (0, 0)) := by have := n1; simpa using this
  have hs0 : (((w).alloc (.cells #[.int .u8 2, .int .i64 l] 25)).alloc (.cells #[.int .u8 0, .int .i64 0] 25)).heap.size = w.heap.size + 2 := by simp
  clear n0 n1
  have M0 := Lib.hid m0
  have M1 := Lib.hid m1
  clear m0 m1
  go_enter Tryd.func9, Tryd.ntmps9
  go_wp2_with fail
  refine (Calls.mono (h ▸ may 2 l _) ?_)
  rintro e w1 ⟨rfl, b1⟩
  have z1 : w.heap.size + 2 ≤ w1.heap.size := by have := b1.size; first | omega | (simp at this; omega)
  have g1_0 : w1.heap[w.heap.size]? = some (.cells #[.int .u8 2, .int .i64 l] 25 (0, 0)) := blk_below M0.out b1 (by first | omega | (simp <;> omega))
  have c1_0_0 : w1.cell? ⟨w.heap.size, 0, none⟩ = some (.int .u8 2) := blk_cell g1_0 0
  have f1_0_0 : w1.frozen? ⟨w.heap.size, 0, none⟩ = false := blk_frozen g1_0 0
  have c1_0_1 : w1.cell? ⟨w.heap.size, 1, none⟩ = some (.int .i64 l) := blk_cell g1_0 1
  have f1_0_1 : w1.frozen? ⟨w.heap.size, 1, none⟩ = false := blk_frozen g1_0 1
  have G1_0 := Lib.hid g1_0
  have g1_1 : w1.heap[(w.heap.size + 1)]? = some (.cells #[.int .u8 0, .int .i64 0] 25 (0, 0)) := blk_below M1.out b1 (by first | omega | (simp <;> omega))
  have c1_1_0 : w1.cell? ⟨(w.heap.size + 1), 0, none⟩ = some (.int .u8 0) := blk_cell g1_1 0
  have f1_1_0 : w1.frozen? ⟨(w.heap.size + 1), 0, none⟩ = false := blk_frozen g1_1 0
  have c1_1_1 : w1.cell? ⟨(w.heap.size + 1), 1, none⟩ = some (.int .i64 0) := blk_cell g1_1 1
  have f1_1_1 : w1.frozen? ⟨(w.heap.size + 1), 1, none⟩ = false := blk_frozen g1_1 1
  have G1_1 := Lib.hid g1_1
  clear g1_0 g1_1
  go_wp2
  have hix : ∀ W : World, Sem.run Tryd.prog (Instr.index 49 (.agg #[.func (.func 19) #[] #[], .func (.func 20) #[] #[], .func (.func 21) #[] #[]]) (.int .u8 2)) W = .ok (.func (.func 21) #[] #[]) W := fun W => by simp [Instr.index, go_sem]
  go_region_with (go_at_call 21; refine (Calls.mono (try_bad _ _ _) ?_); rintro e w2 ⟨rfl, b2⟩; have z2 : w.heap.size + 2 ≤ w2.heap.size := (by have := b2.size; first | omega | (simp at this; omega)); have g2 : w2.heap[w.heap.size + 1]? = some (.cells #[.int .u8 0, .int .i64 0] 25 (0, 0)) := blk_below (w := w1.drew) G1_1.out b2 (by first | omega | (simp <;> omega)); have c2 : w2.cell? ⟨w.heap.size + 1, 0, none⟩ = some (.int .u8 0) := blk_cell g2 0; have d2 : w2.cell? ⟨w.heap.size + 1, 1, none⟩ = some (.int .i64 0) := blk_cell g2 1; have f2 : w2.frozen? ⟨w.heap.size + 1, 0, none⟩ = false := blk_frozen g2 0; have f3 : w2.frozen? ⟨w.heap.size + 1, 1, none⟩ = false := blk_frozen g2 1; have G2 := Lib.hid g2; clear g2)
  all_goals go_wp2
  all_goals exact ret_row_tmp rfl (w.heap.size + 1) 25 _ _ rfl (blk_eq (blk_set (blk_set G2.out _ _) _ _) rfl) Tryd.underlying25 rfl (by kernel_rfl) rfl ⟨rfl, by repeat (first | exact Below.refl _ _ | refine Below.alloc ?_ (by first | omega | (simp <;> omega)) _ | refine Below.setCell ?_ (by first | omega | (simp <;> omega)) _ | refine Below.trans ?_ (b2.mono (by first | omega | (simp <;> omega))) | refine Below.trans ?_ (b1.mono (by first | omega | (simp <;> omega))) | refine Below.drew ?_)⟩
set_option maxHeartbeats 4000000 in
theorem bd_try_last (h : mayB 2 1 = true) (w : World) : Calls Tryd.prog 9 #[ph 2 1, .bool true] w fun e w' => e = .returned (.tuple #[ph 0 0, .int .u8 3]) ∧ Below w.heap.size w w' := by
  have n0 := blk_new (w) #[.int .u8 2, .int .i64 1] 25
  have n1 := blk_new ((w).alloc (.cells #[.int .u8 2, .int .i64 1] 25)) #[.int .u8 0, .int .i64 0] 25
  have m0 : (((w).alloc (.cells #[.int .u8 2, .int .i64 1] 25)).alloc (.cells #[.int .u8 0, .int .i64 0] 25)).heap[w.heap.size]? = some (.cells #[.int .u8 2, .int .i64 1] 25 (0, 0)) := by have := (blk_alloc n0 (.cells #[.int .u8 0, .int .i64 0] 25)); simpa using this
  have m1 : (((w).alloc (.cells #[.int .u8 2, .int .i64 1] 25)).alloc (.cells #[.int .u8 0, .int .i64 0] 25)).heap[(w.heap.size + 1)]? = some (.cells #[.int .u8 0, .int .i64 0] 25 (0, 0)) := by have := n1; simpa using this
  have hs0 : (((w).alloc (.cells #[.int .u8 2, .int .i64 1] 25)).alloc (.cells #[.int .u8 0, .int .i64 0] 25)).heap.size = w.heap.size + 2 := by simp
  clear n0 n1
  have M0 := Lib.hid m0
  have M1 := Lib.hid m1
  clear m0 m1
  go_enter Tryd.func9, Tryd.ntmps9
  go_wp2_with fail
  refine (Calls.mono (h ▸ may 2 1 _) ?_)
  rintro e w1 ⟨rfl, b1⟩
  have z1 : w.heap.size + 2 ≤ w1.heap.size := by have := b1.size; first | omega | (simp at this; omega)
  have g1_0 : w1.heap[w.heap.size]? = some (.cells #[.int .u8 2, .int .i64 1] 25 (0, 0)) := blk_below M0.out b1 (by first | omega | (simp <;> omega))
  have c1_0_0 : w1.cell? ⟨w.heap.size, 0, none⟩ = some (.int .u8 2) := blk_cell g1_0 0
  have f1_0_0 : w1.frozen? ⟨w.heap.size, 0, none⟩ = false := blk_frozen g1_0 0
  have c1_0_1 : w1.cell? ⟨w.heap.size, 1, none⟩ = some (.int .i64 1) := blk_cell g1_0 1
  have f1_0_1 : w1.frozen? ⟨w.heap.size, 1, none⟩ = false := blk_frozen g1_0 1
  have G1_0 := Lib.hid g1_0
  have g1_1 : w1.heap[(w.heap.size + 1)]? = some (.cells #[.int .u8 0, .int .i64 0] 25 (0, 0)) := blk_below M1.out b1 (by first | omega | (simp <;> omega))
  have c1_1_0 : w1.cell? ⟨(w.heap.size + 1), 0, none⟩ = some (.int .u8 0) := blk_cell g1_1 0
  have f1_1_0 : w1.frozen? ⟨(w.heap.size + 1), 0, none⟩ = false := blk_frozen g1_1 0
  have c1_1_1 : w1.cell? ⟨(w.heap.size + 1), 1, none⟩ = some (.int .i64 0) := blk_cell g1_1 1
  have f1_1_1 : w1.frozen? ⟨(w.heap.size + 1), 1, none⟩ = false := blk_frozen g1_1 1
  have G1_1 := Lib.hid g1_1
  clear g1_0 g1_1
  go_wp2
  have hix : ∀ W : World, Sem.run Tryd.prog (Instr.index 49 (.agg #[.func (.func 19) #[] #[], .func (.func 20) #[] #[], .func (.func 21) #[] #[]]) (.int .u8 2)) W = .ok (.func (.func 21) #[] #[]) W := fun W => by simp [Instr.index, go_sem]
  go_region_with (go_at_call 21; refine (Calls.mono (try_last _ _) ?_); rintro e w2 ⟨rfl, b2⟩; have z2 : w.heap.size + 2 ≤ w2.heap.size := (by have := b2.size; first | omega | (simp at this; omega)); have g2 : w2.heap[w.heap.size + 1]? = some (.cells #[.int .u8 0, .int .i64 0] 25 (0, 0)) := blk_below (w := w1.drew) G1_1.out b2 (by first | omega | (simp <;> omega)); have c2 : w2.cell? ⟨w.heap.size + 1, 0, none⟩ = some (.int .u8 0) := blk_cell g2 0; have d2 : w2.cell? ⟨w.heap.size + 1, 1, none⟩ = some (.int .i64 0) := blk_cell g2 1; have f2 : w2.frozen? ⟨w.heap.size + 1, 0, none⟩ = false := blk_frozen g2 0; have f3 : w2.frozen? ⟨w.heap.size + 1, 1, none⟩ = false := blk_frozen g2 1; have G2 := Lib.hid g2; clear g2)
  all_goals go_wp2
  all_goals exact ret_row_tmp rfl (w.heap.size + 1) 25 _ _ rfl (blk_eq (blk_set (blk_set G2.out _ _) _ _) rfl) Tryd.underlying25 rfl (by kernel_rfl) rfl ⟨rfl, by repeat (first | exact Below.refl _ _ | refine Below.alloc ?_ (by first | omega | (simp <;> omega)) _ | refine Below.setCell ?_ (by first | omega | (simp <;> omega)) _ | refine Below.trans ?_ (b2.mono (by first | omega | (simp <;> omega))) | refine Below.trans ?_ (b1.mono (by first | omega | (simp <;> omega))) | refine Below.drew ?_)⟩
set_option maxHeartbeats 4000000 in
theorem bd_try_on (l : Int) (hl : (l == 1) = false) (hw : IntKind.i64.wrap (l - 1) = l - 1) (h : mayB 2 l = true) (w : World) : Calls Tryd.prog 9 #[ph 2 l, .bool true] w fun e w' => e = .returned (.tuple #[ph 2 (l - 1), .int .u8 2]) ∧ Below w.heap.size w w' := by
  have n0 := blk_new (w) #[.int .u8 2, .int .i64 l] 25
  have n1 := blk_new ((w).alloc (.cells #[.int .u8 2, .int .i64 l] 25)) #[.int .u8 0, .int .i64 0] 25
  have m0 : (((w).alloc (.cells #[.int .u8 2, .int .i64 l] 25)).alloc (.cells #[.int .u8 0, .int .i64 0] 25)).heap[w.heap.size]? = some (.cells #[.int .u8 2, .int .i64 l] 25 (0, 0)) := by have := (blk_alloc n0 (.cells #[.int .u8 0, .int .i64 0] 25)); simpa using this
  have m1 : (((w).alloc (.cells #[.int .u8 2, .int .i64 l] 25)).alloc (.cells #[.int .u8 0, .int .i64 0] 25)).heap[(w.heap.size + 1)]? = some (.cells #[.int .u8 0, .int .i64 0] 25 (0, 0)) := by have := n1; simpa using this
  have hs0 : (((w).alloc (.cells #[.int .u8 2, .int .i64 l] 25)).alloc (.cells #[.int .u8 0, .int .i64 0] 25)).heap.size = w.heap.size + 2 := by simp
  clear n0 n1
  have M0 := Lib.hid m0
  have M1 := Lib.hid m1
  clear m0 m1
  go_enter Tryd.func9, Tryd.ntmps9
  go_wp2_with fail
  refine (Calls.mono (h ▸ may 2 l _) ?_)
  rintro e w1 ⟨rfl, b1⟩
  have z1 : w.heap.size + 2 ≤ w1.heap.size := by have := b1.size; first | omega | (simp at this; omega)
  have g1_0 : w1.heap[w.heap.size]? = some (.cells #[.int .u8 2, .int .i64 l] 25 (0, 0)) := blk_below M0.out b1 (by first | omega | (simp <;> omega))
  have c1_0_0 : w1.cell? ⟨w.heap.size, 0, none⟩ = some (.int .u8 2) := blk_cell g1_0 0
  have f1_0_0 : w1.frozen? ⟨w.heap.size, 0, none⟩ = false := blk_frozen g1_0 0
  have c1_0_1 : w1.cell? ⟨w.heap.size, 1, none⟩ = some (.int .i64 l) := blk_cell g1_0 1
  have f1_0_1 : w1.frozen? ⟨w.heap.size, 1, none⟩ = false := blk_frozen g1_0 1
  have G1_0 := Lib.hid g1_0
  have g1_1 : w1.heap[(w.heap.size + 1)]? = some (.cells #[.int .u8 0, .int .i64 0] 25 (0, 0)) := blk_below M1.out b1 (by first | omega | (simp <;> omega))
  have c1_1_0 : w1.cell? ⟨(w.heap.size + 1), 0, none⟩ = some (.int .u8 0) := blk_cell g1_1 0
  have f1_1_0 : w1.frozen? ⟨(w.heap.size + 1), 0, none⟩ = false := blk_frozen g1_1 0
  have c1_1_1 : w1.cell? ⟨(w.heap.size + 1), 1, none⟩ = some (.int .i64 0) := blk_cell g1_1 1
  have f1_1_1 : w1.frozen? ⟨(w.heap.size + 1), 1, none⟩ = false := blk_frozen g1_1 1
  have G1_1 := Lib.hid g1_1
  clear g1_0 g1_1
  go_wp2
  have hix : ∀ W : World, Sem.run Tryd.prog (Instr.index 49 (.agg #[.func (.func 19) #[] #[], .func (.func 20) #[] #[], .func (.func 21) #[] #[]]) (.int .u8 2)) W = .ok (.func (.func 21) #[] #[]) W := fun W => by simp [Instr.index, go_sem]
  go_region_with (go_at_call 21; refine (Calls.mono (try_on _ _ hl hw _) ?_); rintro e w2 ⟨rfl, b2⟩; have z2 : w.heap.size + 2 ≤ w2.heap.size := (by have := b2.size; first | omega | (simp at this; omega)); have g2 : w2.heap[w.heap.size + 1]? = some (.cells #[.int .u8 0, .int .i64 0] 25 (0, 0)) := blk_below (w := w1.drew) G1_1.out b2 (by first | omega | (simp <;> omega)); have c2 : w2.cell? ⟨w.heap.size + 1, 0, none⟩ = some (.int .u8 0) := blk_cell g2 0; have d2 : w2.cell? ⟨w.heap.size + 1, 1, none⟩ = some (.int .i64 0) := blk_cell g2 1; have f2 : w2.frozen? ⟨w.heap.size + 1, 0, none⟩ = false := blk_frozen g2 0; have f3 : w2.frozen? ⟨w.heap.size + 1, 1, none⟩ = false := blk_frozen g2 1; have G2 := Lib.hid g2; clear g2)
  all_goals go_wp2
  all_goals exact ret_row_tmp rfl (w.heap.size + 1) 25 _ _ rfl (blk_eq (blk_set (blk_set G2.out _ _) _ _) rfl) Tryd.underlying25 rfl (by kernel_rfl) rfl ⟨rfl, by repeat (first | exact Below.refl _ _ | refine Below.alloc ?_ (by first | omega | (simp <;> omega)) _ | refine Below.setCell ?_ (by first | omega | (simp <;> omega)) _ | refine Below.trans ?_ (b2.mono (by first | omega | (simp <;> omega))) | refine Below.trans ?_ (b1.mono (by first | omega | (simp <;> omega))) | refine Below.drew ?_)⟩
end Go.Proofs.YtojielokkpmjeaaDoor.tr
