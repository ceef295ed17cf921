/- trial and its reference: Commit, Boundary, Text, walked case by case (printed by gen_trial.py). -/
import Derived.Test.YtojielokkpmjeaaDoorRows
import Derived.Test.YtojielokkpmjeaaDoorTrialG
namespace Go.Proofs.YtojielokkpmjeaaDoor.tr
open Go Go.ChangeShapes Go.WideShapes Go.ChangeAt Go.RowKit
theorem blk_new4 (w : World) (o : Obj) (cs : Array Value) (t : TypeId) : ((w.alloc o).alloc (.cells cs t)).heap[w.heap.size + 1]? = some (.cells cs t (0, 0)) := by have := blk_new (w.alloc o) cs t; simpa using this
theorem rc_bad (k l n : Int) (h : mayB k l = false) (w : World) : Calls Tryd.prog 12 #[rf k l, .int .i64 n] w fun e w' => e = .returned (.tuple #[rf 0 0, .int .i64 2]) ∧ Below w.heap.size w w' := by
  have n0 := blk_new (w) #[.int .i64 k, .int .i64 l] 36
  have n1 := blk_new ((w).alloc (.cells #[.int .i64 k, .int .i64 l] 36)) #[.int .i64 0, .int .i64 0] 36
  have m0 : (((w).alloc (.cells #[.int .i64 k, .int .i64 l] 36)).alloc (.cells #[.int .i64 0, .int .i64 0] 36)).heap[w.heap.size]? = some (.cells #[.int .i64 k, .int .i64 l] 36 (0, 0)) := by have := (blk_alloc n0 (.cells #[.int .i64 0, .int .i64 0] 36)); simpa using this
  have m1 : (((w).alloc (.cells #[.int .i64 k, .int .i64 l] 36)).alloc (.cells #[.int .i64 0, .int .i64 0] 36)).heap[(w.heap.size + 1)]? = some (.cells #[.int .i64 0, .int .i64 0] 36 (0, 0)) := by have := n1; simpa using this
  have hs0 : (((w).alloc (.cells #[.int .i64 k, .int .i64 l] 36)).alloc (.cells #[.int .i64 0, .int .i64 0] 36)).heap.size = w.heap.size + 2 := by simp
  clear n0 n1
  have M0 := Lib.hid m0
  have M1 := Lib.hid m1
  clear m0 m1
  go_enter Tryd.func12, Tryd.ntmps12
  go_wp2_with fail
  refine (Calls.mono (h ▸ rmay k l _) ?_)
  rintro e w1 ⟨rfl, b1⟩
  have z1 : w.heap.size + 2 ≤ w1.heap.size := by have := b1.size; first | omega | (simp at this; omega)
  have g1_0 : w1.heap[w.heap.size]? = some (.cells #[.int .i64 k, .int .i64 l] 36 (0, 0)) := blk_below M0.out b1 (by first | omega | (simp <;> omega))
  have c1_0_0 : w1.cell? ⟨w.heap.size, 0, none⟩ = some (.int .i64 k) := blk_cell g1_0 0
  have f1_0_0 : w1.frozen? ⟨w.heap.size, 0, none⟩ = false := blk_frozen g1_0 0
  have c1_0_1 : w1.cell? ⟨w.heap.size, 1, none⟩ = some (.int .i64 l) := blk_cell g1_0 1
  have f1_0_1 : w1.frozen? ⟨w.heap.size, 1, none⟩ = false := blk_frozen g1_0 1
  have G1_0 := Lib.hid g1_0
  have g1_1 : w1.heap[(w.heap.size + 1)]? = some (.cells #[.int .i64 0, .int .i64 0] 36 (0, 0)) := blk_below M1.out b1 (by first | omega | (simp <;> omega))
  have c1_1_0 : w1.cell? ⟨(w.heap.size + 1), 0, none⟩ = some (.int .i64 0) := blk_cell g1_1 0
  have f1_1_0 : w1.frozen? ⟨(w.heap.size + 1), 0, none⟩ = false := blk_frozen g1_1 0
  have c1_1_1 : w1.cell? ⟨(w.heap.size + 1), 1, none⟩ = some (.int .i64 0) := blk_cell g1_1 1
  have f1_1_1 : w1.frozen? ⟨(w.heap.size + 1), 1, none⟩ = false := blk_frozen g1_1 1
  have G1_1 := Lib.hid g1_1
  clear g1_0 g1_1
  go_wp2
  exact ret_row_tmp rfl (w.heap.size + 1) 36 _ _ rfl (blk_eq (blk_set (blk_set G1_1.out _ _) _ _) rfl) Tryd.underlying36 rfl (by kernel_rfl) rfl ⟨rfl, by repeat (first | exact Below.refl _ _ | refine Below.alloc ?_ (by first | omega | (simp <;> omega)) _ | refine Below.setCell ?_ (by first | omega | (simp <;> omega)) _ | refine Below.trans ?_ (b1.mono (by first | omega | (simp <;> omega))))⟩
theorem rc_bad1 (k l n : Int) (h : mayB k l = true) (h2 : n < 1) (w : World) : Calls Tryd.prog 12 #[rf k l, .int .i64 n] w fun e w' => e = .returned (.tuple #[rf 0 0, .int .i64 2]) ∧ Below w.heap.size w w' := by
  have n0 := blk_new (w) #[.int .i64 k, .int .i64 l] 36
  have n1 := blk_new ((w).alloc (.cells #[.int .i64 k, .int .i64 l] 36)) #[.int .i64 0, .int .i64 0] 36
  have m0 : (((w).alloc (.cells #[.int .i64 k, .int .i64 l] 36)).alloc (.cells #[.int .i64 0, .int .i64 0] 36)).heap[w.heap.size]? = some (.cells #[.int .i64 k, .int .i64 l] 36 (0, 0)) := by have := (blk_alloc n0 (.cells #[.int .i64 0, .int .i64 0] 36)); simpa using this
  have m1 : (((w).alloc (.cells #[.int .i64 k, .int .i64 l] 36)).alloc (.cells #[.int .i64 0, .int .i64 0] 36)).heap[(w.heap.size + 1)]? = some (.cells #[.int .i64 0, .int .i64 0] 36 (0, 0)) := by have := n1; simpa using this
  have hs0 : (((w).alloc (.cells #[.int .i64 k, .int .i64 l] 36)).alloc (.cells #[.int .i64 0, .int .i64 0] 36)).heap.size = w.heap.size + 2 := by simp
  clear n0 n1
  have M0 := Lib.hid m0
  have M1 := Lib.hid m1
  clear m0 m1
  go_enter Tryd.func12, Tryd.ntmps12
  go_wp2_with fail
  refine (Calls.mono (h ▸ rmay k l _) ?_)
  rintro e w1 ⟨rfl, b1⟩
  have z1 : w.heap.size + 2 ≤ w1.heap.size := by have := b1.size; first | omega | (simp at this; omega)
  have g1_0 : w1.heap[w.heap.size]? = some (.cells #[.int .i64 k, .int .i64 l] 36 (0, 0)) := blk_below M0.out b1 (by first | omega | (simp <;> omega))
  have c1_0_0 : w1.cell? ⟨w.heap.size, 0, none⟩ = some (.int .i64 k) := blk_cell g1_0 0
  have f1_0_0 : w1.frozen? ⟨w.heap.size, 0, none⟩ = false := blk_frozen g1_0 0
  have c1_0_1 : w1.cell? ⟨w.heap.size, 1, none⟩ = some (.int .i64 l) := blk_cell g1_0 1
  have f1_0_1 : w1.frozen? ⟨w.heap.size, 1, none⟩ = false := blk_frozen g1_0 1
  have G1_0 := Lib.hid g1_0
  have g1_1 : w1.heap[(w.heap.size + 1)]? = some (.cells #[.int .i64 0, .int .i64 0] 36 (0, 0)) := blk_below M1.out b1 (by first | omega | (simp <;> omega))
  have c1_1_0 : w1.cell? ⟨(w.heap.size + 1), 0, none⟩ = some (.int .i64 0) := blk_cell g1_1 0
  have f1_1_0 : w1.frozen? ⟨(w.heap.size + 1), 0, none⟩ = false := blk_frozen g1_1 0
  have c1_1_1 : w1.cell? ⟨(w.heap.size + 1), 1, none⟩ = some (.int .i64 0) := blk_cell g1_1 1
  have f1_1_1 : w1.frozen? ⟨(w.heap.size + 1), 1, none⟩ = false := blk_frozen g1_1 1
  have G1_1 := Lib.hid g1_1
  clear g1_0 g1_1
  go_wp2
  exact ret_row_tmp rfl (w.heap.size + 1) 36 _ _ rfl (blk_eq (blk_set (blk_set G1_1.out _ _) _ _) rfl) Tryd.underlying36 rfl (by kernel_rfl) rfl ⟨rfl, by repeat (first | exact Below.refl _ _ | refine Below.alloc ?_ (by first | omega | (simp <;> omega)) _ | refine Below.setCell ?_ (by first | omega | (simp <;> omega)) _ | refine Below.trans ?_ (b1.mono (by first | omega | (simp <;> omega))))⟩
theorem rc_bad2 (k l n : Int) (h : mayB k l = true) (h2 : ¬ n < 1) (h3 : 8 < n) (w : World) : Calls Tryd.prog 12 #[rf k l, .int .i64 n] w fun e w' => e = .returned (.tuple #[rf 0 0, .int .i64 2]) ∧ Below w.heap.size w w' := by
  have n0 := blk_new (w) #[.int .i64 k, .int .i64 l] 36
  have n1 := blk_new ((w).alloc (.cells #[.int .i64 k, .int .i64 l] 36)) #[.int .i64 0, .int .i64 0] 36
  have m0 : (((w).alloc (.cells #[.int .i64 k, .int .i64 l] 36)).alloc (.cells #[.int .i64 0, .int .i64 0] 36)).heap[w.heap.size]? = some (.cells #[.int .i64 k, .int .i64 l] 36 (0, 0)) := by have := (blk_alloc n0 (.cells #[.int .i64 0, .int .i64 0] 36)); simpa using this
  have m1 : (((w).alloc (.cells #[.int .i64 k, .int .i64 l] 36)).alloc (.cells #[.int .i64 0, .int .i64 0] 36)).heap[(w.heap.size + 1)]? = some (.cells #[.int .i64 0, .int .i64 0] 36 (0, 0)) := by have := n1; simpa using this
  have hs0 : (((w).alloc (.cells #[.int .i64 k, .int .i64 l] 36)).alloc (.cells #[.int .i64 0, .int .i64 0] 36)).heap.size = w.heap.size + 2 := by simp
  clear n0 n1
  have M0 := Lib.hid m0
  have M1 := Lib.hid m1
  clear m0 m1
  go_enter Tryd.func12, Tryd.ntmps12
  go_wp2_with fail
  refine (Calls.mono (h ▸ rmay k l _) ?_)
  rintro e w1 ⟨rfl, b1⟩
  have z1 : w.heap.size + 2 ≤ w1.heap.size := by have := b1.size; first | omega | (simp at this; omega)
  have g1_0 : w1.heap[w.heap.size]? = some (.cells #[.int .i64 k, .int .i64 l] 36 (0, 0)) := blk_below M0.out b1 (by first | omega | (simp <;> omega))
  have c1_0_0 : w1.cell? ⟨w.heap.size, 0, none⟩ = some (.int .i64 k) := blk_cell g1_0 0
  have f1_0_0 : w1.frozen? ⟨w.heap.size, 0, none⟩ = false := blk_frozen g1_0 0
  have c1_0_1 : w1.cell? ⟨w.heap.size, 1, none⟩ = some (.int .i64 l) := blk_cell g1_0 1
  have f1_0_1 : w1.frozen? ⟨w.heap.size, 1, none⟩ = false := blk_frozen g1_0 1
  have G1_0 := Lib.hid g1_0
  have g1_1 : w1.heap[(w.heap.size + 1)]? = some (.cells #[.int .i64 0, .int .i64 0] 36 (0, 0)) := blk_below M1.out b1 (by first | omega | (simp <;> omega))
  have c1_1_0 : w1.cell? ⟨(w.heap.size + 1), 0, none⟩ = some (.int .i64 0) := blk_cell g1_1 0
  have f1_1_0 : w1.frozen? ⟨(w.heap.size + 1), 0, none⟩ = false := blk_frozen g1_1 0
  have c1_1_1 : w1.cell? ⟨(w.heap.size + 1), 1, none⟩ = some (.int .i64 0) := blk_cell g1_1 1
  have f1_1_1 : w1.frozen? ⟨(w.heap.size + 1), 1, none⟩ = false := blk_frozen g1_1 1
  have G1_1 := Lib.hid g1_1
  clear g1_0 g1_1
  go_wp2
  exact ret_row_tmp rfl (w.heap.size + 1) 36 _ _ rfl (blk_eq (blk_set (blk_set G1_1.out _ _) _ _) rfl) Tryd.underlying36 rfl (by kernel_rfl) rfl ⟨rfl, by repeat (first | exact Below.refl _ _ | refine Below.alloc ?_ (by first | omega | (simp <;> omega)) _ | refine Below.setCell ?_ (by first | omega | (simp <;> omega)) _ | refine Below.trans ?_ (b1.mono (by first | omega | (simp <;> omega))))⟩
theorem rc_busy (k l n : Int) (h : mayB k l = true) (h2 : ¬ n < 1) (h3 : ¬ 8 < n) (h4 : (k == 0) = false) (w : World) : Calls Tryd.prog 12 #[rf k l, .int .i64 n] w fun e w' => e = .returned (.tuple #[rf 0 0, .int .i64 270]) ∧ Below w.heap.size w w' := by
  have n0 := blk_new (w) #[.int .i64 k, .int .i64 l] 36
  have n1 := blk_new ((w).alloc (.cells #[.int .i64 k, .int .i64 l] 36)) #[.int .i64 0, .int .i64 0] 36
  have m0 : (((w).alloc (.cells #[.int .i64 k, .int .i64 l] 36)).alloc (.cells #[.int .i64 0, .int .i64 0] 36)).heap[w.heap.size]? = some (.cells #[.int .i64 k, .int .i64 l] 36 (0, 0)) := by have := (blk_alloc n0 (.cells #[.int .i64 0, .int .i64 0] 36)); simpa using this
  have m1 : (((w).alloc (.cells #[.int .i64 k, .int .i64 l] 36)).alloc (.cells #[.int .i64 0, .int .i64 0] 36)).heap[(w.heap.size + 1)]? = some (.cells #[.int .i64 0, .int .i64 0] 36 (0, 0)) := by have := n1; simpa using this
  have hs0 : (((w).alloc (.cells #[.int .i64 k, .int .i64 l] 36)).alloc (.cells #[.int .i64 0, .int .i64 0] 36)).heap.size = w.heap.size + 2 := by simp
  clear n0 n1
  have M0 := Lib.hid m0
  have M1 := Lib.hid m1
  clear m0 m1
  go_enter Tryd.func12, Tryd.ntmps12
  go_wp2_with fail
  refine (Calls.mono (h ▸ rmay k l _) ?_)
  rintro e w1 ⟨rfl, b1⟩
  have z1 : w.heap.size + 2 ≤ w1.heap.size := by have := b1.size; first | omega | (simp at this; omega)
  have g1_0 : w1.heap[w.heap.size]? = some (.cells #[.int .i64 k, .int .i64 l] 36 (0, 0)) := blk_below M0.out b1 (by first | omega | (simp <;> omega))
  have c1_0_0 : w1.cell? ⟨w.heap.size, 0, none⟩ = some (.int .i64 k) := blk_cell g1_0 0
  have f1_0_0 : w1.frozen? ⟨w.heap.size, 0, none⟩ = false := blk_frozen g1_0 0
  have c1_0_1 : w1.cell? ⟨w.heap.size, 1, none⟩ = some (.int .i64 l) := blk_cell g1_0 1
  have f1_0_1 : w1.frozen? ⟨w.heap.size, 1, none⟩ = false := blk_frozen g1_0 1
  have G1_0 := Lib.hid g1_0
  have g1_1 : w1.heap[(w.heap.size + 1)]? = some (.cells #[.int .i64 0, .int .i64 0] 36 (0, 0)) := blk_below M1.out b1 (by first | omega | (simp <;> omega))
  have c1_1_0 : w1.cell? ⟨(w.heap.size + 1), 0, none⟩ = some (.int .i64 0) := blk_cell g1_1 0
  have f1_1_0 : w1.frozen? ⟨(w.heap.size + 1), 0, none⟩ = false := blk_frozen g1_1 0
  have c1_1_1 : w1.cell? ⟨(w.heap.size + 1), 1, none⟩ = some (.int .i64 0) := blk_cell g1_1 1
  have f1_1_1 : w1.frozen? ⟨(w.heap.size + 1), 1, none⟩ = false := blk_frozen g1_1 1
  have G1_1 := Lib.hid g1_1
  clear g1_0 g1_1
  go_wp2
  exact ret_row_tmp rfl (w.heap.size + 1) 36 _ _ rfl (blk_eq (blk_set (blk_set G1_1.out _ _) _ _) rfl) Tryd.underlying36 rfl (by kernel_rfl) rfl ⟨rfl, by repeat (first | exact Below.refl _ _ | refine Below.alloc ?_ (by first | omega | (simp <;> omega)) _ | refine Below.setCell ?_ (by first | omega | (simp <;> omega)) _ | refine Below.trans ?_ (b1.mono (by first | omega | (simp <;> omega))))⟩
theorem rc_ok (l n : Int) (h : mayB 0 l = true) (h2 : ¬ n < 1) (h3 : ¬ 8 < n) (w : World) : Calls Tryd.prog 12 #[rf 0 l, .int .i64 n] w fun e w' => e = .returned (.tuple #[rf 1 n, .int .i64 0]) ∧ Below w.heap.size w w' := by
  have n0 := blk_new (w) #[.int .i64 0, .int .i64 l] 36
  have n1 := blk_new ((w).alloc (.cells #[.int .i64 0, .int .i64 l] 36)) #[.int .i64 0, .int .i64 0] 36
  have m0 : (((w).alloc (.cells #[.int .i64 0, .int .i64 l] 36)).alloc (.cells #[.int .i64 0, .int .i64 0] 36)).heap[w.heap.size]? = some (.cells #[.int .i64 0, .int .i64 l] 36 (0, 0)) := by have := (blk_alloc n0 (.cells #[.int .i64 0, .int .i64 0] 36)); simpa using this
  have m1 : (((w).alloc (.cells #[.int .i64 0, .int .i64 l] 36)).alloc (.cells #[.int .i64 0, .int .i64 0] 36)).heap[(w.heap.size + 1)]? = some (.cells #[.int .i64 0, .int .i64 0] 36 (0, 0)) := by have := n1; simpa using this
  have hs0 : (((w).alloc (.cells #[.int .i64 0, .int .i64 l] 36)).alloc (.cells #[.int .i64 0, .int .i64 0] 36)).heap.size = w.heap.size + 2 := by simp
  clear n0 n1
  have M0 := Lib.hid m0
  have M1 := Lib.hid m1
  clear m0 m1
  go_enter Tryd.func12, Tryd.ntmps12
  go_wp2_with fail
  refine (Calls.mono (h ▸ rmay 0 l _) ?_)
  rintro e w1 ⟨rfl, b1⟩
  have z1 : w.heap.size + 2 ≤ w1.heap.size := by have := b1.size; first | omega | (simp at this; omega)
  have g1_0 : w1.heap[w.heap.size]? = some (.cells #[.int .i64 0, .int .i64 l] 36 (0, 0)) := blk_below M0.out b1 (by first | omega | (simp <;> omega))
  have c1_0_0 : w1.cell? ⟨w.heap.size, 0, none⟩ = some (.int .i64 0) := blk_cell g1_0 0
  have f1_0_0 : w1.frozen? ⟨w.heap.size, 0, none⟩ = false := blk_frozen g1_0 0
  have c1_0_1 : w1.cell? ⟨w.heap.size, 1, none⟩ = some (.int .i64 l) := blk_cell g1_0 1
  have f1_0_1 : w1.frozen? ⟨w.heap.size, 1, none⟩ = false := blk_frozen g1_0 1
  have G1_0 := Lib.hid g1_0
  have g1_1 : w1.heap[(w.heap.size + 1)]? = some (.cells #[.int .i64 0, .int .i64 0] 36 (0, 0)) := blk_below M1.out b1 (by first | omega | (simp <;> omega))
  have c1_1_0 : w1.cell? ⟨(w.heap.size + 1), 0, none⟩ = some (.int .i64 0) := blk_cell g1_1 0
  have f1_1_0 : w1.frozen? ⟨(w.heap.size + 1), 0, none⟩ = false := blk_frozen g1_1 0
  have c1_1_1 : w1.cell? ⟨(w.heap.size + 1), 1, none⟩ = some (.int .i64 0) := blk_cell g1_1 1
  have f1_1_1 : w1.frozen? ⟨(w.heap.size + 1), 1, none⟩ = false := blk_frozen g1_1 1
  have G1_1 := Lib.hid g1_1
  clear g1_0 g1_1
  go_wp2
  exact ret_row_tmp rfl (w.heap.size + 1) 36 _ _ rfl (blk_eq (blk_set (blk_set G1_1.out _ _) _ _) rfl) Tryd.underlying36 rfl (by kernel_rfl) rfl ⟨rfl, by repeat (first | exact Below.refl _ _ | refine Below.alloc ?_ (by first | omega | (simp <;> omega)) _ | refine Below.setCell ?_ (by first | omega | (simp <;> omega)) _ | refine Below.trans ?_ (b1.mono (by first | omega | (simp <;> omega))))⟩
theorem rb_bad_true (k l : Int) (h : mayB k l = false) (w : World) : Calls Tryd.prog 13 #[rf k l, .bool true] w fun e w' => e = .returned (.tuple #[rf 0 0, .int .i64 0]) ∧ Below w.heap.size w w' := by
  have n0 := blk_new (w) #[.int .i64 k, .int .i64 l] 36
  have n1 := blk_new ((w).alloc (.cells #[.int .i64 k, .int .i64 l] 36)) #[.int .i64 0, .int .i64 0] 36
  have m0 : (((w).alloc (.cells #[.int .i64 k, .int .i64 l] 36)).alloc (.cells #[.int .i64 0, .int .i64 0] 36)).heap[w.heap.size]? = some (.cells #[.int .i64 k, .int .i64 l] 36 (0, 0)) := by have := (blk_alloc n0 (.cells #[.int .i64 0, .int .i64 0] 36)); simpa using this
  have m1 : (((w).alloc (.cells #[.int .i64 k, .int .i64 l] 36)).alloc (.cells #[.int .i64 0, .int .i64 0] 36)).heap[(w.heap.size + 1)]? = some (.cells #[.int .i64 0, .int .i64 0] 36 (0, 0)) := by have := n1; simpa using this
  have hs0 : (((w).alloc (.cells #[.int .i64 k, .int .i64 l] 36)).alloc (.cells #[.int .i64 0, .int .i64 0] 36)).heap.size = w.heap.size + 2 := by simp
  clear n0 n1
  have M0 := Lib.hid m0
  have M1 := Lib.hid m1
  clear m0 m1
  go_enter Tryd.func13, Tryd.ntmps13
  go_wp2_with fail
  refine (Calls.mono (h ▸ rmay k l _) ?_)
  rintro e w1 ⟨rfl, b1⟩
  have z1 : w.heap.size + 2 ≤ w1.heap.size := by have := b1.size; first | omega | (simp at this; omega)
  have g1_0 : w1.heap[w.heap.size]? = some (.cells #[.int .i64 k, .int .i64 l] 36 (0, 0)) := blk_below M0.out b1 (by first | omega | (simp <;> omega))
  have c1_0_0 : w1.cell? ⟨w.heap.size, 0, none⟩ = some (.int .i64 k) := blk_cell g1_0 0
  have f1_0_0 : w1.frozen? ⟨w.heap.size, 0, none⟩ = false := blk_frozen g1_0 0
  have c1_0_1 : w1.cell? ⟨w.heap.size, 1, none⟩ = some (.int .i64 l) := blk_cell g1_0 1
  have f1_0_1 : w1.frozen? ⟨w.heap.size, 1, none⟩ = false := blk_frozen g1_0 1
  have G1_0 := Lib.hid g1_0
  have g1_1 : w1.heap[(w.heap.size + 1)]? = some (.cells #[.int .i64 0, .int .i64 0] 36 (0, 0)) := blk_below M1.out b1 (by first | omega | (simp <;> omega))
  have c1_1_0 : w1.cell? ⟨(w.heap.size + 1), 0, none⟩ = some (.int .i64 0) := blk_cell g1_1 0
  have f1_1_0 : w1.frozen? ⟨(w.heap.size + 1), 0, none⟩ = false := blk_frozen g1_1 0
  have c1_1_1 : w1.cell? ⟨(w.heap.size + 1), 1, none⟩ = some (.int .i64 0) := blk_cell g1_1 1
  have f1_1_1 : w1.frozen? ⟨(w.heap.size + 1), 1, none⟩ = false := blk_frozen g1_1 1
  have G1_1 := Lib.hid g1_1
  clear g1_0 g1_1
  go_wp2
  exact ret_row_tmp rfl (w.heap.size + 1) 36 _ _ rfl (blk_eq (blk_set (blk_set G1_1.out _ _) _ _) rfl) Tryd.underlying36 rfl (by kernel_rfl) rfl ⟨rfl, by repeat (first | exact Below.refl _ _ | refine Below.alloc ?_ (by first | omega | (simp <;> omega)) _ | refine Below.setCell ?_ (by first | omega | (simp <;> omega)) _ | refine Below.trans ?_ (b1.mono (by first | omega | (simp <;> omega))))⟩
theorem rb_rest_true (l : Int) (h : mayB 0 l = true) (w : World) : Calls Tryd.prog 13 #[rf 0 l, .bool true] w fun e w' => e = .returned (.tuple #[rf 0 0, .int .i64 0]) ∧ Below w.heap.size w w' := by
  have n0 := blk_new (w) #[.int .i64 0, .int .i64 l] 36
  have n1 := blk_new ((w).alloc (.cells #[.int .i64 0, .int .i64 l] 36)) #[.int .i64 0, .int .i64 0] 36
  have m0 : (((w).alloc (.cells #[.int .i64 0, .int .i64 l] 36)).alloc (.cells #[.int .i64 0, .int .i64 0] 36)).heap[w.heap.size]? = some (.cells #[.int .i64 0, .int .i64 l] 36 (0, 0)) := by have := (blk_alloc n0 (.cells #[.int .i64 0, .int .i64 0] 36)); simpa using this
  have m1 : (((w).alloc (.cells #[.int .i64 0, .int .i64 l] 36)).alloc (.cells #[.int .i64 0, .int .i64 0] 36)).heap[(w.heap.size + 1)]? = some (.cells #[.int .i64 0, .int .i64 0] 36 (0, 0)) := by have := n1; simpa using this
  have hs0 : (((w).alloc (.cells #[.int .i64 0, .int .i64 l] 36)).alloc (.cells #[.int .i64 0, .int .i64 0] 36)).heap.size = w.heap.size + 2 := by simp
  clear n0 n1
  have M0 := Lib.hid m0
  have M1 := Lib.hid m1
  clear m0 m1
  go_enter Tryd.func13, Tryd.ntmps13
  go_wp2_with fail
  refine (Calls.mono (h ▸ rmay 0 l _) ?_)
  rintro e w1 ⟨rfl, b1⟩
  have z1 : w.heap.size + 2 ≤ w1.heap.size := by have := b1.size; first | omega | (simp at this; omega)
  have g1_0 : w1.heap[w.heap.size]? = some (.cells #[.int .i64 0, .int .i64 l] 36 (0, 0)) := blk_below M0.out b1 (by first | omega | (simp <;> omega))
  have c1_0_0 : w1.cell? ⟨w.heap.size, 0, none⟩ = some (.int .i64 0) := blk_cell g1_0 0
  have f1_0_0 : w1.frozen? ⟨w.heap.size, 0, none⟩ = false := blk_frozen g1_0 0
  have c1_0_1 : w1.cell? ⟨w.heap.size, 1, none⟩ = some (.int .i64 l) := blk_cell g1_0 1
  have f1_0_1 : w1.frozen? ⟨w.heap.size, 1, none⟩ = false := blk_frozen g1_0 1
  have G1_0 := Lib.hid g1_0
  have g1_1 : w1.heap[(w.heap.size + 1)]? = some (.cells #[.int .i64 0, .int .i64 0] 36 (0, 0)) := blk_below M1.out b1 (by first | omega | (simp <;> omega))
  have c1_1_0 : w1.cell? ⟨(w.heap.size + 1), 0, none⟩ = some (.int .i64 0) := blk_cell g1_1 0
  have f1_1_0 : w1.frozen? ⟨(w.heap.size + 1), 0, none⟩ = false := blk_frozen g1_1 0
  have c1_1_1 : w1.cell? ⟨(w.heap.size + 1), 1, none⟩ = some (.int .i64 0) := blk_cell g1_1 1
  have f1_1_1 : w1.frozen? ⟨(w.heap.size + 1), 1, none⟩ = false := blk_frozen g1_1 1
  have G1_1 := Lib.hid g1_1
  clear g1_0 g1_1
  go_wp2
  exact ret_row_tmp rfl (w.heap.size + 1) 36 _ _ rfl (blk_eq (blk_set (blk_set G1_1.out _ _) _ _) rfl) Tryd.underlying36 rfl (by kernel_rfl) rfl ⟨rfl, by repeat (first | exact Below.refl _ _ | refine Below.alloc ?_ (by first | omega | (simp <;> omega)) _ | refine Below.setCell ?_ (by first | omega | (simp <;> omega)) _ | refine Below.trans ?_ (b1.mono (by first | omega | (simp <;> omega))))⟩
theorem rb_take_true (l : Int) (h : mayB 1 l = true) (w : World) : Calls Tryd.prog 13 #[rf 1 l, .bool true] w fun e w' => e = .returned (.tuple #[rf 2 l, .int .i64 1]) ∧ Below w.heap.size w w' := by
  have n0 := blk_new (w) #[.int .i64 1, .int .i64 l] 36
  have n1 := blk_new ((w).alloc (.cells #[.int .i64 1, .int .i64 l] 36)) #[.int .i64 0, .int .i64 0] 36
  have m0 : (((w).alloc (.cells #[.int .i64 1, .int .i64 l] 36)).alloc (.cells #[.int .i64 0, .int .i64 0] 36)).heap[w.heap.size]? = some (.cells #[.int .i64 1, .int .i64 l] 36 (0, 0)) := by have := (blk_alloc n0 (.cells #[.int .i64 0, .int .i64 0] 36)); simpa using this
  have m1 : (((w).alloc (.cells #[.int .i64 1, .int .i64 l] 36)).alloc (.cells #[.int .i64 0, .int .i64 0] 36)).heap[(w.heap.size + 1)]? = some (.cells #[.int .i64 0, .int .i64 0] 36 (0, 0)) := by have := n1; simpa using this
  have hs0 : (((w).alloc (.cells #[.int .i64 1, .int .i64 l] 36)).alloc (.cells #[.int .i64 0, .int .i64 0] 36)).heap.size = w.heap.size + 2 := by simp
  clear n0 n1
  have M0 := Lib.hid m0
  have M1 := Lib.hid m1
  clear m0 m1
  go_enter Tryd.func13, Tryd.ntmps13
  go_wp2_with fail
  refine (Calls.mono (h ▸ rmay 1 l _) ?_)
  rintro e w1 ⟨rfl, b1⟩
  have z1 : w.heap.size + 2 ≤ w1.heap.size := by have := b1.size; first | omega | (simp at this; omega)
  have g1_0 : w1.heap[w.heap.size]? = some (.cells #[.int .i64 1, .int .i64 l] 36 (0, 0)) := blk_below M0.out b1 (by first | omega | (simp <;> omega))
  have c1_0_0 : w1.cell? ⟨w.heap.size, 0, none⟩ = some (.int .i64 1) := blk_cell g1_0 0
  have f1_0_0 : w1.frozen? ⟨w.heap.size, 0, none⟩ = false := blk_frozen g1_0 0
  have c1_0_1 : w1.cell? ⟨w.heap.size, 1, none⟩ = some (.int .i64 l) := blk_cell g1_0 1
  have f1_0_1 : w1.frozen? ⟨w.heap.size, 1, none⟩ = false := blk_frozen g1_0 1
  have G1_0 := Lib.hid g1_0
  have g1_1 : w1.heap[(w.heap.size + 1)]? = some (.cells #[.int .i64 0, .int .i64 0] 36 (0, 0)) := blk_below M1.out b1 (by first | omega | (simp <;> omega))
  have c1_1_0 : w1.cell? ⟨(w.heap.size + 1), 0, none⟩ = some (.int .i64 0) := blk_cell g1_1 0
  have f1_1_0 : w1.frozen? ⟨(w.heap.size + 1), 0, none⟩ = false := blk_frozen g1_1 0
  have c1_1_1 : w1.cell? ⟨(w.heap.size + 1), 1, none⟩ = some (.int .i64 0) := blk_cell g1_1 1
  have f1_1_1 : w1.frozen? ⟨(w.heap.size + 1), 1, none⟩ = false := blk_frozen g1_1 1
  have G1_1 := Lib.hid g1_1
  clear g1_0 g1_1
  go_wp2
  exact ret_row_tmp rfl (w.heap.size + 1) 36 _ _ rfl (blk_eq (blk_set (blk_set G1_1.out _ _) _ _) rfl) Tryd.underlying36 rfl (by kernel_rfl) rfl ⟨rfl, by repeat (first | exact Below.refl _ _ | refine Below.alloc ?_ (by first | omega | (simp <;> omega)) _ | refine Below.setCell ?_ (by first | omega | (simp <;> omega)) _ | refine Below.trans ?_ (b1.mono (by first | omega | (simp <;> omega))))⟩
theorem rb_bad_false (k l : Int) (h : mayB k l = false) (w : World) : Calls Tryd.prog 13 #[rf k l, .bool false] w fun e w' => e = .returned (.tuple #[rf 0 0, .int .i64 0]) ∧ Below w.heap.size w w' := by
  have n0 := blk_new (w) #[.int .i64 k, .int .i64 l] 36
  have n1 := blk_new ((w).alloc (.cells #[.int .i64 k, .int .i64 l] 36)) #[.int .i64 0, .int .i64 0] 36
  have m0 : (((w).alloc (.cells #[.int .i64 k, .int .i64 l] 36)).alloc (.cells #[.int .i64 0, .int .i64 0] 36)).heap[w.heap.size]? = some (.cells #[.int .i64 k, .int .i64 l] 36 (0, 0)) := by have := (blk_alloc n0 (.cells #[.int .i64 0, .int .i64 0] 36)); simpa using this
  have m1 : (((w).alloc (.cells #[.int .i64 k, .int .i64 l] 36)).alloc (.cells #[.int .i64 0, .int .i64 0] 36)).heap[(w.heap.size + 1)]? = some (.cells #[.int .i64 0, .int .i64 0] 36 (0, 0)) := by have := n1; simpa using this
  have hs0 : (((w).alloc (.cells #[.int .i64 k, .int .i64 l] 36)).alloc (.cells #[.int .i64 0, .int .i64 0] 36)).heap.size = w.heap.size + 2 := by simp
  clear n0 n1
  have M0 := Lib.hid m0
  have M1 := Lib.hid m1
  clear m0 m1
  go_enter Tryd.func13, Tryd.ntmps13
  go_wp2_with fail
  refine (Calls.mono (h ▸ rmay k l _) ?_)
  rintro e w1 ⟨rfl, b1⟩
  have z1 : w.heap.size + 2 ≤ w1.heap.size := by have := b1.size; first | omega | (simp at this; omega)
  have g1_0 : w1.heap[w.heap.size]? = some (.cells #[.int .i64 k, .int .i64 l] 36 (0, 0)) := blk_below M0.out b1 (by first | omega | (simp <;> omega))
  have c1_0_0 : w1.cell? ⟨w.heap.size, 0, none⟩ = some (.int .i64 k) := blk_cell g1_0 0
  have f1_0_0 : w1.frozen? ⟨w.heap.size, 0, none⟩ = false := blk_frozen g1_0 0
  have c1_0_1 : w1.cell? ⟨w.heap.size, 1, none⟩ = some (.int .i64 l) := blk_cell g1_0 1
  have f1_0_1 : w1.frozen? ⟨w.heap.size, 1, none⟩ = false := blk_frozen g1_0 1
  have G1_0 := Lib.hid g1_0
  have g1_1 : w1.heap[(w.heap.size + 1)]? = some (.cells #[.int .i64 0, .int .i64 0] 36 (0, 0)) := blk_below M1.out b1 (by first | omega | (simp <;> omega))
  have c1_1_0 : w1.cell? ⟨(w.heap.size + 1), 0, none⟩ = some (.int .i64 0) := blk_cell g1_1 0
  have f1_1_0 : w1.frozen? ⟨(w.heap.size + 1), 0, none⟩ = false := blk_frozen g1_1 0
  have c1_1_1 : w1.cell? ⟨(w.heap.size + 1), 1, none⟩ = some (.int .i64 0) := blk_cell g1_1 1
  have f1_1_1 : w1.frozen? ⟨(w.heap.size + 1), 1, none⟩ = false := blk_frozen g1_1 1
  have G1_1 := Lib.hid g1_1
  clear g1_0 g1_1
  go_wp2
  exact ret_row_tmp rfl (w.heap.size + 1) 36 _ _ rfl (blk_eq (blk_set (blk_set G1_1.out _ _) _ _) rfl) Tryd.underlying36 rfl (by kernel_rfl) rfl ⟨rfl, by repeat (first | exact Below.refl _ _ | refine Below.alloc ?_ (by first | omega | (simp <;> omega)) _ | refine Below.setCell ?_ (by first | omega | (simp <;> omega)) _ | refine Below.trans ?_ (b1.mono (by first | omega | (simp <;> omega))))⟩
theorem rb_rest_false (l : Int) (h : mayB 0 l = true) (w : World) : Calls Tryd.prog 13 #[rf 0 l, .bool false] w fun e w' => e = .returned (.tuple #[rf 0 0, .int .i64 0]) ∧ Below w.heap.size w w' := by
  have n0 := blk_new (w) #[.int .i64 0, .int .i64 l] 36
  have n1 := blk_new ((w).alloc (.cells #[.int .i64 0, .int .i64 l] 36)) #[.int .i64 0, .int .i64 0] 36
  have m0 : (((w).alloc (.cells #[.int .i64 0, .int .i64 l] 36)).alloc (.cells #[.int .i64 0, .int .i64 0] 36)).heap[w.heap.size]? = some (.cells #[.int .i64 0, .int .i64 l] 36 (0, 0)) := by have := (blk_alloc n0 (.cells #[.int .i64 0, .int .i64 0] 36)); simpa using this
  have m1 : (((w).alloc (.cells #[.int .i64 0, .int .i64 l] 36)).alloc (.cells #[.int .i64 0, .int .i64 0] 36)).heap[(w.heap.size + 1)]? = some (.cells #[.int .i64 0, .int .i64 0] 36 (0, 0)) := by have := n1; simpa using this
  have hs0 : (((w).alloc (.cells #[.int .i64 0, .int .i64 l] 36)).alloc (.cells #[.int .i64 0, .int .i64 0] 36)).heap.size = w.heap.size + 2 := by simp
  clear n0 n1
  have M0 := Lib.hid m0
  have M1 := Lib.hid m1
  clear m0 m1
  go_enter Tryd.func13, Tryd.ntmps13
  go_wp2_with fail
  refine (Calls.mono (h ▸ rmay 0 l _) ?_)
  rintro e w1 ⟨rfl, b1⟩
  have z1 : w.heap.size + 2 ≤ w1.heap.size := by have := b1.size; first | omega | (simp at this; omega)
  have g1_0 : w1.heap[w.heap.size]? = some (.cells #[.int .i64 0, .int .i64 l] 36 (0, 0)) := blk_below M0.out b1 (by first | omega | (simp <;> omega))
  have c1_0_0 : w1.cell? ⟨w.heap.size, 0, none⟩ = some (.int .i64 0) := blk_cell g1_0 0
  have f1_0_0 : w1.frozen? ⟨w.heap.size, 0, none⟩ = false := blk_frozen g1_0 0
  have c1_0_1 : w1.cell? ⟨w.heap.size, 1, none⟩ = some (.int .i64 l) := blk_cell g1_0 1
  have f1_0_1 : w1.frozen? ⟨w.heap.size, 1, none⟩ = false := blk_frozen g1_0 1
  have G1_0 := Lib.hid g1_0
  have g1_1 : w1.heap[(w.heap.size + 1)]? = some (.cells #[.int .i64 0, .int .i64 0] 36 (0, 0)) := blk_below M1.out b1 (by first | omega | (simp <;> omega))
  have c1_1_0 : w1.cell? ⟨(w.heap.size + 1), 0, none⟩ = some (.int .i64 0) := blk_cell g1_1 0
  have f1_1_0 : w1.frozen? ⟨(w.heap.size + 1), 0, none⟩ = false := blk_frozen g1_1 0
  have c1_1_1 : w1.cell? ⟨(w.heap.size + 1), 1, none⟩ = some (.int .i64 0) := blk_cell g1_1 1
  have f1_1_1 : w1.frozen? ⟨(w.heap.size + 1), 1, none⟩ = false := blk_frozen g1_1 1
  have G1_1 := Lib.hid g1_1
  clear g1_0 g1_1
  go_wp2
  exact ret_row_tmp rfl (w.heap.size + 1) 36 _ _ rfl (blk_eq (blk_set (blk_set G1_1.out _ _) _ _) rfl) Tryd.underlying36 rfl (by kernel_rfl) rfl ⟨rfl, by repeat (first | exact Below.refl _ _ | refine Below.alloc ?_ (by first | omega | (simp <;> omega)) _ | refine Below.setCell ?_ (by first | omega | (simp <;> omega)) _ | refine Below.trans ?_ (b1.mono (by first | omega | (simp <;> omega))))⟩
theorem rb_take_false (l : Int) (h : mayB 1 l = true) (w : World) : Calls Tryd.prog 13 #[rf 1 l, .bool false] w fun e w' => e = .returned (.tuple #[rf 2 l, .int .i64 1]) ∧ Below w.heap.size w w' := by
  have n0 := blk_new (w) #[.int .i64 1, .int .i64 l] 36
  have n1 := blk_new ((w).alloc (.cells #[.int .i64 1, .int .i64 l] 36)) #[.int .i64 0, .int .i64 0] 36
  have m0 : (((w).alloc (.cells #[.int .i64 1, .int .i64 l] 36)).alloc (.cells #[.int .i64 0, .int .i64 0] 36)).heap[w.heap.size]? = some (.cells #[.int .i64 1, .int .i64 l] 36 (0, 0)) := by have := (blk_alloc n0 (.cells #[.int .i64 0, .int .i64 0] 36)); simpa using this
  have m1 : (((w).alloc (.cells #[.int .i64 1, .int .i64 l] 36)).alloc (.cells #[.int .i64 0, .int .i64 0] 36)).heap[(w.heap.size + 1)]? = some (.cells #[.int .i64 0, .int .i64 0] 36 (0, 0)) := by have := n1; simpa using this
  have hs0 : (((w).alloc (.cells #[.int .i64 1, .int .i64 l] 36)).alloc (.cells #[.int .i64 0, .int .i64 0] 36)).heap.size = w.heap.size + 2 := by simp
  clear n0 n1
  have M0 := Lib.hid m0
  have M1 := Lib.hid m1
  clear m0 m1
  go_enter Tryd.func13, Tryd.ntmps13
  go_wp2_with fail
  refine (Calls.mono (h ▸ rmay 1 l _) ?_)
  rintro e w1 ⟨rfl, b1⟩
  have z1 : w.heap.size + 2 ≤ w1.heap.size := by have := b1.size; first | omega | (simp at this; omega)
  have g1_0 : w1.heap[w.heap.size]? = some (.cells #[.int .i64 1, .int .i64 l] 36 (0, 0)) := blk_below M0.out b1 (by first | omega | (simp <;> omega))
  have c1_0_0 : w1.cell? ⟨w.heap.size, 0, none⟩ = some (.int .i64 1) := blk_cell g1_0 0
  have f1_0_0 : w1.frozen? ⟨w.heap.size, 0, none⟩ = false := blk_frozen g1_0 0
  have c1_0_1 : w1.cell? ⟨w.heap.size, 1, none⟩ = some (.int .i64 l) := blk_cell g1_0 1
  have f1_0_1 : w1.frozen? ⟨w.heap.size, 1, none⟩ = false := blk_frozen g1_0 1
  have G1_0 := Lib.hid g1_0
  have g1_1 : w1.heap[(w.heap.size + 1)]? = some (.cells #[.int .i64 0, .int .i64 0] 36 (0, 0)) := blk_below M1.out b1 (by first | omega | (simp <;> omega))
  have c1_1_0 : w1.cell? ⟨(w.heap.size + 1), 0, none⟩ = some (.int .i64 0) := blk_cell g1_1 0
  have f1_1_0 : w1.frozen? ⟨(w.heap.size + 1), 0, none⟩ = false := blk_frozen g1_1 0
  have c1_1_1 : w1.cell? ⟨(w.heap.size + 1), 1, none⟩ = some (.int .i64 0) := blk_cell g1_1 1
  have f1_1_1 : w1.frozen? ⟨(w.heap.size + 1), 1, none⟩ = false := blk_frozen g1_1 1
  have G1_1 := Lib.hid g1_1
  clear g1_0 g1_1
  go_wp2
  exact ret_row_tmp rfl (w.heap.size + 1) 36 _ _ rfl (blk_eq (blk_set (blk_set G1_1.out _ _) _ _) rfl) Tryd.underlying36 rfl (by kernel_rfl) rfl ⟨rfl, by repeat (first | exact Below.refl _ _ | refine Below.alloc ?_ (by first | omega | (simp <;> omega)) _ | refine Below.setCell ?_ (by first | omega | (simp <;> omega)) _ | refine Below.trans ?_ (b1.mono (by first | omega | (simp <;> omega))))⟩
theorem rb_try_bad (l : Int) (h : mayB 2 l = true) (w : World) : Calls Tryd.prog 13 #[rf 2 l, .bool false] w fun e w' => e = .returned (.tuple #[rf 0 0, .int .i64 4]) ∧ Below w.heap.size w w' := by
  have n0 := blk_new (w) #[.int .i64 2, .int .i64 l] 36
  have n1 := blk_new ((w).alloc (.cells #[.int .i64 2, .int .i64 l] 36)) #[.int .i64 0, .int .i64 0] 36
  have m0 : (((w).alloc (.cells #[.int .i64 2, .int .i64 l] 36)).alloc (.cells #[.int .i64 0, .int .i64 0] 36)).heap[w.heap.size]? = some (.cells #[.int .i64 2, .int .i64 l] 36 (0, 0)) := by have := (blk_alloc n0 (.cells #[.int .i64 0, .int .i64 0] 36)); simpa using this
  have m1 : (((w).alloc (.cells #[.int .i64 2, .int .i64 l] 36)).alloc (.cells #[.int .i64 0, .int .i64 0] 36)).heap[(w.heap.size + 1)]? = some (.cells #[.int .i64 0, .int .i64 0] 36 (0, 0)) := by have := n1; simpa using this
  have hs0 : (((w).alloc (.cells #[.int .i64 2, .int .i64 l] 36)).alloc (.cells #[.int .i64 0, .int .i64 0] 36)).heap.size = w.heap.size + 2 := by simp
  clear n0 n1
  have M0 := Lib.hid m0
  have M1 := Lib.hid m1
  clear m0 m1
  go_enter Tryd.func13, Tryd.ntmps13
  go_wp2_with fail
  refine (Calls.mono (h ▸ rmay 2 l _) ?_)
  rintro e w1 ⟨rfl, b1⟩
  have z1 : w.heap.size + 2 ≤ w1.heap.size := by have := b1.size; first | omega | (simp at this; omega)
  have g1_0 : w1.heap[w.heap.size]? = some (.cells #[.int .i64 2, .int .i64 l] 36 (0, 0)) := blk_below M0.out b1 (by first | omega | (simp <;> omega))
  have c1_0_0 : w1.cell? ⟨w.heap.size, 0, none⟩ = some (.int .i64 2) := blk_cell g1_0 0
  have f1_0_0 : w1.frozen? ⟨w.heap.size, 0, none⟩ = false := blk_frozen g1_0 0
  have c1_0_1 : w1.cell? ⟨w.heap.size, 1, none⟩ = some (.int .i64 l) := blk_cell g1_0 1
  have f1_0_1 : w1.frozen? ⟨w.heap.size, 1, none⟩ = false := blk_frozen g1_0 1
  have G1_0 := Lib.hid g1_0
  have g1_1 : w1.heap[(w.heap.size + 1)]? = some (.cells #[.int .i64 0, .int .i64 0] 36 (0, 0)) := blk_below M1.out b1 (by first | omega | (simp <;> omega))
  have c1_1_0 : w1.cell? ⟨(w.heap.size + 1), 0, none⟩ = some (.int .i64 0) := blk_cell g1_1 0
  have f1_1_0 : w1.frozen? ⟨(w.heap.size + 1), 0, none⟩ = false := blk_frozen g1_1 0
  have c1_1_1 : w1.cell? ⟨(w.heap.size + 1), 1, none⟩ = some (.int .i64 0) := blk_cell g1_1 1
  have f1_1_1 : w1.frozen? ⟨(w.heap.size + 1), 1, none⟩ = false := blk_frozen g1_1 1
  have G1_1 := Lib.hid g1_1
  clear g1_0 g1_1
  go_wp2
  exact ret_row_tmp rfl (w.heap.size + 1) 36 _ _ rfl (blk_eq (blk_set (blk_set G1_1.out _ _) _ _) rfl) Tryd.underlying36 rfl (by kernel_rfl) rfl ⟨rfl, by repeat (first | exact Below.refl _ _ | refine Below.alloc ?_ (by first | omega | (simp <;> omega)) _ | refine Below.setCell ?_ (by first | omega | (simp <;> omega)) _ | refine Below.trans ?_ (b1.mono (by first | omega | (simp <;> omega))))⟩
theorem rb_try_last (h : mayB 2 1 = true) (w : World) : Calls Tryd.prog 13 #[rf 2 1, .bool true] w fun e w' => e = .returned (.tuple #[rf 0 0, .int .i64 3]) ∧ Below w.heap.size w w' := by
  have n0 := blk_new (w) #[.int .i64 2, .int .i64 1] 36
  have n1 := blk_new ((w).alloc (.cells #[.int .i64 2, .int .i64 1] 36)) #[.int .i64 0, .int .i64 0] 36
  have m0 : (((w).alloc (.cells #[.int .i64 2, .int .i64 1] 36)).alloc (.cells #[.int .i64 0, .int .i64 0] 36)).heap[w.heap.size]? = some (.cells #[.int .i64 2, .int .i64 1] 36 (0, 0)) := by have := (blk_alloc n0 (.cells #[.int .i64 0, .int .i64 0] 36)); simpa using this
  have m1 : (((w).alloc (.cells #[.int .i64 2, .int .i64 1] 36)).alloc (.cells #[.int .i64 0, .int .i64 0] 36)).heap[(w.heap.size + 1)]? = some (.cells #[.int .i64 0, .int .i64 0] 36 (0, 0)) := by have := n1; simpa using this
  have hs0 : (((w).alloc (.cells #[.int .i64 2, .int .i64 1] 36)).alloc (.cells #[.int .i64 0, .int .i64 0] 36)).heap.size = w.heap.size + 2 := by simp
  clear n0 n1
  have M0 := Lib.hid m0
  have M1 := Lib.hid m1
  clear m0 m1
  go_enter Tryd.func13, Tryd.ntmps13
  go_wp2_with fail
  refine (Calls.mono (h ▸ rmay 2 1 _) ?_)
  rintro e w1 ⟨rfl, b1⟩
  have z1 : w.heap.size + 2 ≤ w1.heap.size := by have := b1.size; first | omega | (simp at this; omega)
  have g1_0 : w1.heap[w.heap.size]? = some (.cells #[.int .i64 2, .int .i64 1] 36 (0, 0)) := blk_below M0.out b1 (by first | omega | (simp <;> omega))
  have c1_0_0 : w1.cell? ⟨w.heap.size, 0, none⟩ = some (.int .i64 2) := blk_cell g1_0 0
  have f1_0_0 : w1.frozen? ⟨w.heap.size, 0, none⟩ = false := blk_frozen g1_0 0
  have c1_0_1 : w1.cell? ⟨w.heap.size, 1, none⟩ = some (.int .i64 1) := blk_cell g1_0 1
  have f1_0_1 : w1.frozen? ⟨w.heap.size, 1, none⟩ = false := blk_frozen g1_0 1
  have G1_0 := Lib.hid g1_0
  have g1_1 : w1.heap[(w.heap.size + 1)]? = some (.cells #[.int .i64 0, .int .i64 0] 36 (0, 0)) := blk_below M1.out b1 (by first | omega | (simp <;> omega))
  have c1_1_0 : w1.cell? ⟨(w.heap.size + 1), 0, none⟩ = some (.int .i64 0) := blk_cell g1_1 0
  have f1_1_0 : w1.frozen? ⟨(w.heap.size + 1), 0, none⟩ = false := blk_frozen g1_1 0
  have c1_1_1 : w1.cell? ⟨(w.heap.size + 1), 1, none⟩ = some (.int .i64 0) := blk_cell g1_1 1
  have f1_1_1 : w1.frozen? ⟨(w.heap.size + 1), 1, none⟩ = false := blk_frozen g1_1 1
  have G1_1 := Lib.hid g1_1
  clear g1_0 g1_1
  go_wp2
  exact ret_row_tmp rfl (w.heap.size + 1) 36 _ _ rfl (blk_eq (blk_set (blk_set G1_1.out _ _) _ _) rfl) Tryd.underlying36 rfl (by kernel_rfl) rfl ⟨rfl, by repeat (first | exact Below.refl _ _ | refine Below.alloc ?_ (by first | omega | (simp <;> omega)) _ | refine Below.setCell ?_ (by first | omega | (simp <;> omega)) _ | refine Below.trans ?_ (b1.mono (by first | omega | (simp <;> omega))))⟩
theorem rb_try_on (l : Int) (hl : (l == 1) = false) (hw : IntKind.i64.wrap (l - 1) = l - 1) (h : mayB 2 l = true) (w : World) : Calls Tryd.prog 13 #[rf 2 l, .bool true] w fun e w' => e = .returned (.tuple #[rf 2 (l - 1), .int .i64 2]) ∧ Below w.heap.size w w' := by
  have n0 := blk_new (w) #[.int .i64 2, .int .i64 l] 36
  have n1 := blk_new ((w).alloc (.cells #[.int .i64 2, .int .i64 l] 36)) #[.int .i64 0, .int .i64 0] 36
  have m0 : (((w).alloc (.cells #[.int .i64 2, .int .i64 l] 36)).alloc (.cells #[.int .i64 0, .int .i64 0] 36)).heap[w.heap.size]? = some (.cells #[.int .i64 2, .int .i64 l] 36 (0, 0)) := by have := (blk_alloc n0 (.cells #[.int .i64 0, .int .i64 0] 36)); simpa using this
  have m1 : (((w).alloc (.cells #[.int .i64 2, .int .i64 l] 36)).alloc (.cells #[.int .i64 0, .int .i64 0] 36)).heap[(w.heap.size + 1)]? = some (.cells #[.int .i64 0, .int .i64 0] 36 (0, 0)) := by have := n1; simpa using this
  have hs0 : (((w).alloc (.cells #[.int .i64 2, .int .i64 l] 36)).alloc (.cells #[.int .i64 0, .int .i64 0] 36)).heap.size = w.heap.size + 2 := by simp
  clear n0 n1
  have M0 := Lib.hid m0
  have M1 := Lib.hid m1
  clear m0 m1
  go_enter Tryd.func13, Tryd.ntmps13
  go_wp2_with fail
  refine (Calls.mono (h ▸ rmay 2 l _) ?_)
  rintro e w1 ⟨rfl, b1⟩
  have z1 : w.heap.size + 2 ≤ w1.heap.size := by have := b1.size; first | omega | (simp at this; omega)
  have g1_0 : w1.heap[w.heap.size]? = some (.cells #[.int .i64 2, .int .i64 l] 36 (0, 0)) := blk_below M0.out b1 (by first | omega | (simp <;> omega))
  have c1_0_0 : w1.cell? ⟨w.heap.size, 0, none⟩ = some (.int .i64 2) := blk_cell g1_0 0
  have f1_0_0 : w1.frozen? ⟨w.heap.size, 0, none⟩ = false := blk_frozen g1_0 0
  have c1_0_1 : w1.cell? ⟨w.heap.size, 1, none⟩ = some (.int .i64 l) := blk_cell g1_0 1
  have f1_0_1 : w1.frozen? ⟨w.heap.size, 1, none⟩ = false := blk_frozen g1_0 1
  have G1_0 := Lib.hid g1_0
  have g1_1 : w1.heap[(w.heap.size + 1)]? = some (.cells #[.int .i64 0, .int .i64 0] 36 (0, 0)) := blk_below M1.out b1 (by first | omega | (simp <;> omega))
  have c1_1_0 : w1.cell? ⟨(w.heap.size + 1), 0, none⟩ = some (.int .i64 0) := blk_cell g1_1 0
  have f1_1_0 : w1.frozen? ⟨(w.heap.size + 1), 0, none⟩ = false := blk_frozen g1_1 0
  have c1_1_1 : w1.cell? ⟨(w.heap.size + 1), 1, none⟩ = some (.int .i64 0) := blk_cell g1_1 1
  have f1_1_1 : w1.frozen? ⟨(w.heap.size + 1), 1, none⟩ = false := blk_frozen g1_1 1
  have G1_1 := Lib.hid g1_1
  clear g1_0 g1_1
  go_wp2
  exact ret_row_tmp rfl (w.heap.size + 1) 36 _ _ rfl (blk_eq (blk_set (blk_set G1_1.out _ _) _ _) rfl) Tryd.underlying36 rfl (by kernel_rfl) rfl ⟨rfl, by repeat (first | exact Below.refl _ _ | refine Below.alloc ?_ (by first | omega | (simp <;> omega)) _ | refine Below.setCell ?_ (by first | omega | (simp <;> omega)) _ | refine Below.trans ?_ (b1.mono (by first | omega | (simp <;> omega))))⟩
theorem rt_bad (k l : Int) (h : mayB k l = false) (w : World) : Calls Tryd.prog 17 #[rf k l] w fun e w' => e = .returned (.string ⟨#[63]⟩) ∧ Below w.heap.size w w' := by
  have n0 := blk_new (w) #[.int .i64 k, .int .i64 l] 36
  have m0 : ((w).alloc (.cells #[.int .i64 k, .int .i64 l] 36)).heap[w.heap.size]? = some (.cells #[.int .i64 k, .int .i64 l] 36 (0, 0)) := by have := n0; simpa using this
  have hs0 : ((w).alloc (.cells #[.int .i64 k, .int .i64 l] 36)).heap.size = w.heap.size + 1 := by simp
  clear n0
  have M0 := Lib.hid m0
  clear m0
  go_enter Tryd.func17, Tryd.ntmps17
  go_wp2_with fail
  refine (Calls.mono (h ▸ rmay k l _) ?_)
  rintro e w1 ⟨rfl, b1⟩
  have z1 : w.heap.size + 1 ≤ w1.heap.size := by have := b1.size; first | omega | (simp at this; omega)
  have g1_0 : w1.heap[w.heap.size]? = some (.cells #[.int .i64 k, .int .i64 l] 36 (0, 0)) := blk_below M0.out b1 (by first | omega | (simp <;> omega))
  have c1_0_0 : w1.cell? ⟨w.heap.size, 0, none⟩ = some (.int .i64 k) := blk_cell g1_0 0
  have f1_0_0 : w1.frozen? ⟨w.heap.size, 0, none⟩ = false := blk_frozen g1_0 0
  have c1_0_1 : w1.cell? ⟨w.heap.size, 1, none⟩ = some (.int .i64 l) := blk_cell g1_0 1
  have f1_0_1 : w1.frozen? ⟨w.heap.size, 1, none⟩ = false := blk_frozen g1_0 1
  have G1_0 := Lib.hid g1_0
  clear g1_0
  go_wp2
  go_ret
  exact ⟨rfl, by repeat (first | exact Below.refl _ _ | refine Below.alloc ?_ (by first | omega | (simp <;> omega)) _ | refine Below.setCell ?_ (by first | omega | (simp <;> omega)) _ | refine Below.trans ?_ (b1.mono (by first | omega | (simp <;> omega))))⟩
theorem rt_rest (l : Int) (h : mayB 0 l = true) (w : World) : Calls Tryd.prog 17 #[rf 0 l] w fun e w' => e = .returned (.string ⟨#[114, 101, 115, 116, 115]⟩) ∧ Below w.heap.size w w' := by
  have n0 := blk_new (w) #[.int .i64 0, .int .i64 l] 36
  have m0 : ((w).alloc (.cells #[.int .i64 0, .int .i64 l] 36)).heap[w.heap.size]? = some (.cells #[.int .i64 0, .int .i64 l] 36 (0, 0)) := by have := n0; simpa using this
  have hs0 : ((w).alloc (.cells #[.int .i64 0, .int .i64 l] 36)).heap.size = w.heap.size + 1 := by simp
  clear n0
  have M0 := Lib.hid m0
  clear m0
  go_enter Tryd.func17, Tryd.ntmps17
  go_wp2_with fail
  refine (Calls.mono (h ▸ rmay 0 l _) ?_)
  rintro e w1 ⟨rfl, b1⟩
  have z1 : w.heap.size + 1 ≤ w1.heap.size := by have := b1.size; first | omega | (simp at this; omega)
  have g1_0 : w1.heap[w.heap.size]? = some (.cells #[.int .i64 0, .int .i64 l] 36 (0, 0)) := blk_below M0.out b1 (by first | omega | (simp <;> omega))
  have c1_0_0 : w1.cell? ⟨w.heap.size, 0, none⟩ = some (.int .i64 0) := blk_cell g1_0 0
  have f1_0_0 : w1.frozen? ⟨w.heap.size, 0, none⟩ = false := blk_frozen g1_0 0
  have c1_0_1 : w1.cell? ⟨w.heap.size, 1, none⟩ = some (.int .i64 l) := blk_cell g1_0 1
  have f1_0_1 : w1.frozen? ⟨w.heap.size, 1, none⟩ = false := blk_frozen g1_0 1
  have G1_0 := Lib.hid g1_0
  clear g1_0
  go_wp2
  go_ret
  exact ⟨rfl, by repeat (first | exact Below.refl _ _ | refine Below.alloc ?_ (by first | omega | (simp <;> omega)) _ | refine Below.setCell ?_ (by first | omega | (simp <;> omega)) _ | refine Below.trans ?_ (b1.mono (by first | omega | (simp <;> omega))))⟩
theorem rt_waits1 (h : mayB 1 1 = true) (w : World) : Calls Tryd.prog 17 #[rf 1 1] w fun e w' => e = .returned (.string (⟨#[119, 97, 105, 116, 115, 32]⟩ ++ dig 1)) ∧ Below w.heap.size w w' := by
  have n0 := blk_new (w) #[.int .i64 1, .int .i64 1] 36
  have m0 : ((w).alloc (.cells #[.int .i64 1, .int .i64 1] 36)).heap[w.heap.size]? = some (.cells #[.int .i64 1, .int .i64 1] 36 (0, 0)) := by have := n0; simpa using this
  have hs0 : ((w).alloc (.cells #[.int .i64 1, .int .i64 1] 36)).heap.size = w.heap.size + 1 := by simp
  clear n0
  have M0 := Lib.hid m0
  clear m0
  go_enter Tryd.func17, Tryd.ntmps17
  go_wp2_with fail
  refine (Calls.mono (h ▸ rmay 1 1 _) ?_)
  rintro e w1 ⟨rfl, b1⟩
  have z1 : w.heap.size + 1 ≤ w1.heap.size := by have := b1.size; first | omega | (simp at this; omega)
  have g1_0 : w1.heap[w.heap.size]? = some (.cells #[.int .i64 1, .int .i64 1] 36 (0, 0)) := blk_below M0.out b1 (by first | omega | (simp <;> omega))
  have c1_0_0 : w1.cell? ⟨w.heap.size, 0, none⟩ = some (.int .i64 1) := blk_cell g1_0 0
  have f1_0_0 : w1.frozen? ⟨w.heap.size, 0, none⟩ = false := blk_frozen g1_0 0
  have c1_0_1 : w1.cell? ⟨w.heap.size, 1, none⟩ = some (.int .i64 1) := blk_cell g1_0 1
  have f1_0_1 : w1.frozen? ⟨w.heap.size, 1, none⟩ = false := blk_frozen g1_0 1
  have G1_0 := Lib.hid g1_0
  clear g1_0
  go_wp2
  go_ret
  exact ⟨rfl, by repeat (first | exact Below.refl _ _ | refine Below.alloc ?_ (by first | omega | (simp <;> omega)) _ | refine Below.setCell ?_ (by first | omega | (simp <;> omega)) _ | refine Below.trans ?_ (b1.mono (by first | omega | (simp <;> omega))))⟩
theorem rt_waits2 (h : mayB 1 2 = true) (w : World) : Calls Tryd.prog 17 #[rf 1 2] w fun e w' => e = .returned (.string (⟨#[119, 97, 105, 116, 115, 32]⟩ ++ dig 2)) ∧ Below w.heap.size w w' := by
  have n0 := blk_new (w) #[.int .i64 1, .int .i64 2] 36
  have m0 : ((w).alloc (.cells #[.int .i64 1, .int .i64 2] 36)).heap[w.heap.size]? = some (.cells #[.int .i64 1, .int .i64 2] 36 (0, 0)) := by have := n0; simpa using this
  have hs0 : ((w).alloc (.cells #[.int .i64 1, .int .i64 2] 36)).heap.size = w.heap.size + 1 := by simp
  clear n0
  have M0 := Lib.hid m0
  clear m0
  go_enter Tryd.func17, Tryd.ntmps17
  go_wp2_with fail
  refine (Calls.mono (h ▸ rmay 1 2 _) ?_)
  rintro e w1 ⟨rfl, b1⟩
  have z1 : w.heap.size + 1 ≤ w1.heap.size := by have := b1.size; first | omega | (simp at this; omega)
  have g1_0 : w1.heap[w.heap.size]? = some (.cells #[.int .i64 1, .int .i64 2] 36 (0, 0)) := blk_below M0.out b1 (by first | omega | (simp <;> omega))
  have c1_0_0 : w1.cell? ⟨w.heap.size, 0, none⟩ = some (.int .i64 1) := blk_cell g1_0 0
  have f1_0_0 : w1.frozen? ⟨w.heap.size, 0, none⟩ = false := blk_frozen g1_0 0
  have c1_0_1 : w1.cell? ⟨w.heap.size, 1, none⟩ = some (.int .i64 2) := blk_cell g1_0 1
  have f1_0_1 : w1.frozen? ⟨w.heap.size, 1, none⟩ = false := blk_frozen g1_0 1
  have G1_0 := Lib.hid g1_0
  clear g1_0
  go_wp2
  go_ret
  exact ⟨rfl, by repeat (first | exact Below.refl _ _ | refine Below.alloc ?_ (by first | omega | (simp <;> omega)) _ | refine Below.setCell ?_ (by first | omega | (simp <;> omega)) _ | refine Below.trans ?_ (b1.mono (by first | omega | (simp <;> omega))))⟩
theorem rt_waits3 (h : mayB 1 3 = true) (w : World) : Calls Tryd.prog 17 #[rf 1 3] w fun e w' => e = .returned (.string (⟨#[119, 97, 105, 116, 115, 32]⟩ ++ dig 3)) ∧ Below w.heap.size w w' := by
  have n0 := blk_new (w) #[.int .i64 1, .int .i64 3] 36
  have m0 : ((w).alloc (.cells #[.int .i64 1, .int .i64 3] 36)).heap[w.heap.size]? = some (.cells #[.int .i64 1, .int .i64 3] 36 (0, 0)) := by have := n0; simpa using this
  have hs0 : ((w).alloc (.cells #[.int .i64 1, .int .i64 3] 36)).heap.size = w.heap.size + 1 := by simp
  clear n0
  have M0 := Lib.hid m0
  clear m0
  go_enter Tryd.func17, Tryd.ntmps17
  go_wp2_with fail
  refine (Calls.mono (h ▸ rmay 1 3 _) ?_)
  rintro e w1 ⟨rfl, b1⟩
  have z1 : w.heap.size + 1 ≤ w1.heap.size := by have := b1.size; first | omega | (simp at this; omega)
  have g1_0 : w1.heap[w.heap.size]? = some (.cells #[.int .i64 1, .int .i64 3] 36 (0, 0)) := blk_below M0.out b1 (by first | omega | (simp <;> omega))
  have c1_0_0 : w1.cell? ⟨w.heap.size, 0, none⟩ = some (.int .i64 1) := blk_cell g1_0 0
  have f1_0_0 : w1.frozen? ⟨w.heap.size, 0, none⟩ = false := blk_frozen g1_0 0
  have c1_0_1 : w1.cell? ⟨w.heap.size, 1, none⟩ = some (.int .i64 3) := blk_cell g1_0 1
  have f1_0_1 : w1.frozen? ⟨w.heap.size, 1, none⟩ = false := blk_frozen g1_0 1
  have G1_0 := Lib.hid g1_0
  clear g1_0
  go_wp2
  go_ret
  exact ⟨rfl, by repeat (first | exact Below.refl _ _ | refine Below.alloc ?_ (by first | omega | (simp <;> omega)) _ | refine Below.setCell ?_ (by first | omega | (simp <;> omega)) _ | refine Below.trans ?_ (b1.mono (by first | omega | (simp <;> omega))))⟩
theorem rt_waits4 (h : mayB 1 4 = true) (w : World) : Calls Tryd.prog 17 #[rf 1 4] w fun e w' => e = .returned (.string (⟨#[119, 97, 105, 116, 115, 32]⟩ ++ dig 4)) ∧ Below w.heap.size w w' := by
  have n0 := blk_new (w) #[.int .i64 1, .int .i64 4] 36
  have m0 : ((w).alloc (.cells #[.int .i64 1, .int .i64 4] 36)).heap[w.heap.size]? = some (.cells #[.int .i64 1, .int .i64 4] 36 (0, 0)) := by have := n0; simpa using this
  have hs0 : ((w).alloc (.cells #[.int .i64 1, .int .i64 4] 36)).heap.size = w.heap.size + 1 := by simp
  clear n0
  have M0 := Lib.hid m0
  clear m0
  go_enter Tryd.func17, Tryd.ntmps17
  go_wp2_with fail
  refine (Calls.mono (h ▸ rmay 1 4 _) ?_)
  rintro e w1 ⟨rfl, b1⟩
  have z1 : w.heap.size + 1 ≤ w1.heap.size := by have := b1.size; first | omega | (simp at this; omega)
  have g1_0 : w1.heap[w.heap.size]? = some (.cells #[.int .i64 1, .int .i64 4] 36 (0, 0)) := blk_below M0.out b1 (by first | omega | (simp <;> omega))
  have c1_0_0 : w1.cell? ⟨w.heap.size, 0, none⟩ = some (.int .i64 1) := blk_cell g1_0 0
  have f1_0_0 : w1.frozen? ⟨w.heap.size, 0, none⟩ = false := blk_frozen g1_0 0
  have c1_0_1 : w1.cell? ⟨w.heap.size, 1, none⟩ = some (.int .i64 4) := blk_cell g1_0 1
  have f1_0_1 : w1.frozen? ⟨w.heap.size, 1, none⟩ = false := blk_frozen g1_0 1
  have G1_0 := Lib.hid g1_0
  clear g1_0
  go_wp2
  go_ret
  exact ⟨rfl, by repeat (first | exact Below.refl _ _ | refine Below.alloc ?_ (by first | omega | (simp <;> omega)) _ | refine Below.setCell ?_ (by first | omega | (simp <;> omega)) _ | refine Below.trans ?_ (b1.mono (by first | omega | (simp <;> omega))))⟩
theorem rt_waits5 (h : mayB 1 5 = true) (w : World) : Calls Tryd.prog 17 #[rf 1 5] w fun e w' => e = .returned (.string (⟨#[119, 97, 105, 116, 115, 32]⟩ ++ dig 5)) ∧ Below w.heap.size w w' := by
  have n0 := blk_new (w) #[.int .i64 1, .int .i64 5] 36
  have m0 : ((w).alloc (.cells #[.int .i64 1, .int .i64 5] 36)).heap[w.heap.size]? = some (.cells #[.int .i64 1, .int .i64 5] 36 (0, 0)) := by have := n0; simpa using this
  have hs0 : ((w).alloc (.cells #[.int .i64 1, .int .i64 5] 36)).heap.size = w.heap.size + 1 := by simp
  clear n0
  have M0 := Lib.hid m0
  clear m0
  go_enter Tryd.func17, Tryd.ntmps17
  go_wp2_with fail
  refine (Calls.mono (h ▸ rmay 1 5 _) ?_)
  rintro e w1 ⟨rfl, b1⟩
  have z1 : w.heap.size + 1 ≤ w1.heap.size := by have := b1.size; first | omega | (simp at this; omega)
  have g1_0 : w1.heap[w.heap.size]? = some (.cells #[.int .i64 1, .int .i64 5] 36 (0, 0)) := blk_below M0.out b1 (by first | omega | (simp <;> omega))
  have c1_0_0 : w1.cell? ⟨w.heap.size, 0, none⟩ = some (.int .i64 1) := blk_cell g1_0 0
  have f1_0_0 : w1.frozen? ⟨w.heap.size, 0, none⟩ = false := blk_frozen g1_0 0
  have c1_0_1 : w1.cell? ⟨w.heap.size, 1, none⟩ = some (.int .i64 5) := blk_cell g1_0 1
  have f1_0_1 : w1.frozen? ⟨w.heap.size, 1, none⟩ = false := blk_frozen g1_0 1
  have G1_0 := Lib.hid g1_0
  clear g1_0
  go_wp2
  go_ret
  exact ⟨rfl, by repeat (first | exact Below.refl _ _ | refine Below.alloc ?_ (by first | omega | (simp <;> omega)) _ | refine Below.setCell ?_ (by first | omega | (simp <;> omega)) _ | refine Below.trans ?_ (b1.mono (by first | omega | (simp <;> omega))))⟩
theorem rt_waits6 (h : mayB 1 6 = true) (w : World) : Calls Tryd.prog 17 #[rf 1 6] w fun e w' => e = .returned (.string (⟨#[119, 97, 105, 116, 115, 32]⟩ ++ dig 6)) ∧ Below w.heap.size w w' := by
  have n0 := blk_new (w) #[.int .i64 1, .int .i64 6] 36
  have m0 : ((w).alloc (.cells #[.int .i64 1, .int .i64 6] 36)).heap[w.heap.size]? = some (.cells #[.int .i64 1, .int .i64 6] 36 (0, 0)) := by have := n0; simpa using this
  have hs0 : ((w).alloc (.cells #[.int .i64 1, .int .i64 6] 36)).heap.size = w.heap.size + 1 := by simp
  clear n0
  have M0 := Lib.hid m0
  clear m0
  go_enter Tryd.func17, Tryd.ntmps17
  go_wp2_with fail
  refine (Calls.mono (h ▸ rmay 1 6 _) ?_)
  rintro e w1 ⟨rfl, b1⟩
  have z1 : w.heap.size + 1 ≤ w1.heap.size := by have := b1.size; first | omega | (simp at this; omega)
  have g1_0 : w1.heap[w.heap.size]? = some (.cells #[.int .i64 1, .int .i64 6] 36 (0, 0)) := blk_below M0.out b1 (by first | omega | (simp <;> omega))
  have c1_0_0 : w1.cell? ⟨w.heap.size, 0, none⟩ = some (.int .i64 1) := blk_cell g1_0 0
  have f1_0_0 : w1.frozen? ⟨w.heap.size, 0, none⟩ = false := blk_frozen g1_0 0
  have c1_0_1 : w1.cell? ⟨w.heap.size, 1, none⟩ = some (.int .i64 6) := blk_cell g1_0 1
  have f1_0_1 : w1.frozen? ⟨w.heap.size, 1, none⟩ = false := blk_frozen g1_0 1
  have G1_0 := Lib.hid g1_0
  clear g1_0
  go_wp2
  go_ret
  exact ⟨rfl, by repeat (first | exact Below.refl _ _ | refine Below.alloc ?_ (by first | omega | (simp <;> omega)) _ | refine Below.setCell ?_ (by first | omega | (simp <;> omega)) _ | refine Below.trans ?_ (b1.mono (by first | omega | (simp <;> omega))))⟩
theorem rt_waits7 (h : mayB 1 7 = true) (w : World) : Calls Tryd.prog 17 #[rf 1 7] w fun e w' => e = .returned (.string (⟨#[119, 97, 105, 116, 115, 32]⟩ ++ dig 7)) ∧ Below w.heap.size w w' := by
  have n0 := blk_new (w) #[.int .i64 1, .int .i64 7] 36
  have m0 : ((w).alloc (.cells #[.int .i64 1, .int .i64 7] 36)).heap[w.heap.size]? = some (.cells #[.int .i64 1, .int .i64 7] 36 (0, 0)) := by have := n0; simpa using this
  have hs0 : ((w).alloc (.cells #[.int .i64 1, .int .i64 7] 36)).heap.size = w.heap.size + 1 := by simp
  clear n0
  have M0 := Lib.hid m0
  clear m0
  go_enter Tryd.func17, Tryd.ntmps17
  go_wp2_with fail
  refine (Calls.mono (h ▸ rmay 1 7 _) ?_)
  rintro e w1 ⟨rfl, b1⟩
  have z1 : w.heap.size + 1 ≤ w1.heap.size := by have := b1.size; first | omega | (simp at this; omega)
  have g1_0 : w1.heap[w.heap.size]? = some (.cells #[.int .i64 1, .int .i64 7] 36 (0, 0)) := blk_below M0.out b1 (by first | omega | (simp <;> omega))
  have c1_0_0 : w1.cell? ⟨w.heap.size, 0, none⟩ = some (.int .i64 1) := blk_cell g1_0 0
  have f1_0_0 : w1.frozen? ⟨w.heap.size, 0, none⟩ = false := blk_frozen g1_0 0
  have c1_0_1 : w1.cell? ⟨w.heap.size, 1, none⟩ = some (.int .i64 7) := blk_cell g1_0 1
  have f1_0_1 : w1.frozen? ⟨w.heap.size, 1, none⟩ = false := blk_frozen g1_0 1
  have G1_0 := Lib.hid g1_0
  clear g1_0
  go_wp2
  go_ret
  exact ⟨rfl, by repeat (first | exact Below.refl _ _ | refine Below.alloc ?_ (by first | omega | (simp <;> omega)) _ | refine Below.setCell ?_ (by first | omega | (simp <;> omega)) _ | refine Below.trans ?_ (b1.mono (by first | omega | (simp <;> omega))))⟩
theorem rt_waits8 (h : mayB 1 8 = true) (w : World) : Calls Tryd.prog 17 #[rf 1 8] w fun e w' => e = .returned (.string (⟨#[119, 97, 105, 116, 115, 32]⟩ ++ dig 8)) ∧ Below w.heap.size w w' := by
  have n0 := blk_new (w) #[.int .i64 1, .int .i64 8] 36
  have m0 : ((w).alloc (.cells #[.int .i64 1, .int .i64 8] 36)).heap[w.heap.size]? = some (.cells #[.int .i64 1, .int .i64 8] 36 (0, 0)) := by have := n0; simpa using this
  have hs0 : ((w).alloc (.cells #[.int .i64 1, .int .i64 8] 36)).heap.size = w.heap.size + 1 := by simp
  clear n0
  have M0 := Lib.hid m0
  clear m0
  go_enter Tryd.func17, Tryd.ntmps17
  go_wp2_with fail
  refine (Calls.mono (h ▸ rmay 1 8 _) ?_)
  rintro e w1 ⟨rfl, b1⟩
  have z1 : w.heap.size + 1 ≤ w1.heap.size := by have := b1.size; first | omega | (simp at this; omega)
  have g1_0 : w1.heap[w.heap.size]? = some (.cells #[.int .i64 1, .int .i64 8] 36 (0, 0)) := blk_below M0.out b1 (by first | omega | (simp <;> omega))
  have c1_0_0 : w1.cell? ⟨w.heap.size, 0, none⟩ = some (.int .i64 1) := blk_cell g1_0 0
  have f1_0_0 : w1.frozen? ⟨w.heap.size, 0, none⟩ = false := blk_frozen g1_0 0
  have c1_0_1 : w1.cell? ⟨w.heap.size, 1, none⟩ = some (.int .i64 8) := blk_cell g1_0 1
  have f1_0_1 : w1.frozen? ⟨w.heap.size, 1, none⟩ = false := blk_frozen g1_0 1
  have G1_0 := Lib.hid g1_0
  clear g1_0
  go_wp2
  go_ret
  exact ⟨rfl, by repeat (first | exact Below.refl _ _ | refine Below.alloc ?_ (by first | omega | (simp <;> omega)) _ | refine Below.setCell ?_ (by first | omega | (simp <;> omega)) _ | refine Below.trans ?_ (b1.mono (by first | omega | (simp <;> omega))))⟩
theorem rt_trial1 (h : mayB 2 1 = true) (w : World) : Calls Tryd.prog 17 #[rf 2 1] w fun e w' => e = .returned (.string (⟨#[116, 114, 105, 97, 108, 32]⟩ ++ dig 1)) ∧ Below w.heap.size w w' := by
  have n0 := blk_new (w) #[.int .i64 2, .int .i64 1] 36
  have m0 : ((w).alloc (.cells #[.int .i64 2, .int .i64 1] 36)).heap[w.heap.size]? = some (.cells #[.int .i64 2, .int .i64 1] 36 (0, 0)) := by have := n0; simpa using this
  have hs0 : ((w).alloc (.cells #[.int .i64 2, .int .i64 1] 36)).heap.size = w.heap.size + 1 := by simp
  clear n0
  have M0 := Lib.hid m0
  clear m0
  go_enter Tryd.func17, Tryd.ntmps17
  go_wp2_with fail
  refine (Calls.mono (h ▸ rmay 2 1 _) ?_)
  rintro e w1 ⟨rfl, b1⟩
  have z1 : w.heap.size + 1 ≤ w1.heap.size := by have := b1.size; first | omega | (simp at this; omega)
  have g1_0 : w1.heap[w.heap.size]? = some (.cells #[.int .i64 2, .int .i64 1] 36 (0, 0)) := blk_below M0.out b1 (by first | omega | (simp <;> omega))
  have c1_0_0 : w1.cell? ⟨w.heap.size, 0, none⟩ = some (.int .i64 2) := blk_cell g1_0 0
  have f1_0_0 : w1.frozen? ⟨w.heap.size, 0, none⟩ = false := blk_frozen g1_0 0
  have c1_0_1 : w1.cell? ⟨w.heap.size, 1, none⟩ = some (.int .i64 1) := blk_cell g1_0 1
  have f1_0_1 : w1.frozen? ⟨w.heap.size, 1, none⟩ = false := blk_frozen g1_0 1
  have G1_0 := Lib.hid g1_0
  clear g1_0
  go_wp2
  go_ret
  exact ⟨rfl, by repeat (first | exact Below.refl _ _ | refine Below.alloc ?_ (by first | omega | (simp <;> omega)) _ | refine Below.setCell ?_ (by first | omega | (simp <;> omega)) _ | refine Below.trans ?_ (b1.mono (by first | omega | (simp <;> omega))))⟩
theorem rt_trial2 (h : mayB 2 2 = true) (w : World) : Calls Tryd.prog 17 #[rf 2 2] w fun e w' => e = .returned (.string (⟨#[116, 114, 105, 97, 108, 32]⟩ ++ dig 2)) ∧ Below w.heap.size w w' := by
  have n0 := blk_new (w) #[.int .i64 2, .int .i64 2] 36
  have m0 : ((w).alloc (.cells #[.int .i64 2, .int .i64 2] 36)).heap[w.heap.size]? = some (.cells #[.int .i64 2, .int .i64 2] 36 (0, 0)) := by have := n0; simpa using this
  have hs0 : ((w).alloc (.cells #[.int .i64 2, .int .i64 2] 36)).heap.size = w.heap.size + 1 := by simp
  clear n0
  have M0 := Lib.hid m0
  clear m0
  go_enter Tryd.func17, Tryd.ntmps17
  go_wp2_with fail
  refine (Calls.mono (h ▸ rmay 2 2 _) ?_)
  rintro e w1 ⟨rfl, b1⟩
  have z1 : w.heap.size + 1 ≤ w1.heap.size := by have := b1.size; first | omega | (simp at this; omega)
  have g1_0 : w1.heap[w.heap.size]? = some (.cells #[.int .i64 2, .int .i64 2] 36 (0, 0)) := blk_below M0.out b1 (by first | omega | (simp <;> omega))
  have c1_0_0 : w1.cell? ⟨w.heap.size, 0, none⟩ = some (.int .i64 2) := blk_cell g1_0 0
  have f1_0_0 : w1.frozen? ⟨w.heap.size, 0, none⟩ = false := blk_frozen g1_0 0
  have c1_0_1 : w1.cell? ⟨w.heap.size, 1, none⟩ = some (.int .i64 2) := blk_cell g1_0 1
  have f1_0_1 : w1.frozen? ⟨w.heap.size, 1, none⟩ = false := blk_frozen g1_0 1
  have G1_0 := Lib.hid g1_0
  clear g1_0
  go_wp2
  go_ret
  exact ⟨rfl, by repeat (first | exact Below.refl _ _ | refine Below.alloc ?_ (by first | omega | (simp <;> omega)) _ | refine Below.setCell ?_ (by first | omega | (simp <;> omega)) _ | refine Below.trans ?_ (b1.mono (by first | omega | (simp <;> omega))))⟩
theorem rt_trial3 (h : mayB 2 3 = true) (w : World) : Calls Tryd.prog 17 #[rf 2 3] w fun e w' => e = .returned (.string (⟨#[116, 114, 105, 97, 108, 32]⟩ ++ dig 3)) ∧ Below w.heap.size w w' := by
  have n0 := blk_new (w) #[.int .i64 2, .int .i64 3] 36
  have m0 : ((w).alloc (.cells #[.int .i64 2, .int .i64 3] 36)).heap[w.heap.size]? = some (.cells #[.int .i64 2, .int .i64 3] 36 (0, 0)) := by have := n0; simpa using this
  have hs0 : ((w).alloc (.cells #[.int .i64 2, .int .i64 3] 36)).heap.size = w.heap.size + 1 := by simp
  clear n0
  have M0 := Lib.hid m0
  clear m0
  go_enter Tryd.func17, Tryd.ntmps17
  go_wp2_with fail
  refine (Calls.mono (h ▸ rmay 2 3 _) ?_)
  rintro e w1 ⟨rfl, b1⟩
  have z1 : w.heap.size + 1 ≤ w1.heap.size := by have := b1.size; first | omega | (simp at this; omega)
  have g1_0 : w1.heap[w.heap.size]? = some (.cells #[.int .i64 2, .int .i64 3] 36 (0, 0)) := blk_below M0.out b1 (by first | omega | (simp <;> omega))
  have c1_0_0 : w1.cell? ⟨w.heap.size, 0, none⟩ = some (.int .i64 2) := blk_cell g1_0 0
  have f1_0_0 : w1.frozen? ⟨w.heap.size, 0, none⟩ = false := blk_frozen g1_0 0
  have c1_0_1 : w1.cell? ⟨w.heap.size, 1, none⟩ = some (.int .i64 3) := blk_cell g1_0 1
  have f1_0_1 : w1.frozen? ⟨w.heap.size, 1, none⟩ = false := blk_frozen g1_0 1
  have G1_0 := Lib.hid g1_0
  clear g1_0
  go_wp2
  go_ret
  exact ⟨rfl, by repeat (first | exact Below.refl _ _ | refine Below.alloc ?_ (by first | omega | (simp <;> omega)) _ | refine Below.setCell ?_ (by first | omega | (simp <;> omega)) _ | refine Below.trans ?_ (b1.mono (by first | omega | (simp <;> omega))))⟩
theorem rt_trial4 (h : mayB 2 4 = true) (w : World) : Calls Tryd.prog 17 #[rf 2 4] w fun e w' => e = .returned (.string (⟨#[116, 114, 105, 97, 108, 32]⟩ ++ dig 4)) ∧ Below w.heap.size w w' := by
  have n0 := blk_new (w) #[.int .i64 2, .int .i64 4] 36
  have m0 : ((w).alloc (.cells #[.int .i64 2, .int .i64 4] 36)).heap[w.heap.size]? = some (.cells #[.int .i64 2, .int .i64 4] 36 (0, 0)) := by have := n0; simpa using this
  have hs0 : ((w).alloc (.cells #[.int .i64 2, .int .i64 4] 36)).heap.size = w.heap.size + 1 := by simp
  clear n0
  have M0 := Lib.hid m0
  clear m0
  go_enter Tryd.func17, Tryd.ntmps17
  go_wp2_with fail
  refine (Calls.mono (h ▸ rmay 2 4 _) ?_)
  rintro e w1 ⟨rfl, b1⟩
  have z1 : w.heap.size + 1 ≤ w1.heap.size := by have := b1.size; first | omega | (simp at this; omega)
  have g1_0 : w1.heap[w.heap.size]? = some (.cells #[.int .i64 2, .int .i64 4] 36 (0, 0)) := blk_below M0.out b1 (by first | omega | (simp <;> omega))
  have c1_0_0 : w1.cell? ⟨w.heap.size, 0, none⟩ = some (.int .i64 2) := blk_cell g1_0 0
  have f1_0_0 : w1.frozen? ⟨w.heap.size, 0, none⟩ = false := blk_frozen g1_0 0
  have c1_0_1 : w1.cell? ⟨w.heap.size, 1, none⟩ = some (.int .i64 4) := blk_cell g1_0 1
  have f1_0_1 : w1.frozen? ⟨w.heap.size, 1, none⟩ = false := blk_frozen g1_0 1
  have G1_0 := Lib.hid g1_0
  clear g1_0
  go_wp2
  go_ret
  exact ⟨rfl, by repeat (first | exact Below.refl _ _ | refine Below.alloc ?_ (by first | omega | (simp <;> omega)) _ | refine Below.setCell ?_ (by first | omega | (simp <;> omega)) _ | refine Below.trans ?_ (b1.mono (by first | omega | (simp <;> omega))))⟩
theorem rt_trial5 (h : mayB 2 5 = true) (w : World) : Calls Tryd.prog 17 #[rf 2 5] w fun e w' => e = .returned (.string (⟨#[116, 114, 105, 97, 108, 32]⟩ ++ dig 5)) ∧ Below w.heap.size w w' := by
  have n0 := blk_new (w) #[.int .i64 2, .int .i64 5] 36
  have m0 : ((w).alloc (.cells #[.int .i64 2, .int .i64 5] 36)).heap[w.heap.size]? = some (.cells #[.int .i64 2, .int .i64 5] 36 (0, 0)) := by have := n0; simpa using this
  have hs0 : ((w).alloc (.cells #[.int .i64 2, .int .i64 5] 36)).heap.size = w.heap.size + 1 := by simp
  clear n0
  have M0 := Lib.hid m0
  clear m0
  go_enter Tryd.func17, Tryd.ntmps17
  go_wp2_with fail
  refine (Calls.mono (h ▸ rmay 2 5 _) ?_)
  rintro e w1 ⟨rfl, b1⟩
  have z1 : w.heap.size + 1 ≤ w1.heap.size := by have := b1.size; first | omega | (simp at this; omega)
  have g1_0 : w1.heap[w.heap.size]? = some (.cells #[.int .i64 2, .int .i64 5] 36 (0, 0)) := blk_below M0.out b1 (by first | omega | (simp <;> omega))
  have c1_0_0 : w1.cell? ⟨w.heap.size, 0, none⟩ = some (.int .i64 2) := blk_cell g1_0 0
  have f1_0_0 : w1.frozen? ⟨w.heap.size, 0, none⟩ = false := blk_frozen g1_0 0
  have c1_0_1 : w1.cell? ⟨w.heap.size, 1, none⟩ = some (.int .i64 5) := blk_cell g1_0 1
  have f1_0_1 : w1.frozen? ⟨w.heap.size, 1, none⟩ = false := blk_frozen g1_0 1
  have G1_0 := Lib.hid g1_0
  clear g1_0
  go_wp2
  go_ret
  exact ⟨rfl, by repeat (first | exact Below.refl _ _ | refine Below.alloc ?_ (by first | omega | (simp <;> omega)) _ | refine Below.setCell ?_ (by first | omega | (simp <;> omega)) _ | refine Below.trans ?_ (b1.mono (by first | omega | (simp <;> omega))))⟩
theorem rt_trial6 (h : mayB 2 6 = true) (w : World) : Calls Tryd.prog 17 #[rf 2 6] w fun e w' => e = .returned (.string (⟨#[116, 114, 105, 97, 108, 32]⟩ ++ dig 6)) ∧ Below w.heap.size w w' := by
  have n0 := blk_new (w) #[.int .i64 2, .int .i64 6] 36
  have m0 : ((w).alloc (.cells #[.int .i64 2, .int .i64 6] 36)).heap[w.heap.size]? = some (.cells #[.int .i64 2, .int .i64 6] 36 (0, 0)) := by have := n0; simpa using this
  have hs0 : ((w).alloc (.cells #[.int .i64 2, .int .i64 6] 36)).heap.size = w.heap.size + 1 := by simp
  clear n0
  have M0 := Lib.hid m0
  clear m0
  go_enter Tryd.func17, Tryd.ntmps17
  go_wp2_with fail
  refine (Calls.mono (h ▸ rmay 2 6 _) ?_)
  rintro e w1 ⟨rfl, b1⟩
  have z1 : w.heap.size + 1 ≤ w1.heap.size := by have := b1.size; first | omega | (simp at this; omega)
  have g1_0 : w1.heap[w.heap.size]? = some (.cells #[.int .i64 2, .int .i64 6] 36 (0, 0)) := blk_below M0.out b1 (by first | omega | (simp <;> omega))
  have c1_0_0 : w1.cell? ⟨w.heap.size, 0, none⟩ = some (.int .i64 2) := blk_cell g1_0 0
  have f1_0_0 : w1.frozen? ⟨w.heap.size, 0, none⟩ = false := blk_frozen g1_0 0
  have c1_0_1 : w1.cell? ⟨w.heap.size, 1, none⟩ = some (.int .i64 6) := blk_cell g1_0 1
  have f1_0_1 : w1.frozen? ⟨w.heap.size, 1, none⟩ = false := blk_frozen g1_0 1
  have G1_0 := Lib.hid g1_0
  clear g1_0
  go_wp2
  go_ret
  exact ⟨rfl, by repeat (first | exact Below.refl _ _ | refine Below.alloc ?_ (by first | omega | (simp <;> omega)) _ | refine Below.setCell ?_ (by first | omega | (simp <;> omega)) _ | refine Below.trans ?_ (b1.mono (by first | omega | (simp <;> omega))))⟩
theorem rt_trial7 (h : mayB 2 7 = true) (w : World) : Calls Tryd.prog 17 #[rf 2 7] w fun e w' => e = .returned (.string (⟨#[116, 114, 105, 97, 108, 32]⟩ ++ dig 7)) ∧ Below w.heap.size w w' := by
  have n0 := blk_new (w) #[.int .i64 2, .int .i64 7] 36
  have m0 : ((w).alloc (.cells #[.int .i64 2, .int .i64 7] 36)).heap[w.heap.size]? = some (.cells #[.int .i64 2, .int .i64 7] 36 (0, 0)) := by have := n0; simpa using this
  have hs0 : ((w).alloc (.cells #[.int .i64 2, .int .i64 7] 36)).heap.size = w.heap.size + 1 := by simp
  clear n0
  have M0 := Lib.hid m0
  clear m0
  go_enter Tryd.func17, Tryd.ntmps17
  go_wp2_with fail
  refine (Calls.mono (h ▸ rmay 2 7 _) ?_)
  rintro e w1 ⟨rfl, b1⟩
  have z1 : w.heap.size + 1 ≤ w1.heap.size := by have := b1.size; first | omega | (simp at this; omega)
  have g1_0 : w1.heap[w.heap.size]? = some (.cells #[.int .i64 2, .int .i64 7] 36 (0, 0)) := blk_below M0.out b1 (by first | omega | (simp <;> omega))
  have c1_0_0 : w1.cell? ⟨w.heap.size, 0, none⟩ = some (.int .i64 2) := blk_cell g1_0 0
  have f1_0_0 : w1.frozen? ⟨w.heap.size, 0, none⟩ = false := blk_frozen g1_0 0
  have c1_0_1 : w1.cell? ⟨w.heap.size, 1, none⟩ = some (.int .i64 7) := blk_cell g1_0 1
  have f1_0_1 : w1.frozen? ⟨w.heap.size, 1, none⟩ = false := blk_frozen g1_0 1
  have G1_0 := Lib.hid g1_0
  clear g1_0
  go_wp2
  go_ret
  exact ⟨rfl, by repeat (first | exact Below.refl _ _ | refine Below.alloc ?_ (by first | omega | (simp <;> omega)) _ | refine Below.setCell ?_ (by first | omega | (simp <;> omega)) _ | refine Below.trans ?_ (b1.mono (by first | omega | (simp <;> omega))))⟩
theorem rt_trial8 (h : mayB 2 8 = true) (w : World) : Calls Tryd.prog 17 #[rf 2 8] w fun e w' => e = .returned (.string (⟨#[116, 114, 105, 97, 108, 32]⟩ ++ dig 8)) ∧ Below w.heap.size w w' := by
  have n0 := blk_new (w) #[.int .i64 2, .int .i64 8] 36
  have m0 : ((w).alloc (.cells #[.int .i64 2, .int .i64 8] 36)).heap[w.heap.size]? = some (.cells #[.int .i64 2, .int .i64 8] 36 (0, 0)) := by have := n0; simpa using this
  have hs0 : ((w).alloc (.cells #[.int .i64 2, .int .i64 8] 36)).heap.size = w.heap.size + 1 := by simp
  clear n0
  have M0 := Lib.hid m0
  clear m0
  go_enter Tryd.func17, Tryd.ntmps17
  go_wp2_with fail
  refine (Calls.mono (h ▸ rmay 2 8 _) ?_)
  rintro e w1 ⟨rfl, b1⟩
  have z1 : w.heap.size + 1 ≤ w1.heap.size := by have := b1.size; first | omega | (simp at this; omega)
  have g1_0 : w1.heap[w.heap.size]? = some (.cells #[.int .i64 2, .int .i64 8] 36 (0, 0)) := blk_below M0.out b1 (by first | omega | (simp <;> omega))
  have c1_0_0 : w1.cell? ⟨w.heap.size, 0, none⟩ = some (.int .i64 2) := blk_cell g1_0 0
  have f1_0_0 : w1.frozen? ⟨w.heap.size, 0, none⟩ = false := blk_frozen g1_0 0
  have c1_0_1 : w1.cell? ⟨w.heap.size, 1, none⟩ = some (.int .i64 8) := blk_cell g1_0 1
  have f1_0_1 : w1.frozen? ⟨w.heap.size, 1, none⟩ = false := blk_frozen g1_0 1
  have G1_0 := Lib.hid g1_0
  clear g1_0
  go_wp2
  go_ret
  exact ⟨rfl, by repeat (first | exact Below.refl _ _ | refine Below.alloc ?_ (by first | omega | (simp <;> omega)) _ | refine Below.setCell ?_ (by first | omega | (simp <;> omega)) _ | refine Below.trans ?_ (b1.mono (by first | omega | (simp <;> omega))))⟩
end Go.Proofs.YtojielokkpmjeaaDoor.tr
