/- trial and its reference: Commit, Boundary, Text, walked case by case (printed by gen_trial.py). -/
import Derived.Test.YtojielokkpmjeaaDoorRows
import Derived.Test.YtojielokkpmjeaaDoorTrialA
import Derived.Deep.RegionWith
namespace Go.Proofs.YtojielokkpmjeaaDoor.tr
open Go Go.ChangeShapes Go.WideShapes Go.ChangeAt Go.RowKit
theorem blk_new2 (w : World) (o : Obj) (cs : Array Value) (t : TypeId) : ((w.alloc o).alloc (.cells cs t)).heap[w.heap.size + 1]? = some (.cells cs t (0, 0)) := by have := blk_new (w.alloc o) cs t; simpa using this
theorem com_bad (k l n : Int) (h : mayB k l = false) (w : World) : Calls Tryd.prog 8 #[ph k l, .int .i64 n] w fun e w' => e = .returned (.tuple #[ph 0 0, .int .i64 2]) ∧ Below w.heap.size w w' := by
  have n0 := blk_new (w) #[.int .u8 k, .int .i64 l] 25
  have n1 := blk_new ((w).alloc (.cells #[.int .u8 k, .int .i64 l] 25)) #[.int .u8 0, .int .i64 0] 25
  have m0 : (((w).alloc (.cells #[.int .u8 k, .int .i64 l] 25)).alloc (.cells #[.int .u8 0, .int .i64 0] 25)).heap[w.heap.size]? = some (.cells #[.int .u8 k, .int .i64 l] 25 (0, 0)) := by have := (blk_alloc n0 (.cells #[.int .u8 0, .int .i64 0] 25)); simpa using this
  have m1 : (((w).alloc (.cells #[.int .u8 k, .int .i64 l] 25)).alloc (.cells #[.int .u8 0, .int .i64 0] 25)).heap[(w.heap.size + 1)]? = some (.cells #[.int .u8 0, .int .i64 0] 25 (0, 0)) := by have := n1; simpa using this
  have hs0 : (((w).alloc (.cells #[.int .u8 k, .int .i64 l] 25)).alloc (.cells #[.int .u8 0, .int .i64 0] 25)).heap.size = w.heap.size + 2 := by simp
  clear n0 n1
  have M0 := Lib.hid m0
  have M1 := Lib.hid m1
  clear m0 m1
  go_enter Tryd.func8, Tryd.ntmps8
  go_wp2_with fail
  refine (Calls.mono (h ▸ may k l _) ?_)
  rintro e w1 ⟨rfl, b1⟩
  have z1 : w.heap.size + 2 ≤ w1.heap.size := by have := b1.size; first | omega | (simp at this; omega)
  have g1_0 : w1.heap[w.heap.size]? = some (.cells #[.int .u8 k, .int .i64 l] 25 (0, 0)) := blk_below M0.out b1 (by first | omega | (simp <;> omega))
  have c1_0_0 : w1.cell? ⟨w.heap.size, 0, none⟩ = some (.int .u8 k) := blk_cell g1_0 0
  have f1_0_0 : w1.frozen? ⟨w.heap.size, 0, none⟩ = false := blk_frozen g1_0 0
  have c1_0_1 : w1.cell? ⟨w.heap.size, 1, none⟩ = some (.int .i64 l) := blk_cell g1_0 1
  have f1_0_1 : w1.frozen? ⟨w.heap.size, 1, none⟩ = false := blk_frozen g1_0 1
  have G1_0 := Lib.hid g1_0
  have g1_1 : w1.heap[(w.heap.size + 1)]? = some (.cells #[.int .u8 0, .int .i64 0] 25 (0, 0)) := blk_below M1.out b1 (by first | omega | (simp <;> omega))
  have c1_1_0 : w1.cell? ⟨(w.heap.size + 1), 0, none⟩ = some (.int .u8 0) := blk_cell g1_1 0
  have f1_1_0 : w1.frozen? ⟨(w.heap.size + 1), 0, none⟩ = false := blk_frozen g1_1 0
  have c1_1_1 : w1.cell? ⟨(w.heap.size + 1), 1, none⟩ = some (.int .i64 0) := blk_cell g1_1 1
  have f1_1_1 : w1.frozen? ⟨(w.heap.size + 1), 1, none⟩ = false := blk_frozen g1_1 1
  have G1_1 := Lib.hid g1_1
  clear g1_0 g1_1
  go_wp2
  exact ret_row_tmp rfl (w.heap.size + 1) 25 _ _ rfl (blk_eq (blk_set (blk_set G1_1.out _ _) _ _) rfl) Tryd.underlying25 rfl (by kernel_rfl) rfl ⟨rfl, by repeat (first | exact Below.refl _ _ | refine Below.alloc ?_ (by first | omega | (simp <;> omega)) _ | refine Below.setCell ?_ (by first | omega | (simp <;> omega)) _ | refine Below.trans ?_ (b1.mono (by first | omega | (simp <;> omega))))⟩
theorem com_bad2 (k l n : Int) (h : mayB k l = true) (h2 : frB n = false) (w : World) : Calls Tryd.prog 8 #[ph k l, .int .i64 n] w fun e w' => e = .returned (.tuple #[ph 0 0, .int .i64 2]) ∧ Below w.heap.size w w' := by
  have n0 := blk_new (w) #[.int .u8 k, .int .i64 l] 25
  have n1 := blk_new ((w).alloc (.cells #[.int .u8 k, .int .i64 l] 25)) #[.int .u8 0, .int .i64 0] 25
  have m0 : (((w).alloc (.cells #[.int .u8 k, .int .i64 l] 25)).alloc (.cells #[.int .u8 0, .int .i64 0] 25)).heap[w.heap.size]? = some (.cells #[.int .u8 k, .int .i64 l] 25 (0, 0)) := by have := (blk_alloc n0 (.cells #[.int .u8 0, .int .i64 0] 25)); simpa using this
  have m1 : (((w).alloc (.cells #[.int .u8 k, .int .i64 l] 25)).alloc (.cells #[.int .u8 0, .int .i64 0] 25)).heap[(w.heap.size + 1)]? = some (.cells #[.int .u8 0, .int .i64 0] 25 (0, 0)) := by have := n1; simpa using this
  have hs0 : (((w).alloc (.cells #[.int .u8 k, .int .i64 l] 25)).alloc (.cells #[.int .u8 0, .int .i64 0] 25)).heap.size = w.heap.size + 2 := by simp
  clear n0 n1
  have M0 := Lib.hid m0
  have M1 := Lib.hid m1
  clear m0 m1
  go_enter Tryd.func8, Tryd.ntmps8
  go_wp2_with fail
  refine (Calls.mono (h ▸ may k l _) ?_)
  rintro e w1 ⟨rfl, b1⟩
  have z1 : w.heap.size + 2 ≤ w1.heap.size := by have := b1.size; first | omega | (simp at this; omega)
  have g1_0 : w1.heap[w.heap.size]? = some (.cells #[.int .u8 k, .int .i64 l] 25 (0, 0)) := blk_below M0.out b1 (by first | omega | (simp <;> omega))
  have c1_0_0 : w1.cell? ⟨w.heap.size, 0, none⟩ = some (.int .u8 k) := blk_cell g1_0 0
  have f1_0_0 : w1.frozen? ⟨w.heap.size, 0, none⟩ = false := blk_frozen g1_0 0
  have c1_0_1 : w1.cell? ⟨w.heap.size, 1, none⟩ = some (.int .i64 l) := blk_cell g1_0 1
  have f1_0_1 : w1.frozen? ⟨w.heap.size, 1, none⟩ = false := blk_frozen g1_0 1
  have G1_0 := Lib.hid g1_0
  have g1_1 : w1.heap[(w.heap.size + 1)]? = some (.cells #[.int .u8 0, .int .i64 0] 25 (0, 0)) := blk_below M1.out b1 (by first | omega | (simp <;> omega))
  have c1_1_0 : w1.cell? ⟨(w.heap.size + 1), 0, none⟩ = some (.int .u8 0) := blk_cell g1_1 0
  have f1_1_0 : w1.frozen? ⟨(w.heap.size + 1), 0, none⟩ = false := blk_frozen g1_1 0
  have c1_1_1 : w1.cell? ⟨(w.heap.size + 1), 1, none⟩ = some (.int .i64 0) := blk_cell g1_1 1
  have f1_1_1 : w1.frozen? ⟨(w.heap.size + 1), 1, none⟩ = false := blk_frozen g1_1 1
  have G1_1 := Lib.hid g1_1
  skip
  go_wp2_with fail
  refine (Calls.mono (h2 ▸ frames n _) ?_)
  rintro e w2 ⟨rfl, b2⟩
  have z2 : w.heap.size + 2 ≤ w2.heap.size := by have := b2.size; first | omega | (simp at this; omega)
  have g2_0 : w2.heap[w.heap.size]? = some (.cells #[.int .u8 k, .int .i64 l] 25 (0, 0)) := blk_below g1_0 b2 (by first | omega | (simp <;> omega))
  have c2_0_0 : w2.cell? ⟨w.heap.size, 0, none⟩ = some (.int .u8 k) := blk_cell g2_0 0
  have f2_0_0 : w2.frozen? ⟨w.heap.size, 0, none⟩ = false := blk_frozen g2_0 0
  have c2_0_1 : w2.cell? ⟨w.heap.size, 1, none⟩ = some (.int .i64 l) := blk_cell g2_0 1
  have f2_0_1 : w2.frozen? ⟨w.heap.size, 1, none⟩ = false := blk_frozen g2_0 1
  have G2_0 := Lib.hid g2_0
  have g2_1 : w2.heap[(w.heap.size + 1)]? = some (.cells #[.int .u8 0, .int .i64 0] 25 (0, 0)) := blk_below g1_1 b2 (by first | omega | (simp <;> omega))
  have c2_1_0 : w2.cell? ⟨(w.heap.size + 1), 0, none⟩ = some (.int .u8 0) := blk_cell g2_1 0
  have f2_1_0 : w2.frozen? ⟨(w.heap.size + 1), 0, none⟩ = false := blk_frozen g2_1 0
  have c2_1_1 : w2.cell? ⟨(w.heap.size + 1), 1, none⟩ = some (.int .i64 0) := blk_cell g2_1 1
  have f2_1_1 : w2.frozen? ⟨(w.heap.size + 1), 1, none⟩ = false := blk_frozen g2_1 1
  have G2_1 := Lib.hid g2_1
  clear g2_0 g2_1
  go_wp2
  exact ret_row_tmp rfl (w.heap.size + 1) 25 _ _ rfl (blk_eq (blk_set (blk_set G2_1.out _ _) _ _) rfl) Tryd.underlying25 rfl (by kernel_rfl) rfl ⟨rfl, by repeat (first | exact Below.refl _ _ | refine Below.alloc ?_ (by first | omega | (simp <;> omega)) _ | refine Below.setCell ?_ (by first | omega | (simp <;> omega)) _ | refine Below.trans ?_ (b2.mono (by first | omega | (simp <;> omega))) | refine Below.trans ?_ (b1.mono (by first | omega | (simp <;> omega))))⟩
theorem com_busy (k l n : Int) (h : mayB k l = true) (h2 : frB n = true) (h3 : (k == 0) = false) (w : World) : Calls Tryd.prog 8 #[ph k l, .int .i64 n] w fun e w' => e = .returned (.tuple #[ph 0 0, .int .i64 270]) ∧ Below w.heap.size w w' := by
  have n0 := blk_new (w) #[.int .u8 k, .int .i64 l] 25
  have n1 := blk_new ((w).alloc (.cells #[.int .u8 k, .int .i64 l] 25)) #[.int .u8 0, .int .i64 0] 25
  have m0 : (((w).alloc (.cells #[.int .u8 k, .int .i64 l] 25)).alloc (.cells #[.int .u8 0, .int .i64 0] 25)).heap[w.heap.size]? = some (.cells #[.int .u8 k, .int .i64 l] 25 (0, 0)) := by have := (blk_alloc n0 (.cells #[.int .u8 0, .int .i64 0] 25)); simpa using this
  have m1 : (((w).alloc (.cells #[.int .u8 k, .int .i64 l] 25)).alloc (.cells #[.int .u8 0, .int .i64 0] 25)).heap[(w.heap.size + 1)]? = some (.cells #[.int .u8 0, .int .i64 0] 25 (0, 0)) := by have := n1; simpa using this
  have hs0 : (((w).alloc (.cells #[.int .u8 k, .int .i64 l] 25)).alloc (.cells #[.int .u8 0, .int .i64 0] 25)).heap.size = w.heap.size + 2 := by simp
  clear n0 n1
  have M0 := Lib.hid m0
  have M1 := Lib.hid m1
  clear m0 m1
  go_enter Tryd.func8, Tryd.ntmps8
  go_wp2_with fail
  refine (Calls.mono (h ▸ may k l _) ?_)
  rintro e w1 ⟨rfl, b1⟩
  have z1 : w.heap.size + 2 ≤ w1.heap.size := by have := b1.size; first | omega | (simp at this; omega)
  have g1_0 : w1.heap[w.heap.size]? = some (.cells #[.int .u8 k, .int .i64 l] 25 (0, 0)) := blk_below M0.out b1 (by first | omega | (simp <;> omega))
  have c1_0_0 : w1.cell? ⟨w.heap.size, 0, none⟩ = some (.int .u8 k) := blk_cell g1_0 0
  have f1_0_0 : w1.frozen? ⟨w.heap.size, 0, none⟩ = false := blk_frozen g1_0 0
  have c1_0_1 : w1.cell? ⟨w.heap.size, 1, none⟩ = some (.int .i64 l) := blk_cell g1_0 1
  have f1_0_1 : w1.frozen? ⟨w.heap.size, 1, none⟩ = false := blk_frozen g1_0 1
  have G1_0 := Lib.hid g1_0
  have g1_1 : w1.heap[(w.heap.size + 1)]? = some (.cells #[.int .u8 0, .int .i64 0] 25 (0, 0)) := blk_below M1.out b1 (by first | omega | (simp <;> omega))
  have c1_1_0 : w1.cell? ⟨(w.heap.size + 1), 0, none⟩ = some (.int .u8 0) := blk_cell g1_1 0
  have f1_1_0 : w1.frozen? ⟨(w.heap.size + 1), 0, none⟩ = false := blk_frozen g1_1 0
  have c1_1_1 : w1.cell? ⟨(w.heap.size + 1), 1, none⟩ = some (.int .i64 0) := blk_cell g1_1 1
  have f1_1_1 : w1.frozen? ⟨(w.heap.size + 1), 1, none⟩ = false := blk_frozen g1_1 1
  have G1_1 := Lib.hid g1_1
  skip
  go_wp2_with fail
  refine (Calls.mono (h2 ▸ frames n _) ?_)
  rintro e w2 ⟨rfl, b2⟩
  have z2 : w.heap.size + 2 ≤ w2.heap.size := by have := b2.size; first | omega | (simp at this; omega)
  have g2_0 : w2.heap[w.heap.size]? = some (.cells #[.int .u8 k, .int .i64 l] 25 (0, 0)) := blk_below g1_0 b2 (by first | omega | (simp <;> omega))
  have c2_0_0 : w2.cell? ⟨w.heap.size, 0, none⟩ = some (.int .u8 k) := blk_cell g2_0 0
  have f2_0_0 : w2.frozen? ⟨w.heap.size, 0, none⟩ = false := blk_frozen g2_0 0
  have c2_0_1 : w2.cell? ⟨w.heap.size, 1, none⟩ = some (.int .i64 l) := blk_cell g2_0 1
  have f2_0_1 : w2.frozen? ⟨w.heap.size, 1, none⟩ = false := blk_frozen g2_0 1
  have G2_0 := Lib.hid g2_0
  have g2_1 : w2.heap[(w.heap.size + 1)]? = some (.cells #[.int .u8 0, .int .i64 0] 25 (0, 0)) := blk_below g1_1 b2 (by first | omega | (simp <;> omega))
  have c2_1_0 : w2.cell? ⟨(w.heap.size + 1), 0, none⟩ = some (.int .u8 0) := blk_cell g2_1 0
  have f2_1_0 : w2.frozen? ⟨(w.heap.size + 1), 0, none⟩ = false := blk_frozen g2_1 0
  have c2_1_1 : w2.cell? ⟨(w.heap.size + 1), 1, none⟩ = some (.int .i64 0) := blk_cell g2_1 1
  have f2_1_1 : w2.frozen? ⟨(w.heap.size + 1), 1, none⟩ = false := blk_frozen g2_1 1
  have G2_1 := Lib.hid g2_1
  clear g2_0 g2_1
  go_wp2
  exact ret_row_tmp rfl (w.heap.size + 1) 25 _ _ rfl (blk_eq (blk_set (blk_set G2_1.out _ _) _ _) rfl) Tryd.underlying25 rfl (by kernel_rfl) rfl ⟨rfl, by repeat (first | exact Below.refl _ _ | refine Below.alloc ?_ (by first | omega | (simp <;> omega)) _ | refine Below.setCell ?_ (by first | omega | (simp <;> omega)) _ | refine Below.trans ?_ (b2.mono (by first | omega | (simp <;> omega))) | refine Below.trans ?_ (b1.mono (by first | omega | (simp <;> omega))))⟩
theorem com_ok (l n : Int) (h : mayB 0 l = true) (h2 : frB n = true) (w : World) : Calls Tryd.prog 8 #[ph 0 l, .int .i64 n] w fun e w' => e = .returned (.tuple #[ph 1 n, .int .i64 0]) ∧ Below w.heap.size w w' := by
  have n0 := blk_new (w) #[.int .u8 0, .int .i64 l] 25
  have n1 := blk_new ((w).alloc (.cells #[.int .u8 0, .int .i64 l] 25)) #[.int .u8 0, .int .i64 0] 25
  have m0 : (((w).alloc (.cells #[.int .u8 0, .int .i64 l] 25)).alloc (.cells #[.int .u8 0, .int .i64 0] 25)).heap[w.heap.size]? = some (.cells #[.int .u8 0, .int .i64 l] 25 (0, 0)) := by have := (blk_alloc n0 (.cells #[.int .u8 0, .int .i64 0] 25)); simpa using this
  have m1 : (((w).alloc (.cells #[.int .u8 0, .int .i64 l] 25)).alloc (.cells #[.int .u8 0, .int .i64 0] 25)).heap[(w.heap.size + 1)]? = some (.cells #[.int .u8 0, .int .i64 0] 25 (0, 0)) := by have := n1; simpa using this
  have hs0 : (((w).alloc (.cells #[.int .u8 0, .int .i64 l] 25)).alloc (.cells #[.int .u8 0, .int .i64 0] 25)).heap.size = w.heap.size + 2 := by simp
  clear n0 n1
  have M0 := Lib.hid m0
  have M1 := Lib.hid m1
  clear m0 m1
  go_enter Tryd.func8, Tryd.ntmps8
  go_wp2_with fail
  refine (Calls.mono (h ▸ may 0 l _) ?_)
  rintro e w1 ⟨rfl, b1⟩
  have z1 : w.heap.size + 2 ≤ w1.heap.size := by have := b1.size; first | omega | (simp at this; omega)
  have g1_0 : w1.heap[w.heap.size]? = some (.cells #[.int .u8 0, .int .i64 l] 25 (0, 0)) := blk_below M0.out b1 (by first | omega | (simp <;> omega))
  have c1_0_0 : w1.cell? ⟨w.heap.size, 0, none⟩ = some (.int .u8 0) := blk_cell g1_0 0
  have f1_0_0 : w1.frozen? ⟨w.heap.size, 0, none⟩ = false := blk_frozen g1_0 0
  have c1_0_1 : w1.cell? ⟨w.heap.size, 1, none⟩ = some (.int .i64 l) := blk_cell g1_0 1
  have f1_0_1 : w1.frozen? ⟨w.heap.size, 1, none⟩ = false := blk_frozen g1_0 1
  have G1_0 := Lib.hid g1_0
  have g1_1 : w1.heap[(w.heap.size + 1)]? = some (.cells #[.int .u8 0, .int .i64 0] 25 (0, 0)) := blk_below M1.out b1 (by first | omega | (simp <;> omega))
  have c1_1_0 : w1.cell? ⟨(w.heap.size + 1), 0, none⟩ = some (.int .u8 0) := blk_cell g1_1 0
  have f1_1_0 : w1.frozen? ⟨(w.heap.size + 1), 0, none⟩ = false := blk_frozen g1_1 0
  have c1_1_1 : w1.cell? ⟨(w.heap.size + 1), 1, none⟩ = some (.int .i64 0) := blk_cell g1_1 1
  have f1_1_1 : w1.frozen? ⟨(w.heap.size + 1), 1, none⟩ = false := blk_frozen g1_1 1
  have G1_1 := Lib.hid g1_1
  skip
  go_wp2_with fail
  refine (Calls.mono (h2 ▸ frames n _) ?_)
  rintro e w2 ⟨rfl, b2⟩
  have z2 : w.heap.size + 2 ≤ w2.heap.size := by have := b2.size; first | omega | (simp at this; omega)
  have g2_0 : w2.heap[w.heap.size]? = some (.cells #[.int .u8 0, .int .i64 l] 25 (0, 0)) := blk_below g1_0 b2 (by first | omega | (simp <;> omega))
  have c2_0_0 : w2.cell? ⟨w.heap.size, 0, none⟩ = some (.int .u8 0) := blk_cell g2_0 0
  have f2_0_0 : w2.frozen? ⟨w.heap.size, 0, none⟩ = false := blk_frozen g2_0 0
  have c2_0_1 : w2.cell? ⟨w.heap.size, 1, none⟩ = some (.int .i64 l) := blk_cell g2_0 1
  have f2_0_1 : w2.frozen? ⟨w.heap.size, 1, none⟩ = false := blk_frozen g2_0 1
  have G2_0 := Lib.hid g2_0
  have g2_1 : w2.heap[(w.heap.size + 1)]? = some (.cells #[.int .u8 0, .int .i64 0] 25 (0, 0)) := blk_below g1_1 b2 (by first | omega | (simp <;> omega))
  have c2_1_0 : w2.cell? ⟨(w.heap.size + 1), 0, none⟩ = some (.int .u8 0) := blk_cell g2_1 0
  have f2_1_0 : w2.frozen? ⟨(w.heap.size + 1), 0, none⟩ = false := blk_frozen g2_1 0
  have c2_1_1 : w2.cell? ⟨(w.heap.size + 1), 1, none⟩ = some (.int .i64 0) := blk_cell g2_1 1
  have f2_1_1 : w2.frozen? ⟨(w.heap.size + 1), 1, none⟩ = false := blk_frozen g2_1 1
  have G2_1 := Lib.hid g2_1
  clear g2_0 g2_1
  go_wp2
  exact ret_row_tmp rfl (w.heap.size + 1) 25 _ _ rfl (blk_eq (blk_set (blk_set G2_1.out _ _) _ _) rfl) Tryd.underlying25 rfl (by kernel_rfl) rfl ⟨rfl, by repeat (first | exact Below.refl _ _ | refine Below.alloc ?_ (by first | omega | (simp <;> omega)) _ | refine Below.setCell ?_ (by first | omega | (simp <;> omega)) _ | refine Below.trans ?_ (b2.mono (by first | omega | (simp <;> omega))) | refine Below.trans ?_ (b1.mono (by first | omega | (simp <;> omega))))⟩
theorem rest_true (k l : Int) (w : World) : Calls Tryd.prog 19 #[ph k l, .bool true] w fun e w' => e = .returned (.tuple #[ph 0 0, .int .u8 0]) ∧ Below w.heap.size w w' := by
  go_enter Tryd.func19, Tryd.ntmps19
  go_wp2
  exact ret_row_tmp rfl (w.heap.size + 1) 25 _ _ rfl (blk_new2 _ _ _ _) Tryd.underlying25 rfl (by kernel_rfl) rfl ⟨rfl, by repeat (first | exact Below.refl _ _ | refine Below.alloc ?_ (by first | omega | (simp <;> omega)) _ | refine Below.setCell ?_ (by first | omega | (simp <;> omega)) _)⟩
theorem rest_false (k l : Int) (w : World) : Calls Tryd.prog 19 #[ph k l, .bool false] w fun e w' => e = .returned (.tuple #[ph 0 0, .int .u8 0]) ∧ Below w.heap.size w w' := by
  go_enter Tryd.func19, Tryd.ntmps19
  go_wp2
  exact ret_row_tmp rfl (w.heap.size + 1) 25 _ _ rfl (blk_new2 _ _ _ _) Tryd.underlying25 rfl (by kernel_rfl) rfl ⟨rfl, by repeat (first | exact Below.refl _ _ | refine Below.alloc ?_ (by first | omega | (simp <;> omega)) _ | refine Below.setCell ?_ (by first | omega | (simp <;> omega)) _)⟩
theorem take_true (k l : Int) (w : World) : Calls Tryd.prog 20 #[ph k l, .bool true] w fun e w' => e = .returned (.tuple #[ph 2 l, .int .u8 1]) ∧ Below w.heap.size w w' := by
  go_enter Tryd.func20, Tryd.ntmps20
  go_wp2
  exact ret_row_tmp rfl (w.heap.size + 1) 25 _ _ rfl (blk_new2 _ _ _ _) Tryd.underlying25 rfl (by kernel_rfl) rfl ⟨rfl, by repeat (first | exact Below.refl _ _ | refine Below.alloc ?_ (by first | omega | (simp <;> omega)) _ | refine Below.setCell ?_ (by first | omega | (simp <;> omega)) _)⟩
theorem take_false (k l : Int) (w : World) : Calls Tryd.prog 20 #[ph k l, .bool false] w fun e w' => e = .returned (.tuple #[ph 2 l, .int .u8 1]) ∧ Below w.heap.size w w' := by
  go_enter Tryd.func20, Tryd.ntmps20
  go_wp2
  exact ret_row_tmp rfl (w.heap.size + 1) 25 _ _ rfl (blk_new2 _ _ _ _) Tryd.underlying25 rfl (by kernel_rfl) rfl ⟨rfl, by repeat (first | exact Below.refl _ _ | refine Below.alloc ?_ (by first | omega | (simp <;> omega)) _ | refine Below.setCell ?_ (by first | omega | (simp <;> omega)) _)⟩
theorem try_bad (k l : Int) (w : World) : Calls Tryd.prog 21 #[ph k l, .bool false] w fun e w' => e = .returned (.tuple #[ph 0 0, .int .u8 4]) ∧ Below w.heap.size w w' := by
  go_enter Tryd.func21, Tryd.ntmps21
  go_wp2
  exact ret_row_tmp rfl (w.heap.size + 1) 25 _ _ rfl (blk_new2 _ _ _ _) Tryd.underlying25 rfl (by kernel_rfl) rfl ⟨rfl, by repeat (first | exact Below.refl _ _ | refine Below.alloc ?_ (by first | omega | (simp <;> omega)) _ | refine Below.setCell ?_ (by first | omega | (simp <;> omega)) _)⟩
theorem try_last (k : Int) (w : World) : Calls Tryd.prog 21 #[ph k 1, .bool true] w fun e w' => e = .returned (.tuple #[ph 0 0, .int .u8 3]) ∧ Below w.heap.size w w' := by
  go_enter Tryd.func21, Tryd.ntmps21
  go_wp2
  exact ret_row_tmp rfl (w.heap.size + 1) 25 _ _ rfl (blk_new2 _ _ _ _) Tryd.underlying25 rfl (by kernel_rfl) rfl ⟨rfl, by repeat (first | exact Below.refl _ _ | refine Below.alloc ?_ (by first | omega | (simp <;> omega)) _ | refine Below.setCell ?_ (by first | omega | (simp <;> omega)) _)⟩
theorem try_on (k l : Int) (h : (l == 1) = false) (hw : IntKind.i64.wrap (l - 1) = l - 1) (w : World) : Calls Tryd.prog 21 #[ph k l, .bool true] w fun e w' => e = .returned (.tuple #[ph 2 (l - 1), .int .u8 2]) ∧ Below w.heap.size w w' := by
  go_enter Tryd.func21, Tryd.ntmps21
  go_wp2
  exact ret_row_tmp rfl (w.heap.size + 1) 25 _ _ rfl (blk_new2 _ _ _ _) Tryd.underlying25 rfl (by kernel_rfl) rfl ⟨rfl, by repeat (first | exact Below.refl _ _ | refine Below.alloc ?_ (by first | omega | (simp <;> omega)) _ | refine Below.setCell ?_ (by first | omega | (simp <;> omega)) _)⟩
theorem bd_bad_true (k l : Int) (h : mayB k l = false) (w : World) : Calls Tryd.prog 9 #[ph k l, .bool true] w fun e w' => e = .returned (.tuple #[ph 0 0, .int .u8 0]) ∧ Below w.heap.size w w' := by
  have n0 := blk_new (w) #[.int .u8 k, .int .i64 l] 25
  have n1 := blk_new ((w).alloc (.cells #[.int .u8 k, .int .i64 l] 25)) #[.int .u8 0, .int .i64 0] 25
  have m0 : (((w).alloc (.cells #[.int .u8 k, .int .i64 l] 25)).alloc (.cells #[.int .u8 0, .int .i64 0] 25)).heap[w.heap.size]? = some (.cells #[.int .u8 k, .int .i64 l] 25 (0, 0)) := by have := (blk_alloc n0 (.cells #[.int .u8 0, .int .i64 0] 25)); simpa using this
  have m1 : (((w).alloc (.cells #[.int .u8 k, .int .i64 l] 25)).alloc (.cells #[.int .u8 0, .int .i64 0] 25)).heap[(w.heap.size + 1)]? = some (.cells #[.int .u8 0, .int .i64 0] 25 (0, 0)) := by have := n1; simpa using this
  have hs0 : (((w).alloc (.cells #[.int .u8 k, .int .i64 l] 25)).alloc (.cells #[.int .u8 0, .int .i64 0] 25)).heap.size = w.heap.size + 2 := by simp
  clear n0 n1
  have M0 := Lib.hid m0
  have M1 := Lib.hid m1
  clear m0 m1
  go_enter Tryd.func9, Tryd.ntmps9
  go_wp2_with fail
  refine (Calls.mono (h ▸ may k l _) ?_)
  rintro e w1 ⟨rfl, b1⟩
  have z1 : w.heap.size + 2 ≤ w1.heap.size := by have := b1.size; first | omega | (simp at this; omega)
  have g1_0 : w1.heap[w.heap.size]? = some (.cells #[.int .u8 k, .int .i64 l] 25 (0, 0)) := blk_below M0.out b1 (by first | omega | (simp <;> omega))
  have c1_0_0 : w1.cell? ⟨w.heap.size, 0, none⟩ = some (.int .u8 k) := blk_cell g1_0 0
  have f1_0_0 : w1.frozen? ⟨w.heap.size, 0, none⟩ = false := blk_frozen g1_0 0
  have c1_0_1 : w1.cell? ⟨w.heap.size, 1, none⟩ = some (.int .i64 l) := blk_cell g1_0 1
  have f1_0_1 : w1.frozen? ⟨w.heap.size, 1, none⟩ = false := blk_frozen g1_0 1
  have G1_0 := Lib.hid g1_0
  have g1_1 : w1.heap[(w.heap.size + 1)]? = some (.cells #[.int .u8 0, .int .i64 0] 25 (0, 0)) := blk_below M1.out b1 (by first | omega | (simp <;> omega))
  have c1_1_0 : w1.cell? ⟨(w.heap.size + 1), 0, none⟩ = some (.int .u8 0) := blk_cell g1_1 0
  have f1_1_0 : w1.frozen? ⟨(w.heap.size + 1), 0, none⟩ = false := blk_frozen g1_1 0
  have c1_1_1 : w1.cell? ⟨(w.heap.size + 1), 1, none⟩ = some (.int .i64 0) := blk_cell g1_1 1
  have f1_1_1 : w1.frozen? ⟨(w.heap.size + 1), 1, none⟩ = false := blk_frozen g1_1 1
  have G1_1 := Lib.hid g1_1
  clear g1_0 g1_1
  go_wp2
  exact ret_row_tmp rfl (w.heap.size + 1) 25 _ _ rfl (blk_eq (blk_set (blk_set G1_1.out _ _) _ _) rfl) Tryd.underlying25 rfl (by kernel_rfl) rfl ⟨rfl, by repeat (first | exact Below.refl _ _ | refine Below.alloc ?_ (by first | omega | (simp <;> omega)) _ | refine Below.setCell ?_ (by first | omega | (simp <;> omega)) _ | refine Below.trans ?_ (b1.mono (by first | omega | (simp <;> omega))))⟩
theorem bd_bad_false (k l : Int) (h : mayB k l = false) (w : World) : Calls Tryd.prog 9 #[ph k l, .bool false] w fun e w' => e = .returned (.tuple #[ph 0 0, .int .u8 0]) ∧ Below w.heap.size w w' := by
  have n0 := blk_new (w) #[.int .u8 k, .int .i64 l] 25
  have n1 := blk_new ((w).alloc (.cells #[.int .u8 k, .int .i64 l] 25)) #[.int .u8 0, .int .i64 0] 25
  have m0 : (((w).alloc (.cells #[.int .u8 k, .int .i64 l] 25)).alloc (.cells #[.int .u8 0, .int .i64 0] 25)).heap[w.heap.size]? = some (.cells #[.int .u8 k, .int .i64 l] 25 (0, 0)) := by have := (blk_alloc n0 (.cells #[.int .u8 0, .int .i64 0] 25)); simpa using this
  have m1 : (((w).alloc (.cells #[.int .u8 k, .int .i64 l] 25)).alloc (.cells #[.int .u8 0, .int .i64 0] 25)).heap[(w.heap.size + 1)]? = some (.cells #[.int .u8 0, .int .i64 0] 25 (0, 0)) := by have := n1; simpa using this
  have hs0 : (((w).alloc (.cells #[.int .u8 k, .int .i64 l] 25)).alloc (.cells #[.int .u8 0, .int .i64 0] 25)).heap.size = w.heap.size + 2 := by simp
  clear n0 n1
  have M0 := Lib.hid m0
  have M1 := Lib.hid m1
  clear m0 m1
  go_enter Tryd.func9, Tryd.ntmps9
  go_wp2_with fail
  refine (Calls.mono (h ▸ may k l _) ?_)
  rintro e w1 ⟨rfl, b1⟩
  have z1 : w.heap.size + 2 ≤ w1.heap.size := by have := b1.size; first | omega | (simp at this; omega)
  have g1_0 : w1.heap[w.heap.size]? = some (.cells #[.int .u8 k, .int .i64 l] 25 (0, 0)) := blk_below M0.out b1 (by first | omega | (simp <;> omega))
  have c1_0_0 : w1.cell? ⟨w.heap.size, 0, none⟩ = some (.int .u8 k) := blk_cell g1_0 0
  have f1_0_0 : w1.frozen? ⟨w.heap.size, 0, none⟩ = false := blk_frozen g1_0 0
  have c1_0_1 : w1.cell? ⟨w.heap.size, 1, none⟩ = some (.int .i64 l) := blk_cell g1_0 1
  have f1_0_1 : w1.frozen? ⟨w.heap.size, 1, none⟩ = false := blk_frozen g1_0 1
  have G1_0 := Lib.hid g1_0
  have g1_1 : w1.heap[(w.heap.size + 1)]? = some (.cells #[.int .u8 0, .int .i64 0] 25 (0, 0)) := blk_below M1.out b1 (by first | omega | (simp <;> omega))
  have c1_1_0 : w1.cell? ⟨(w.heap.size + 1), 0, none⟩ = some (.int .u8 0) := blk_cell g1_1 0
  have f1_1_0 : w1.frozen? ⟨(w.heap.size + 1), 0, none⟩ = false := blk_frozen g1_1 0
  have c1_1_1 : w1.cell? ⟨(w.heap.size + 1), 1, none⟩ = some (.int .i64 0) := blk_cell g1_1 1
  have f1_1_1 : w1.frozen? ⟨(w.heap.size + 1), 1, none⟩ = false := blk_frozen g1_1 1
  have G1_1 := Lib.hid g1_1
  clear g1_0 g1_1
  go_wp2
  exact ret_row_tmp rfl (w.heap.size + 1) 25 _ _ rfl (blk_eq (blk_set (blk_set G1_1.out _ _) _ _) rfl) Tryd.underlying25 rfl (by kernel_rfl) rfl ⟨rfl, by repeat (first | exact Below.refl _ _ | refine Below.alloc ?_ (by first | omega | (simp <;> omega)) _ | refine Below.setCell ?_ (by first | omega | (simp <;> omega)) _ | refine Below.trans ?_ (b1.mono (by first | omega | (simp <;> omega))))⟩
end Go.Proofs.YtojielokkpmjeaaDoor.tr
