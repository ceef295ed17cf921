/- For every input the law TrialPhases returns true, and the input reads as it did; the tied card. -/
import Derived.Test.YtojielokkpmjeaaDoorCards
import Derived.Test.YtojielokkpmjeaaDoorTie
import Derived.Test.YtojielokkpmjeaaDoorTrialI
import Derived.Lib.SmallJoins
import Derived.DataShut
import Derived.OpenShut
import Derived.Deep.DeepHandedRow
import Derived.Lib.LaidTab
namespace Go.Proofs.YtojielokkpmjeaaDoor.trialPhases
open Go Go.ChangeShapes Go.WideShapes Go.ChangeAt Go.RowKit Go.Proofs.YtojielokkpmjeaaDoor.tr
set_option maxRecDepth 100000 in
set_option maxHeartbeats 4000000 in
theorem law (k l n : Int) (g : Bool) (h0 : 0 ≤ k) (h1 : k ≤ 255) (w : World) : Calls Tryd.prog 5 #[ph k l, .int .i64 n, .bool g] w fun e w' => e = .returned (.bool true) ∧ Below w.heap.size w w' := by
  have A0 := as_any k l h0 h1
  have A1 := commit k l n
  have A2 := rcommit k l n
  have A3 := boundary k l g
  have A4 := rboundary k l g
  have e1 := cm_bound k l n
  have e2 := bd_bound k l g
  have A5 := may k l
  have A6 := rmay k l
  have A7 := text k l
  have A8 := rtext k l
  generalize cmR k l n = r at A1 A2 e1
  generalize bdR k l g = t at A3 A4 e2
  generalize mayB k l = m at A5 A6
  generalize textB k l = x at A7 A8
  obtain ⟨r0, r1, r2⟩ := r
  obtain ⟨t0, t1, t2⟩ := t
  simp only at A1 A2 A3 A4 e1 e2
  obtain ⟨e3, e4⟩ := e1
  obtain ⟨e5, e6, e7, e8⟩ := e2
  have A9 := as_any r0 r1 e3 (by omega)
  have A10 := as_any t0 t1 e5 (by omega)
  have H0 := Lib.hid A0; clear A0
  have H1 := Lib.hid A1; clear A1
  have H2 := Lib.hid A2; clear A2
  have H3 := Lib.hid A3; clear A3
  have H4 := Lib.hid A4; clear A4
  have H5 := Lib.hid A5; clear A5
  have H6 := Lib.hid A6; clear A6
  have H7 := Lib.hid A7; clear A7
  have H8 := Lib.hid A8; clear A8
  have H9 := Lib.hid A9; clear A9
  have H10 := Lib.hid A10; clear A10
  go_enter Tryd.func5, Tryd.ntmps5
  go_wp2_with fail
  refine Calls.mono (H0.out _) ?_
  rintro e w1 ⟨rfl, b1⟩
  have z1 : w.heap.size ≤ w1.heap.size := by have := b1.size; first | omega | (simp at this; omega)
  have h1_0 : w1.heap[w.heap.size]? = some (.cells #[.int .u8 k, .int .i64 l] 25 (0, 0)) := blk_step (blk_new w _ _) b1
  have c1_0_0 : w1.cell? ⟨w.heap.size, 0, none⟩ = some (.int .u8 k) := blk_cell h1_0 0
  have c1_0_1 : w1.cell? ⟨w.heap.size, 1, none⟩ = some (.int .i64 l) := blk_cell h1_0 1
  have p1_0_0 : (w1.alloc (.cells #[.int .i64 k, .int .i64 l] 36)).cell? ⟨w.heap.size, 0, none⟩ = some (.int .u8 k) := blk_cell (blk_alloc h1_0 _) 0
  have p1_0_1 : (w1.alloc (.cells #[.int .i64 k, .int .i64 l] 36)).cell? ⟨w.heap.size, 1, none⟩ = some (.int .i64 l) := blk_cell (blk_alloc h1_0 _) 1
  go_wp2_with fail
  refine Calls.mono (H1.out _) ?_
  rintro e w2 ⟨rfl, b2⟩
  have z2 : w.heap.size ≤ w2.heap.size := by have := b2.size; first | omega | (simp at this; omega)
  have h2_0 : w2.heap[w.heap.size]? = some (.cells #[.int .u8 k, .int .i64 l] 25 (0, 0)) := blk_step (blk_alloc h1_0 _) b2
  have c2_0_0 : w2.cell? ⟨w.heap.size, 0, none⟩ = some (.int .u8 k) := blk_cell h2_0 0
  have c2_0_1 : w2.cell? ⟨w.heap.size, 1, none⟩ = some (.int .i64 l) := blk_cell h2_0 1
  have h2_1 : w2.heap[w1.heap.size]? = some (.cells #[.int .i64 k, .int .i64 l] 36 (0, 0)) := blk_step (blk_new w1 _ _) b2
  have c2_1_0 : w2.cell? ⟨w1.heap.size, 0, none⟩ = some (.int .i64 k) := blk_cell h2_1 0
  have c2_1_1 : w2.cell? ⟨w1.heap.size, 1, none⟩ = some (.int .i64 l) := blk_cell h2_1 1
  clear c1_0_0 c1_0_1 h1_0
  have p2_0_0 : (w2.alloc (.cells #[.int .u8 r0, .int .i64 r1] 25)).cell? ⟨w.heap.size, 0, none⟩ = some (.int .u8 k) := blk_cell (blk_alloc h2_0 _) 0
  have p2_0_1 : (w2.alloc (.cells #[.int .u8 r0, .int .i64 r1] 25)).cell? ⟨w.heap.size, 1, none⟩ = some (.int .i64 l) := blk_cell (blk_alloc h2_0 _) 1
  have p2_1_0 : (w2.alloc (.cells #[.int .u8 r0, .int .i64 r1] 25)).cell? ⟨w1.heap.size, 0, none⟩ = some (.int .i64 k) := blk_cell (blk_alloc h2_1 _) 0
  have p2_1_1 : (w2.alloc (.cells #[.int .u8 r0, .int .i64 r1] 25)).cell? ⟨w1.heap.size, 1, none⟩ = some (.int .i64 l) := blk_cell (blk_alloc h2_1 _) 1
  go_wp2_with fail
  refine Calls.mono (H2.out _) ?_
  rintro e w3 ⟨rfl, b3⟩
  have z3 : w.heap.size ≤ w3.heap.size := by have := b3.size; first | omega | (simp at this; omega)
  have h3_0 : w3.heap[w.heap.size]? = some (.cells #[.int .u8 k, .int .i64 l] 25 (0, 0)) := blk_step (blk_alloc h2_0 _) b3
  have c3_0_0 : w3.cell? ⟨w.heap.size, 0, none⟩ = some (.int .u8 k) := blk_cell h3_0 0
  have c3_0_1 : w3.cell? ⟨w.heap.size, 1, none⟩ = some (.int .i64 l) := blk_cell h3_0 1
  have h3_1 : w3.heap[w1.heap.size]? = some (.cells #[.int .i64 k, .int .i64 l] 36 (0, 0)) := blk_step (blk_alloc h2_1 _) b3
  have c3_1_0 : w3.cell? ⟨w1.heap.size, 0, none⟩ = some (.int .i64 k) := blk_cell h3_1 0
  have c3_1_1 : w3.cell? ⟨w1.heap.size, 1, none⟩ = some (.int .i64 l) := blk_cell h3_1 1
  have h3_2 : w3.heap[w2.heap.size]? = some (.cells #[.int .u8 r0, .int .i64 r1] 25 (0, 0)) := blk_step (blk_new w2 _ _) b3
  have c3_2_0 : w3.cell? ⟨w2.heap.size, 0, none⟩ = some (.int .u8 r0) := blk_cell h3_2 0
  have c3_2_1 : w3.cell? ⟨w2.heap.size, 1, none⟩ = some (.int .i64 r1) := blk_cell h3_2 1
  clear c2_0_0 c2_0_1 c2_1_0 c2_1_1 h2_0 h2_1
  have p3_0_0 : (w3.alloc (.cells #[.int .i64 r0, .int .i64 r1] 36)).cell? ⟨w.heap.size, 0, none⟩ = some (.int .u8 k) := blk_cell (blk_alloc h3_0 _) 0
  have p3_0_1 : (w3.alloc (.cells #[.int .i64 r0, .int .i64 r1] 36)).cell? ⟨w.heap.size, 1, none⟩ = some (.int .i64 l) := blk_cell (blk_alloc h3_0 _) 1
  have p3_1_0 : (w3.alloc (.cells #[.int .i64 r0, .int .i64 r1] 36)).cell? ⟨w1.heap.size, 0, none⟩ = some (.int .i64 k) := blk_cell (blk_alloc h3_1 _) 0
  have p3_1_1 : (w3.alloc (.cells #[.int .i64 r0, .int .i64 r1] 36)).cell? ⟨w1.heap.size, 1, none⟩ = some (.int .i64 l) := blk_cell (blk_alloc h3_1 _) 1
  have p3_2_0 : (w3.alloc (.cells #[.int .i64 r0, .int .i64 r1] 36)).cell? ⟨w2.heap.size, 0, none⟩ = some (.int .u8 r0) := blk_cell (blk_alloc h3_2 _) 0
  have p3_2_1 : (w3.alloc (.cells #[.int .i64 r0, .int .i64 r1] 36)).cell? ⟨w2.heap.size, 1, none⟩ = some (.int .i64 r1) := blk_cell (blk_alloc h3_2 _) 1
  go_wp2_with fail
  refine Calls.mono (H3.out _) ?_
  rintro e w4 ⟨rfl, b4⟩
  have z4 : w.heap.size ≤ w4.heap.size := by have := b4.size; first | omega | (simp at this; omega)
  have h4_0 : w4.heap[w.heap.size]? = some (.cells #[.int .u8 k, .int .i64 l] 25 (0, 0)) := blk_step (blk_alloc h3_0 _) b4
  have c4_0_0 : w4.cell? ⟨w.heap.size, 0, none⟩ = some (.int .u8 k) := blk_cell h4_0 0
  have c4_0_1 : w4.cell? ⟨w.heap.size, 1, none⟩ = some (.int .i64 l) := blk_cell h4_0 1
  have h4_1 : w4.heap[w1.heap.size]? = some (.cells #[.int .i64 k, .int .i64 l] 36 (0, 0)) := blk_step (blk_alloc h3_1 _) b4
  have c4_1_0 : w4.cell? ⟨w1.heap.size, 0, none⟩ = some (.int .i64 k) := blk_cell h4_1 0
  have c4_1_1 : w4.cell? ⟨w1.heap.size, 1, none⟩ = some (.int .i64 l) := blk_cell h4_1 1
  have h4_2 : w4.heap[w2.heap.size]? = some (.cells #[.int .u8 r0, .int .i64 r1] 25 (0, 0)) := blk_step (blk_alloc h3_2 _) b4
  have c4_2_0 : w4.cell? ⟨w2.heap.size, 0, none⟩ = some (.int .u8 r0) := blk_cell h4_2 0
  have c4_2_1 : w4.cell? ⟨w2.heap.size, 1, none⟩ = some (.int .i64 r1) := blk_cell h4_2 1
  have h4_3 : w4.heap[w3.heap.size]? = some (.cells #[.int .i64 r0, .int .i64 r1] 36 (0, 0)) := blk_step (blk_new w3 _ _) b4
  have c4_3_0 : w4.cell? ⟨w3.heap.size, 0, none⟩ = some (.int .i64 r0) := blk_cell h4_3 0
  have c4_3_1 : w4.cell? ⟨w3.heap.size, 1, none⟩ = some (.int .i64 r1) := blk_cell h4_3 1
  clear c3_0_0 c3_0_1 c3_1_0 c3_1_1 c3_2_0 c3_2_1 h3_0 h3_1 h3_2
  have p4_0_0 : (w4.alloc (.cells #[.int .u8 t0, .int .i64 t1] 25)).cell? ⟨w.heap.size, 0, none⟩ = some (.int .u8 k) := blk_cell (blk_alloc h4_0 _) 0
  have p4_0_1 : (w4.alloc (.cells #[.int .u8 t0, .int .i64 t1] 25)).cell? ⟨w.heap.size, 1, none⟩ = some (.int .i64 l) := blk_cell (blk_alloc h4_0 _) 1
  have p4_1_0 : (w4.alloc (.cells #[.int .u8 t0, .int .i64 t1] 25)).cell? ⟨w1.heap.size, 0, none⟩ = some (.int .i64 k) := blk_cell (blk_alloc h4_1 _) 0
  have p4_1_1 : (w4.alloc (.cells #[.int .u8 t0, .int .i64 t1] 25)).cell? ⟨w1.heap.size, 1, none⟩ = some (.int .i64 l) := blk_cell (blk_alloc h4_1 _) 1
  have p4_2_0 : (w4.alloc (.cells #[.int .u8 t0, .int .i64 t1] 25)).cell? ⟨w2.heap.size, 0, none⟩ = some (.int .u8 r0) := blk_cell (blk_alloc h4_2 _) 0
  have p4_2_1 : (w4.alloc (.cells #[.int .u8 t0, .int .i64 t1] 25)).cell? ⟨w2.heap.size, 1, none⟩ = some (.int .i64 r1) := blk_cell (blk_alloc h4_2 _) 1
  have p4_3_0 : (w4.alloc (.cells #[.int .u8 t0, .int .i64 t1] 25)).cell? ⟨w3.heap.size, 0, none⟩ = some (.int .i64 r0) := blk_cell (blk_alloc h4_3 _) 0
  have p4_3_1 : (w4.alloc (.cells #[.int .u8 t0, .int .i64 t1] 25)).cell? ⟨w3.heap.size, 1, none⟩ = some (.int .i64 r1) := blk_cell (blk_alloc h4_3 _) 1
  go_wp2_with fail
  refine Calls.mono (H4.out _) ?_
  rintro e w5 ⟨rfl, b5⟩
  have z5 : w.heap.size ≤ w5.heap.size := by have := b5.size; first | omega | (simp at this; omega)
  have h5_0 : w5.heap[w.heap.size]? = some (.cells #[.int .u8 k, .int .i64 l] 25 (0, 0)) := blk_step (blk_alloc h4_0 _) b5
  have c5_0_0 : w5.cell? ⟨w.heap.size, 0, none⟩ = some (.int .u8 k) := blk_cell h5_0 0
  have c5_0_1 : w5.cell? ⟨w.heap.size, 1, none⟩ = some (.int .i64 l) := blk_cell h5_0 1
  have h5_1 : w5.heap[w1.heap.size]? = some (.cells #[.int .i64 k, .int .i64 l] 36 (0, 0)) := blk_step (blk_alloc h4_1 _) b5
  have c5_1_0 : w5.cell? ⟨w1.heap.size, 0, none⟩ = some (.int .i64 k) := blk_cell h5_1 0
  have c5_1_1 : w5.cell? ⟨w1.heap.size, 1, none⟩ = some (.int .i64 l) := blk_cell h5_1 1
  have h5_2 : w5.heap[w2.heap.size]? = some (.cells #[.int .u8 r0, .int .i64 r1] 25 (0, 0)) := blk_step (blk_alloc h4_2 _) b5
  have c5_2_0 : w5.cell? ⟨w2.heap.size, 0, none⟩ = some (.int .u8 r0) := blk_cell h5_2 0
  have c5_2_1 : w5.cell? ⟨w2.heap.size, 1, none⟩ = some (.int .i64 r1) := blk_cell h5_2 1
  have h5_3 : w5.heap[w3.heap.size]? = some (.cells #[.int .i64 r0, .int .i64 r1] 36 (0, 0)) := blk_step (blk_alloc h4_3 _) b5
  have c5_3_0 : w5.cell? ⟨w3.heap.size, 0, none⟩ = some (.int .i64 r0) := blk_cell h5_3 0
  have c5_3_1 : w5.cell? ⟨w3.heap.size, 1, none⟩ = some (.int .i64 r1) := blk_cell h5_3 1
  have h5_4 : w5.heap[w4.heap.size]? = some (.cells #[.int .u8 t0, .int .i64 t1] 25 (0, 0)) := blk_step (blk_new w4 _ _) b5
  have c5_4_0 : w5.cell? ⟨w4.heap.size, 0, none⟩ = some (.int .u8 t0) := blk_cell h5_4 0
  have c5_4_1 : w5.cell? ⟨w4.heap.size, 1, none⟩ = some (.int .i64 t1) := blk_cell h5_4 1
  clear c4_0_0 c4_0_1 c4_1_0 c4_1_1 c4_2_0 c4_2_1 c4_3_0 c4_3_1 h4_0 h4_1 h4_2 h4_3
  have p5_0_0 : (w5.alloc (.cells #[.int .i64 t0, .int .i64 t1] 36)).cell? ⟨w.heap.size, 0, none⟩ = some (.int .u8 k) := blk_cell (blk_alloc h5_0 _) 0
  have p5_0_1 : (w5.alloc (.cells #[.int .i64 t0, .int .i64 t1] 36)).cell? ⟨w.heap.size, 1, none⟩ = some (.int .i64 l) := blk_cell (blk_alloc h5_0 _) 1
  have p5_1_0 : (w5.alloc (.cells #[.int .i64 t0, .int .i64 t1] 36)).cell? ⟨w1.heap.size, 0, none⟩ = some (.int .i64 k) := blk_cell (blk_alloc h5_1 _) 0
  have p5_1_1 : (w5.alloc (.cells #[.int .i64 t0, .int .i64 t1] 36)).cell? ⟨w1.heap.size, 1, none⟩ = some (.int .i64 l) := blk_cell (blk_alloc h5_1 _) 1
  have p5_2_0 : (w5.alloc (.cells #[.int .i64 t0, .int .i64 t1] 36)).cell? ⟨w2.heap.size, 0, none⟩ = some (.int .u8 r0) := blk_cell (blk_alloc h5_2 _) 0
  have p5_2_1 : (w5.alloc (.cells #[.int .i64 t0, .int .i64 t1] 36)).cell? ⟨w2.heap.size, 1, none⟩ = some (.int .i64 r1) := blk_cell (blk_alloc h5_2 _) 1
  have p5_3_0 : (w5.alloc (.cells #[.int .i64 t0, .int .i64 t1] 36)).cell? ⟨w3.heap.size, 0, none⟩ = some (.int .i64 r0) := blk_cell (blk_alloc h5_3 _) 0
  have p5_3_1 : (w5.alloc (.cells #[.int .i64 t0, .int .i64 t1] 36)).cell? ⟨w3.heap.size, 1, none⟩ = some (.int .i64 r1) := blk_cell (blk_alloc h5_3 _) 1
  have p5_4_0 : (w5.alloc (.cells #[.int .i64 t0, .int .i64 t1] 36)).cell? ⟨w4.heap.size, 0, none⟩ = some (.int .u8 t0) := blk_cell (blk_alloc h5_4 _) 0
  have p5_4_1 : (w5.alloc (.cells #[.int .i64 t0, .int .i64 t1] 36)).cell? ⟨w4.heap.size, 1, none⟩ = some (.int .i64 t1) := blk_cell (blk_alloc h5_4 _) 1
  have x0 : (w5.alloc (.cells #[.int .i64 t0, .int .i64 t1] 36)).heap[w.heap.size]? = some (.cells #[.int .u8 k, .int .i64 l] 25 (0, 0)) := (blk_alloc h5_0 _)
  have x1 : (w5.alloc (.cells #[.int .i64 t0, .int .i64 t1] 36)).heap[w1.heap.size]? = some (.cells #[.int .i64 k, .int .i64 l] 36 (0, 0)) := (blk_alloc h5_1 _)
  have x2 : (w5.alloc (.cells #[.int .i64 t0, .int .i64 t1] 36)).heap[w2.heap.size]? = some (.cells #[.int .u8 r0, .int .i64 r1] 25 (0, 0)) := (blk_alloc h5_2 _)
  have x3 : (w5.alloc (.cells #[.int .i64 t0, .int .i64 t1] 36)).heap[w3.heap.size]? = some (.cells #[.int .i64 r0, .int .i64 r1] 36 (0, 0)) := (blk_alloc h5_3 _)
  have x4 : (w5.alloc (.cells #[.int .i64 t0, .int .i64 t1] 36)).heap[w4.heap.size]? = some (.cells #[.int .u8 t0, .int .i64 t1] 25 (0, 0)) := (blk_alloc h5_4 _)
  have x5 : (w5.alloc (.cells #[.int .i64 t0, .int .i64 t1] 36)).heap[w5.heap.size]? = some (.cells #[.int .i64 t0, .int .i64 t1] 36 (0, 0)) := (blk_new w5 _ _)
  have hWb : Below w.heap.size w (w5.alloc (.cells #[.int .i64 t0, .int .i64 t1] 36)) := by repeat (first | refine Below.trans ?_ (b5.mono (by first | omega | (simp <;> omega))) | refine Below.trans ?_ (b4.mono (by first | omega | (simp <;> omega))) | refine Below.trans ?_ (b3.mono (by first | omega | (simp <;> omega))) | refine Below.trans ?_ (b2.mono (by first | omega | (simp <;> omega))) | refine Below.trans ?_ (b1.mono (by first | omega | (simp <;> omega))) | exact Below.refl _ _ | refine Below.alloc ?_ (by first | omega | (simp <;> omega)) _ | refine Below.drew ?_)
  have hWz : w.heap.size ≤ (w5.alloc (.cells #[.int .i64 t0, .int .i64 t1] 36)).heap.size := by have := hWb.size; exact this
  go_wp2_with fail
  generalize (w5.alloc (.cells #[.int .i64 t0, .int .i64 t1] 36)) = W at *
  have y0_0 : ∀ x : Ext W.heap.size W, x.world.cell? ⟨w.heap.size, 0, none⟩ = some (.int .u8 k) := fun x => (x.cell _ _ (blk_lt x0)).trans (blk_cell x0 0)
  have y0_1 : ∀ x : Ext W.heap.size W, x.world.cell? ⟨w.heap.size, 1, none⟩ = some (.int .i64 l) := fun x => (x.cell _ _ (blk_lt x0)).trans (blk_cell x0 1)
  have y1_0 : ∀ x : Ext W.heap.size W, x.world.cell? ⟨w1.heap.size, 0, none⟩ = some (.int .i64 k) := fun x => (x.cell _ _ (blk_lt x1)).trans (blk_cell x1 0)
  have y1_1 : ∀ x : Ext W.heap.size W, x.world.cell? ⟨w1.heap.size, 1, none⟩ = some (.int .i64 l) := fun x => (x.cell _ _ (blk_lt x1)).trans (blk_cell x1 1)
  have y2_0 : ∀ x : Ext W.heap.size W, x.world.cell? ⟨w2.heap.size, 0, none⟩ = some (.int .u8 r0) := fun x => (x.cell _ _ (blk_lt x2)).trans (blk_cell x2 0)
  have y2_1 : ∀ x : Ext W.heap.size W, x.world.cell? ⟨w2.heap.size, 1, none⟩ = some (.int .i64 r1) := fun x => (x.cell _ _ (blk_lt x2)).trans (blk_cell x2 1)
  have y3_0 : ∀ x : Ext W.heap.size W, x.world.cell? ⟨w3.heap.size, 0, none⟩ = some (.int .i64 r0) := fun x => (x.cell _ _ (blk_lt x3)).trans (blk_cell x3 0)
  have y3_1 : ∀ x : Ext W.heap.size W, x.world.cell? ⟨w3.heap.size, 1, none⟩ = some (.int .i64 r1) := fun x => (x.cell _ _ (blk_lt x3)).trans (blk_cell x3 1)
  have y4_0 : ∀ x : Ext W.heap.size W, x.world.cell? ⟨w4.heap.size, 0, none⟩ = some (.int .u8 t0) := fun x => (x.cell _ _ (blk_lt x4)).trans (blk_cell x4 0)
  have y4_1 : ∀ x : Ext W.heap.size W, x.world.cell? ⟨w4.heap.size, 1, none⟩ = some (.int .i64 t1) := fun x => (x.cell _ _ (blk_lt x4)).trans (blk_cell x4 1)
  have y5_0 : ∀ x : Ext W.heap.size W, x.world.cell? ⟨w5.heap.size, 0, none⟩ = some (.int .i64 t0) := fun x => (x.cell _ _ (blk_lt x5)).trans (blk_cell x5 0)
  have y5_1 : ∀ x : Ext W.heap.size W, x.world.cell? ⟨w5.heap.size, 1, none⟩ = some (.int .i64 t1) := fun x => (x.cell _ _ (blk_lt x5)).trans (blk_cell x5 1)
  clear x0 x1 x2 x3 x4 x5
  refine region_ext (by kernel_rfl) (by kernel_rfl) ?_
  repeat (go_big_quiet_step (exact calls_ext (Nat.le_refl _) (by first | exact H5.out _ | exact H6.out _ | exact H7.out _ | exact H8.out _ | exact H9.out _ | exact H10.out _)))
  refine wpQuiet_nil ?_
  intro x
  go_wp2
  go_ret
  exact ⟨rfl, hWb.trans (x.below.mono hWz)⟩
theorem own : ownKnob Tryd.prog.godebug = none := by kernel_rfl
theorem laidOut : laidOutB Tryd.prog = true := by kernel_rfl
theorem contract (H : Type) (enc : TypeId × Value → H) (W : World) (base : Nat) (args : Array Value) (ds gs : List (DataW H)) (before : List MemPlace)
    (hval : ∀ (j : Nat) t v, Tryd.f5.params[j]? = some t → args[j]? = some v → Value.okWide Tryd.prog W .any base t v)
    (hW : DataW.Whole enc Tryd.prog Tryd.f5.params.toList Rows.trialPhasesSpec.vars false W args.toList ds gs before) :
    Calls Tryd.prog 5 args W fun e W' => ∃ v, e = .returned v ∧ Rows.trialPhasesSpec.post enc Tryd.prog Tryd.f5 false true false false W args v W' := by
  have hW' := hW
  obtain ⟨p, q, hA0, hV, rfl, _, _⟩ := hW
  have hA : DataW.TrodAll enc Tryd.prog W 0 (fun _ => true) true Tryd.f5.params.toList args.toList ds p := hA0
  rw [Tryd.params5] at hA hval
  obtain ⟨v0, vs0, d0, ds0, p0, q0, hargs, rfl, rfl, h0, r0⟩ := trodAll_cons hA
  obtain ⟨v1, vs1, d1, ds1, p1, q1, rfl, rfl, rfl, h1, r1⟩ := trodAll_cons r0
  obtain ⟨v2, vs2, d2, ds2, p2, q2, rfl, rfl, rfl, h2, r2⟩ := trodAll_cons r1
  obtain ⟨rfl, rfl, rfl⟩ := trodAll_nil r2
  obtain rfl : args = #[v0, v1, v2] := by cases args; simp_all
  obtain ⟨rfl, rfl⟩ := trodVars_none hV
  obtain ⟨u0, u1, y0, y1, n0, rfl, rfl, rfl, g0, g1⟩ := Go.Joins.open_agg2 Tryd.underlying25 (by kernel_rfl) (by kernel_rfl) (hval 0 25 v0 rfl rfl) h0
  obtain ⟨k, hk, hy0, hw0⟩ := DataW.trod_int Tryd.underlying5 g0
  obtain ⟨l, hl, hy1, hw1⟩ := DataW.trod_int Tryd.underlying3 g1
  obtain rfl : u0 = .int .u8 k := by simpa using hk
  obtain rfl : u1 = .int .i64 l := by simpa using hl
  have hkb : 0 ≤ k ∧ k ≤ 255 := (Lit.wf_int_iff .u8 k).1 hw0
  obtain ⟨n, rfl, rfl, rfl, _⟩ := open_int Tryd.underlying3 (hval 1 3 v1 rfl rfl) h1
  obtain ⟨g, rfl, rfl, rfl⟩ := open_bool Tryd.underlying4 (hval 2 4 v2 rfl rfl) h2
  refine (law k l n g hkb.1 hkb.2 W).mono fun e W' ⟨he, hb⟩ => ?_
  subst he
  exact ⟨_, rfl, law_post laidOut (by decide +kernel) rfl Tryd.underlying4 rfl rfl hW' hb⟩
noncomputable def laidWorld (os : Os) : World :=
  { World.holding Tryd.prog os ⟨#[], #[], []⟩ with heap := ((((World.holding Tryd.prog os ⟨#[], #[], []⟩).heap.modify 0 fun | .cells _ t frozen => .cells #[.int .u64 1, .int .u64 10, .int .u64 100, .int .u64 1000, .int .u64 10000, .int .u64 100000, .int .u64 1000000, .int .u64 10000000, .int .u64 100000000, .int .u64 1000000000, .int .u64 10000000000, .int .u64 100000000000, .int .u64 1000000000000, .int .u64 10000000000000, .int .u64 100000000000000, .int .u64 1000000000000000, .int .u64 10000000000000000, .int .u64 100000000000000000, .int .u64 1000000000000000000, .int .u64 10000000000000000000] t frozen | o => o).modify 1 fun | .cells _ t frozen => .cells #[.int .u8 0, .int .u8 1, .int .u8 28, .int .u8 2, .int .u8 29, .int .u8 14, .int .u8 24, .int .u8 3, .int .u8 30, .int .u8 22, .int .u8 20, .int .u8 15, .int .u8 25, .int .u8 17, .int .u8 4, .int .u8 8, .int .u8 31, .int .u8 27, .int .u8 13, .int .u8 23, .int .u8 21, .int .u8 19, .int .u8 16, .int .u8 7, .int .u8 26, .int .u8 12, .int .u8 18, .int .u8 6, .int .u8 11, .int .u8 5, .int .u8 10, .int .u8 9] t frozen | o => o).modify 2 fun | .cells _ t frozen => .cells #[.int .u8 0, .int .u8 1, .int .u8 56, .int .u8 2, .int .u8 57, .int .u8 49, .int .u8 28, .int .u8 3, .int .u8 61, .int .u8 58, .int .u8 42, .int .u8 50, .int .u8 38, .int .u8 29, .int .u8 17, .int .u8 4, .int .u8 62, .int .u8 47, .int .u8 59, .int .u8 36, .int .u8 45, .int .u8 43, .int .u8 51, .int .u8 22, .int .u8 53, .int .u8 39, .int .u8 33, .int .u8 30, .int .u8 24, .int .u8 18, .int .u8 12, .int .u8 5, .int .u8 63, .int .u8 55, .int .u8 48, .int .u8 27, .int .u8 60, .int .u8 41, .int .u8 37, .int .u8 16, .int .u8 46, .int .u8 35, .int .u8 44, .int .u8 21, .int .u8 52, .int .u8 32, .int .u8 23, .int .u8 11, .int .u8 54, .int .u8 26, .int .u8 40, .int .u8 15, .int .u8 34, .int .u8 20, .int .u8 31, .int .u8 10, .int .u8 25, .int .u8 14, .int .u8 19, .int .u8 9, .int .u8 13, .int .u8 8, .int .u8 7, .int .u8 6] t frozen | o => o) }
theorem laid_met (os : Os) : laidMet Tryd.prog Rows.trialPhasesRow.laid ((laidWorld os).forCall (fun _ _ => 0) ⟨#[], #[.agg #[.int .u8 0, .int .i64 0], .int .i64 0, .bool false], []⟩).memory :=
  laidMet_of_run' 8 (by kernel_rfl) (by kernel_rfl)
theorem reads (os : Os) {H : Type} (enc : TypeId × Value → H) : ∃ places, DataW.whole enc Tryd.prog ((laidWorld os).forCall (fun _ _ => 0) ⟨#[], #[.agg #[.int .u8 0, .int .i64 0], .int .i64 0, .bool false], []⟩).memory Tryd.f5.params.toList Rows.trialPhasesSpec.vars false (#[.agg #[.int .u8 0, .int .i64 0], .int .i64 0, .bool false] : Array Value).toList 8 = some ([.agg [.lit (.int .u8 0), .lit (.int .i64 0)], .lit (.int .i64 0), .lit (.bool false)], [], places) :=
  ⟨[], by kernel_rfl⟩
set_option maxRecDepth 100000 in
theorem lifted (os : Os) (started : os.Started) (H : Type) (enc : TypeId × Value → H) (F : Stop.Interp) :
    ReturnsInHanded {} Tryd.checked os 5 .any ((OpenSpec.ofChange Rows.trialPhasesSpec).preRow enc Tryd.prog Tryd.f5 Rows.trialPhasesRow.domain false Rows.trialPhasesRow.laid) (((OpenSpec.ofChange Rows.trialPhasesSpec).at F).post enc Tryd.prog Tryd.f5 false true false false) := by
  obtain ⟨places, hx⟩ := reads os enc
  refine returnsInHanded_of_row (C := Tryd.checked) (s := OpenSpec.ofChange Rows.trialPhasesSpec) own started (by kernel_rfl) Tryd.func5
    (witness_row_at (enc := enc) (C := Tryd.checked) false (laidWorld os) #[.agg #[.int .u8 0, .int .i64 0], .int .i64 0, .bool false] rfl (by kernel_rfl) (by kernel_rfl) (by kernel_rfl)
      (OpenSpec.preRow_of_cond 8 hx (by kernel_rfl) (fun k hk => by cases hk) (by kernel_rfl) (laid_met os))) ?_
  intro W base args ds gs before hval hW _ _ _ hL _ _
  exact contract H enc W base args ds gs before hval hW
theorem said : Rows.TrialPhasesSaid :=
  OpenClaim.holds_of_cond 5 Tryd.f5 rfl rfl rfl rfl rfl rfl rfl ⟨rfl, rfl, rfl, rfl, rfl⟩ rfl rfl rfl rfl rfl (by kernel_rfl) Tryd.func5 (by kernel_rfl)
    (of_decide_eq_true (by kernel_rfl)) (by unfold Func.isWrapper; first | (rw [if_pos (by decide +kernel)]; kernel_rfl) | (rw [if_neg (by decide +kernel)]; exact ⟨rfl, rfl⟩))
    (fun os started H enc _ F => by rw [OpenClaim.pre_eq_preRow]; exact lifted os started H enc F)
theorem plain (f : FuncId) (fn : Func) (hf : Tryd.pinned.checked.prog.funcNamed "citadel/citadellaw28.TrialPhases" = some f) (hfn : Tryd.pinned.checked.prog.funcs[f]? = some fn) :
    false = Tryd.pinned.checked.prog.looks [] ∧ ∀ (j : Nat) t, fn.params[j]? = some t → Tryd.pinned.checked.prog.wantsStandIn t = false := by
  obtain rfl : f = 5 := Option.some.inj ((show Tryd.prog.funcNamed "citadel/citadellaw28.TrialPhases" = some 5 by kernel_rfl).symm.trans hf) |>.symm
  obtain rfl : fn = Tryd.f5 := (Option.some.inj (Tryd.func5.symm.trans hfn)).symm
  refine ⟨by kernel_rfl, fun j t ht => ?_⟩
  rw [Tryd.params5] at ht
  have hm := Array.mem_of_getElem? ht
  simp at hm
  rcases hm with rfl | rfl | rfl
  · exact (show Tryd.prog.wantsStandIn 25 = false by kernel_rfl)
  · exact (show Tryd.prog.wantsStandIn 3 = false by kernel_rfl)
  · exact (show Tryd.prog.wantsStandIn 4 = false by kernel_rfl)
theorem proved : Rows.TrialPhasesCardSaid :=
  Claim7.holds_tied_plain_at .later [] _ _ _ _ said (fun _ h => by cases h) (by kernel_rfl) (fun _ h => by cases h) trialPhases_row_tie rfl ⟨rfl, rfl⟩ (by kernel_rfl) rfl plain (by kernel_rfl)
end Go.Proofs.YtojielokkpmjeaaDoor.trialPhases
