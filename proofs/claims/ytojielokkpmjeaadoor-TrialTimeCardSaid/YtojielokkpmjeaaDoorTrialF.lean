/- trial.Boot; the law's awake (printed by gen_trial_awake.py). -/
import Derived.Test.YtojielokkpmjeaaDoorRows
import Derived.Test.YtojielokkpmjeaaDoorTrialE
import Derived.Deep.RegionWith
namespace Go.Proofs.YtojielokkpmjeaaDoor.tr
open Go Go.ChangeShapes Go.WideShapes Go.ChangeAt Go.RowKit
theorem blk_step {w0 w1 : World} {g : Nat} {o : Obj} (h : w0.heap[g]? = some o) (hb : Below w0.heap.size w0 w1) : w1.heap[g]? = some o := blk_below h hb (Array.getElem?_eq_some_iff.1 h).1
def bootR (on : Bool) (n a : Int) : Int × Int × Int :=
  if on = false then (0, 0, 0) else if 3 ≤ a ∨ ¬ (1 ≤ n ∧ n ≤ 8) then (0, 0, 4) else (2, n, 1)
def bootV (k : IntKind) (s : IntKind) (r : Int × Int × Int) : Value := .tuple #[.agg #[.int k r.1, .int .i64 r.2.1], .int s r.2.2]
theorem bootR_off (n a : Int) : bootR false n a = (0, 0, 0) := rfl
theorem bootR_back (n a : Int) (h : 3 ≤ a ∨ ¬ (1 ≤ n ∧ n ≤ 8)) : bootR true n a = (0, 0, 4) := by simp [bootR]; omega
theorem bootR_on (n a : Int) (h : a < 3) (h1 : 1 ≤ n) (h2 : n ≤ 8) : bootR true n a = (2, n, 1) := by
  unfold bootR; rw [if_neg (by simp), if_neg (by omega)]
theorem boot (on : Bool) (n a : Int) (w : World) : Calls Tryd.prog 10 #[.bool on, .int .i64 n, .int .i64 a] w fun e w' => e = .returned (bootV .u8 .u8 (bootR on n a)) ∧ Below w.heap.size w w' := by
  cases on
  · go_enter Tryd.func10, Tryd.ntmps10
    go_wp2
    refine bodyPost_ret (v := bootV .u8 .u8 (bootR false n a)) (by rw [bootR_off]; simp [results, Tryd.results10, go_sem, bootV]) rfl ⟨rfl, by repeat (first | exact Below.refl _ _ | refine Below.alloc ?_ (by simp) _)⟩
  · by_cases h1 : 3 ≤ a
    · have hid := Lib.hid (bootR_back n a (.inl h1))
      go_enter Tryd.func10, Tryd.ntmps10
      go_wp2
      refine bodyPost_ret (v := bootV .u8 .u8 (bootR true n a)) (by rw [hid.out]; simp [results, Tryd.results10, go_sem, bootV]) rfl ⟨rfl, by repeat (first | exact Below.refl _ _ | refine Below.alloc ?_ (by simp) _)⟩
    · by_cases h2 : 1 ≤ n
      · by_cases h3 : n ≤ 8
        · have hid := Lib.hid (bootR_on n a (by omega) h2 h3)
          go_enter Tryd.func10, Tryd.ntmps10
          go_wp2
          refine bodyPost_ret (v := bootV .u8 .u8 (bootR true n a)) (by rw [hid.out]; simp [results, Tryd.results10, go_sem, bootV]) rfl ⟨rfl, by repeat (first | exact Below.refl _ _ | refine Below.alloc ?_ (by simp) _)⟩
        · have hid := Lib.hid (bootR_back n a (.inr (by omega)))
          go_enter Tryd.func10, Tryd.ntmps10
          go_wp2
          refine bodyPost_ret (v := bootV .u8 .u8 (bootR true n a)) (by rw [hid.out]; simp [results, Tryd.results10, go_sem, bootV]) rfl ⟨rfl, by repeat (first | exact Below.refl _ _ | refine Below.alloc ?_ (by simp) _)⟩
      · have hid := Lib.hid (bootR_back n a (.inr (by omega)))
        go_enter Tryd.func10, Tryd.ntmps10
        go_wp2
        refine bodyPost_ret (v := bootV .u8 .u8 (bootR true n a)) (by rw [hid.out]; simp [results, Tryd.results10, go_sem, bootV]) rfl ⟨rfl, by repeat (first | exact Below.refl _ _ | refine Below.alloc ?_ (by simp) _)⟩
theorem com_c (k l n a b c : Int) (h : cmR k l n = (a, b, c)) (w : World) : Calls Tryd.prog 8 #[ph k l, .int .i64 n] w fun e w' => e = .returned (.tuple #[ph a b, .int .i64 c]) ∧ Below w.heap.size w w' := by
  have := commit k l n w; rw [h] at this; exact this
theorem bd_c (k l : Int) (g : Bool) (a b c : Int) (h : bdR k l g = (a, b, c)) (w : World) : Calls Tryd.prog 9 #[ph k l, .bool g] w fun e w' => e = .returned (.tuple #[ph a b, .int .u8 c]) ∧ Below w.heap.size w w' := by
  have := boundary k l g w; rw [h] at this; exact this
theorem boot_c (on : Bool) (n t a b c : Int) (h : bootR on n t = (a, b, c)) (w : World) : Calls Tryd.prog 10 #[.bool on, .int .i64 n, .int .i64 t] w fun e w' => e = .returned (.tuple #[ph a b, .int .u8 c]) ∧ Below w.heap.size w w' := by
  have := boot on n t w; rw [h] at this; exact this
theorem text_c (k l : Int) (s : ByteArray) (h : textB k l = s) (w : World) : Calls Tryd.prog 16 #[ph k l] w fun e w' => e = .returned (.string s) ∧ Below w.heap.size w w' := by
  have := text k l w; rw [h] at this; exact this
set_option maxRecDepth 100000 in
set_option maxHeartbeats 4000000 in
theorem awake (w : World) : Calls Tryd.prog 7 #[] w fun e w' => e = .returned (.bool true) ∧ Below w.heap.size w w' := by
  go_enter Tryd.func7, Tryd.ntmps7
  go_wp2_with fail
  refine Calls.mono (com_c 0 0 2 1 2 0 (by decide) _) ?_
  rintro e w1 ⟨rfl, b1⟩
  have z1 : w.heap.size ≤ w1.heap.size := by have := b1.size; first | omega | (simp at this; omega)
  go_wp2_with fail
  refine Calls.mono (bd_c 1 2 true 2 2 1 (by decide) _) ?_
  rintro e w2 ⟨rfl, b2⟩
  have z2 : w.heap.size ≤ w2.heap.size := by have := b2.size; first | omega | (simp at this; omega)
  have h2_0 : w2.heap[w1.heap.size]? = some (.cells #[.int .u8 1, .int .i64 2] 25 (0, 0)) := blk_step (blk_new w1 _ _) b2
  have c2_0 : w2.cell? ⟨w1.heap.size, 0, none⟩ = some (.int .u8 1) := blk_cell h2_0 0
  have d2_0 : w2.cell? ⟨w1.heap.size, 1, none⟩ = some (.int .i64 2) := blk_cell h2_0 1
  have p2_0 : (w2.alloc (.cells #[.int .u8 2, .int .i64 2] 25)).cell? ⟨w1.heap.size, 0, none⟩ = some (.int .u8 1) := blk_cell (blk_alloc h2_0 _) 0
  have q2_0 : (w2.alloc (.cells #[.int .u8 2, .int .i64 2] 25)).cell? ⟨w1.heap.size, 1, none⟩ = some (.int .i64 2) := blk_cell (blk_alloc h2_0 _) 1
  go_wp2_with fail
  refine Calls.mono (bd_c 2 2 true 2 1 2 (by decide) _) ?_
  rintro e w3 ⟨rfl, b3⟩
  have z3 : w.heap.size ≤ w3.heap.size := by have := b3.size; first | omega | (simp at this; omega)
  have h3_0 : w3.heap[w1.heap.size]? = some (.cells #[.int .u8 1, .int .i64 2] 25 (0, 0)) := blk_step (blk_alloc h2_0 _) b3
  have c3_0 : w3.cell? ⟨w1.heap.size, 0, none⟩ = some (.int .u8 1) := blk_cell h3_0 0
  have d3_0 : w3.cell? ⟨w1.heap.size, 1, none⟩ = some (.int .i64 2) := blk_cell h3_0 1
  have h3_1 : w3.heap[w2.heap.size]? = some (.cells #[.int .u8 2, .int .i64 2] 25 (0, 0)) := blk_step (blk_new w2 _ _) b3
  have c3_1 : w3.cell? ⟨w2.heap.size, 0, none⟩ = some (.int .u8 2) := blk_cell h3_1 0
  have d3_1 : w3.cell? ⟨w2.heap.size, 1, none⟩ = some (.int .i64 2) := blk_cell h3_1 1
  clear c2_0 d2_0 h2_0
  have p3_0 : (w3.alloc (.cells #[.int .u8 2, .int .i64 1] 25)).cell? ⟨w1.heap.size, 0, none⟩ = some (.int .u8 1) := blk_cell (blk_alloc h3_0 _) 0
  have q3_0 : (w3.alloc (.cells #[.int .u8 2, .int .i64 1] 25)).cell? ⟨w1.heap.size, 1, none⟩ = some (.int .i64 2) := blk_cell (blk_alloc h3_0 _) 1
  have p3_1 : (w3.alloc (.cells #[.int .u8 2, .int .i64 1] 25)).cell? ⟨w2.heap.size, 0, none⟩ = some (.int .u8 2) := blk_cell (blk_alloc h3_1 _) 0
  have q3_1 : (w3.alloc (.cells #[.int .u8 2, .int .i64 1] 25)).cell? ⟨w2.heap.size, 1, none⟩ = some (.int .i64 2) := blk_cell (blk_alloc h3_1 _) 1
  go_wp2_with fail
  refine Calls.mono (bd_c 2 1 true 0 0 3 (by decide) _) ?_
  rintro e w4 ⟨rfl, b4⟩
  have z4 : w.heap.size ≤ w4.heap.size := by have := b4.size; first | omega | (simp at this; omega)
  have h4_0 : w4.heap[w1.heap.size]? = some (.cells #[.int .u8 1, .int .i64 2] 25 (0, 0)) := blk_step (blk_alloc h3_0 _) b4
  have c4_0 : w4.cell? ⟨w1.heap.size, 0, none⟩ = some (.int .u8 1) := blk_cell h4_0 0
  have d4_0 : w4.cell? ⟨w1.heap.size, 1, none⟩ = some (.int .i64 2) := blk_cell h4_0 1
  have h4_1 : w4.heap[w2.heap.size]? = some (.cells #[.int .u8 2, .int .i64 2] 25 (0, 0)) := blk_step (blk_alloc h3_1 _) b4
  have c4_1 : w4.cell? ⟨w2.heap.size, 0, none⟩ = some (.int .u8 2) := blk_cell h4_1 0
  have d4_1 : w4.cell? ⟨w2.heap.size, 1, none⟩ = some (.int .i64 2) := blk_cell h4_1 1
  have h4_2 : w4.heap[w3.heap.size]? = some (.cells #[.int .u8 2, .int .i64 1] 25 (0, 0)) := blk_step (blk_new w3 _ _) b4
  have c4_2 : w4.cell? ⟨w3.heap.size, 0, none⟩ = some (.int .u8 2) := blk_cell h4_2 0
  have d4_2 : w4.cell? ⟨w3.heap.size, 1, none⟩ = some (.int .i64 1) := blk_cell h4_2 1
  clear c3_0 d3_0 h3_0 c3_1 d3_1 h3_1
  have p4_0 : (w4.alloc (.cells #[.int .u8 0, .int .i64 0] 25)).cell? ⟨w1.heap.size, 0, none⟩ = some (.int .u8 1) := blk_cell (blk_alloc h4_0 _) 0
  have q4_0 : (w4.alloc (.cells #[.int .u8 0, .int .i64 0] 25)).cell? ⟨w1.heap.size, 1, none⟩ = some (.int .i64 2) := blk_cell (blk_alloc h4_0 _) 1
  have p4_1 : (w4.alloc (.cells #[.int .u8 0, .int .i64 0] 25)).cell? ⟨w2.heap.size, 0, none⟩ = some (.int .u8 2) := blk_cell (blk_alloc h4_1 _) 0
  have q4_1 : (w4.alloc (.cells #[.int .u8 0, .int .i64 0] 25)).cell? ⟨w2.heap.size, 1, none⟩ = some (.int .i64 2) := blk_cell (blk_alloc h4_1 _) 1
  have p4_2 : (w4.alloc (.cells #[.int .u8 0, .int .i64 0] 25)).cell? ⟨w3.heap.size, 0, none⟩ = some (.int .u8 2) := blk_cell (blk_alloc h4_2 _) 0
  have q4_2 : (w4.alloc (.cells #[.int .u8 0, .int .i64 0] 25)).cell? ⟨w3.heap.size, 1, none⟩ = some (.int .i64 1) := blk_cell (blk_alloc h4_2 _) 1
  go_wp2_with fail
  refine Calls.mono (bd_c 2 2 false 0 0 4 (by decide) _) ?_
  rintro e w5 ⟨rfl, b5⟩
  have z5 : w.heap.size ≤ w5.heap.size := by have := b5.size; first | omega | (simp at this; omega)
  have h5_0 : w5.heap[w1.heap.size]? = some (.cells #[.int .u8 1, .int .i64 2] 25 (0, 0)) := blk_step (blk_alloc h4_0 _) b5
  have c5_0 : w5.cell? ⟨w1.heap.size, 0, none⟩ = some (.int .u8 1) := blk_cell h5_0 0
  have d5_0 : w5.cell? ⟨w1.heap.size, 1, none⟩ = some (.int .i64 2) := blk_cell h5_0 1
  have h5_1 : w5.heap[w2.heap.size]? = some (.cells #[.int .u8 2, .int .i64 2] 25 (0, 0)) := blk_step (blk_alloc h4_1 _) b5
  have c5_1 : w5.cell? ⟨w2.heap.size, 0, none⟩ = some (.int .u8 2) := blk_cell h5_1 0
  have d5_1 : w5.cell? ⟨w2.heap.size, 1, none⟩ = some (.int .i64 2) := blk_cell h5_1 1
  have h5_2 : w5.heap[w3.heap.size]? = some (.cells #[.int .u8 2, .int .i64 1] 25 (0, 0)) := blk_step (blk_alloc h4_2 _) b5
  have c5_2 : w5.cell? ⟨w3.heap.size, 0, none⟩ = some (.int .u8 2) := blk_cell h5_2 0
  have d5_2 : w5.cell? ⟨w3.heap.size, 1, none⟩ = some (.int .i64 1) := blk_cell h5_2 1
  have h5_3 : w5.heap[w4.heap.size]? = some (.cells #[.int .u8 0, .int .i64 0] 25 (0, 0)) := blk_step (blk_new w4 _ _) b5
  have c5_3 : w5.cell? ⟨w4.heap.size, 0, none⟩ = some (.int .u8 0) := blk_cell h5_3 0
  have d5_3 : w5.cell? ⟨w4.heap.size, 1, none⟩ = some (.int .i64 0) := blk_cell h5_3 1
  clear c4_0 d4_0 h4_0 c4_1 d4_1 h4_1 c4_2 d4_2 h4_2
  have p5_0 : (w5.alloc (.cells #[.int .u8 0, .int .i64 0] 25)).cell? ⟨w1.heap.size, 0, none⟩ = some (.int .u8 1) := blk_cell (blk_alloc h5_0 _) 0
  have q5_0 : (w5.alloc (.cells #[.int .u8 0, .int .i64 0] 25)).cell? ⟨w1.heap.size, 1, none⟩ = some (.int .i64 2) := blk_cell (blk_alloc h5_0 _) 1
  have p5_1 : (w5.alloc (.cells #[.int .u8 0, .int .i64 0] 25)).cell? ⟨w2.heap.size, 0, none⟩ = some (.int .u8 2) := blk_cell (blk_alloc h5_1 _) 0
  have q5_1 : (w5.alloc (.cells #[.int .u8 0, .int .i64 0] 25)).cell? ⟨w2.heap.size, 1, none⟩ = some (.int .i64 2) := blk_cell (blk_alloc h5_1 _) 1
  have p5_2 : (w5.alloc (.cells #[.int .u8 0, .int .i64 0] 25)).cell? ⟨w3.heap.size, 0, none⟩ = some (.int .u8 2) := blk_cell (blk_alloc h5_2 _) 0
  have q5_2 : (w5.alloc (.cells #[.int .u8 0, .int .i64 0] 25)).cell? ⟨w3.heap.size, 1, none⟩ = some (.int .i64 1) := blk_cell (blk_alloc h5_2 _) 1
  have p5_3 : (w5.alloc (.cells #[.int .u8 0, .int .i64 0] 25)).cell? ⟨w4.heap.size, 0, none⟩ = some (.int .u8 0) := blk_cell (blk_alloc h5_3 _) 0
  have q5_3 : (w5.alloc (.cells #[.int .u8 0, .int .i64 0] 25)).cell? ⟨w4.heap.size, 1, none⟩ = some (.int .i64 0) := blk_cell (blk_alloc h5_3 _) 1
  go_wp2_with fail
  refine Calls.mono (bd_c 0 0 false 0 0 0 (by decide) _) ?_
  rintro e w6 ⟨rfl, b6⟩
  have z6 : w.heap.size ≤ w6.heap.size := by have := b6.size; first | omega | (simp at this; omega)
  have h6_0 : w6.heap[w1.heap.size]? = some (.cells #[.int .u8 1, .int .i64 2] 25 (0, 0)) := blk_step (blk_alloc h5_0 _) b6
  have c6_0 : w6.cell? ⟨w1.heap.size, 0, none⟩ = some (.int .u8 1) := blk_cell h6_0 0
  have d6_0 : w6.cell? ⟨w1.heap.size, 1, none⟩ = some (.int .i64 2) := blk_cell h6_0 1
  have h6_1 : w6.heap[w2.heap.size]? = some (.cells #[.int .u8 2, .int .i64 2] 25 (0, 0)) := blk_step (blk_alloc h5_1 _) b6
  have c6_1 : w6.cell? ⟨w2.heap.size, 0, none⟩ = some (.int .u8 2) := blk_cell h6_1 0
  have d6_1 : w6.cell? ⟨w2.heap.size, 1, none⟩ = some (.int .i64 2) := blk_cell h6_1 1
  have h6_2 : w6.heap[w3.heap.size]? = some (.cells #[.int .u8 2, .int .i64 1] 25 (0, 0)) := blk_step (blk_alloc h5_2 _) b6
  have c6_2 : w6.cell? ⟨w3.heap.size, 0, none⟩ = some (.int .u8 2) := blk_cell h6_2 0
  have d6_2 : w6.cell? ⟨w3.heap.size, 1, none⟩ = some (.int .i64 1) := blk_cell h6_2 1
  have h6_3 : w6.heap[w4.heap.size]? = some (.cells #[.int .u8 0, .int .i64 0] 25 (0, 0)) := blk_step (blk_alloc h5_3 _) b6
  have c6_3 : w6.cell? ⟨w4.heap.size, 0, none⟩ = some (.int .u8 0) := blk_cell h6_3 0
  have d6_3 : w6.cell? ⟨w4.heap.size, 1, none⟩ = some (.int .i64 0) := blk_cell h6_3 1
  have h6_4 : w6.heap[w5.heap.size]? = some (.cells #[.int .u8 0, .int .i64 0] 25 (0, 0)) := blk_step (blk_new w5 _ _) b6
  have c6_4 : w6.cell? ⟨w5.heap.size, 0, none⟩ = some (.int .u8 0) := blk_cell h6_4 0
  have d6_4 : w6.cell? ⟨w5.heap.size, 1, none⟩ = some (.int .i64 0) := blk_cell h6_4 1
  clear c5_0 d5_0 h5_0 c5_1 d5_1 h5_1 c5_2 d5_2 h5_2 c5_3 d5_3 h5_3
  have p6_0 : (w6.alloc (.cells #[.int .u8 0, .int .i64 0] 25)).cell? ⟨w1.heap.size, 0, none⟩ = some (.int .u8 1) := blk_cell (blk_alloc h6_0 _) 0
  have q6_0 : (w6.alloc (.cells #[.int .u8 0, .int .i64 0] 25)).cell? ⟨w1.heap.size, 1, none⟩ = some (.int .i64 2) := blk_cell (blk_alloc h6_0 _) 1
  have p6_1 : (w6.alloc (.cells #[.int .u8 0, .int .i64 0] 25)).cell? ⟨w2.heap.size, 0, none⟩ = some (.int .u8 2) := blk_cell (blk_alloc h6_1 _) 0
  have q6_1 : (w6.alloc (.cells #[.int .u8 0, .int .i64 0] 25)).cell? ⟨w2.heap.size, 1, none⟩ = some (.int .i64 2) := blk_cell (blk_alloc h6_1 _) 1
  have p6_2 : (w6.alloc (.cells #[.int .u8 0, .int .i64 0] 25)).cell? ⟨w3.heap.size, 0, none⟩ = some (.int .u8 2) := blk_cell (blk_alloc h6_2 _) 0
  have q6_2 : (w6.alloc (.cells #[.int .u8 0, .int .i64 0] 25)).cell? ⟨w3.heap.size, 1, none⟩ = some (.int .i64 1) := blk_cell (blk_alloc h6_2 _) 1
  have p6_3 : (w6.alloc (.cells #[.int .u8 0, .int .i64 0] 25)).cell? ⟨w4.heap.size, 0, none⟩ = some (.int .u8 0) := blk_cell (blk_alloc h6_3 _) 0
  have q6_3 : (w6.alloc (.cells #[.int .u8 0, .int .i64 0] 25)).cell? ⟨w4.heap.size, 1, none⟩ = some (.int .i64 0) := blk_cell (blk_alloc h6_3 _) 1
  have p6_4 : (w6.alloc (.cells #[.int .u8 0, .int .i64 0] 25)).cell? ⟨w5.heap.size, 0, none⟩ = some (.int .u8 0) := blk_cell (blk_alloc h6_4 _) 0
  have q6_4 : (w6.alloc (.cells #[.int .u8 0, .int .i64 0] 25)).cell? ⟨w5.heap.size, 1, none⟩ = some (.int .i64 0) := blk_cell (blk_alloc h6_4 _) 1
  go_wp2_with fail
  refine Calls.mono (text_c 1 2 ⟨#[119, 97, 105, 116, 115, 32, 50]⟩ (by decide +kernel) _) ?_
  rintro e w7 ⟨rfl, b7⟩
  have z7 : w.heap.size ≤ w7.heap.size := by have := b7.size; first | omega | (simp at this; omega)
  have h7_0 : w7.heap[w1.heap.size]? = some (.cells #[.int .u8 1, .int .i64 2] 25 (0, 0)) := blk_step (blk_alloc h6_0 _) b7
  have c7_0 : w7.cell? ⟨w1.heap.size, 0, none⟩ = some (.int .u8 1) := blk_cell h7_0 0
  have d7_0 : w7.cell? ⟨w1.heap.size, 1, none⟩ = some (.int .i64 2) := blk_cell h7_0 1
  have h7_1 : w7.heap[w2.heap.size]? = some (.cells #[.int .u8 2, .int .i64 2] 25 (0, 0)) := blk_step (blk_alloc h6_1 _) b7
  have c7_1 : w7.cell? ⟨w2.heap.size, 0, none⟩ = some (.int .u8 2) := blk_cell h7_1 0
  have d7_1 : w7.cell? ⟨w2.heap.size, 1, none⟩ = some (.int .i64 2) := blk_cell h7_1 1
  have h7_2 : w7.heap[w3.heap.size]? = some (.cells #[.int .u8 2, .int .i64 1] 25 (0, 0)) := blk_step (blk_alloc h6_2 _) b7
  have c7_2 : w7.cell? ⟨w3.heap.size, 0, none⟩ = some (.int .u8 2) := blk_cell h7_2 0
  have d7_2 : w7.cell? ⟨w3.heap.size, 1, none⟩ = some (.int .i64 1) := blk_cell h7_2 1
  have h7_3 : w7.heap[w4.heap.size]? = some (.cells #[.int .u8 0, .int .i64 0] 25 (0, 0)) := blk_step (blk_alloc h6_3 _) b7
  have c7_3 : w7.cell? ⟨w4.heap.size, 0, none⟩ = some (.int .u8 0) := blk_cell h7_3 0
  have d7_3 : w7.cell? ⟨w4.heap.size, 1, none⟩ = some (.int .i64 0) := blk_cell h7_3 1
  have h7_4 : w7.heap[w5.heap.size]? = some (.cells #[.int .u8 0, .int .i64 0] 25 (0, 0)) := blk_step (blk_alloc h6_4 _) b7
  have c7_4 : w7.cell? ⟨w5.heap.size, 0, none⟩ = some (.int .u8 0) := blk_cell h7_4 0
  have d7_4 : w7.cell? ⟨w5.heap.size, 1, none⟩ = some (.int .i64 0) := blk_cell h7_4 1
  have h7_5 : w7.heap[w6.heap.size]? = some (.cells #[.int .u8 0, .int .i64 0] 25 (0, 0)) := blk_step (blk_new w6 _ _) b7
  have c7_5 : w7.cell? ⟨w6.heap.size, 0, none⟩ = some (.int .u8 0) := blk_cell h7_5 0
  have d7_5 : w7.cell? ⟨w6.heap.size, 1, none⟩ = some (.int .i64 0) := blk_cell h7_5 1
  clear c6_0 d6_0 h6_0 c6_1 d6_1 h6_1 c6_2 d6_2 h6_2 c6_3 d6_3 h6_3 c6_4 d6_4 h6_4
  go_wp2_with fail
  refine Calls.mono (text_c 2 2 ⟨#[116, 114, 105, 97, 108, 32, 50]⟩ (by decide +kernel) _) ?_
  rintro e w8 ⟨rfl, b8⟩
  have z8 : w.heap.size ≤ w8.heap.size := by have := b8.size; first | omega | (simp at this; omega)
  have h8_0 : w8.heap[w1.heap.size]? = some (.cells #[.int .u8 1, .int .i64 2] 25 (0, 0)) := blk_step h7_0 b8
  have c8_0 : w8.cell? ⟨w1.heap.size, 0, none⟩ = some (.int .u8 1) := blk_cell h8_0 0
  have d8_0 : w8.cell? ⟨w1.heap.size, 1, none⟩ = some (.int .i64 2) := blk_cell h8_0 1
  have h8_1 : w8.heap[w2.heap.size]? = some (.cells #[.int .u8 2, .int .i64 2] 25 (0, 0)) := blk_step h7_1 b8
  have c8_1 : w8.cell? ⟨w2.heap.size, 0, none⟩ = some (.int .u8 2) := blk_cell h8_1 0
  have d8_1 : w8.cell? ⟨w2.heap.size, 1, none⟩ = some (.int .i64 2) := blk_cell h8_1 1
  have h8_2 : w8.heap[w3.heap.size]? = some (.cells #[.int .u8 2, .int .i64 1] 25 (0, 0)) := blk_step h7_2 b8
  have c8_2 : w8.cell? ⟨w3.heap.size, 0, none⟩ = some (.int .u8 2) := blk_cell h8_2 0
  have d8_2 : w8.cell? ⟨w3.heap.size, 1, none⟩ = some (.int .i64 1) := blk_cell h8_2 1
  have h8_3 : w8.heap[w4.heap.size]? = some (.cells #[.int .u8 0, .int .i64 0] 25 (0, 0)) := blk_step h7_3 b8
  have c8_3 : w8.cell? ⟨w4.heap.size, 0, none⟩ = some (.int .u8 0) := blk_cell h8_3 0
  have d8_3 : w8.cell? ⟨w4.heap.size, 1, none⟩ = some (.int .i64 0) := blk_cell h8_3 1
  have h8_4 : w8.heap[w5.heap.size]? = some (.cells #[.int .u8 0, .int .i64 0] 25 (0, 0)) := blk_step h7_4 b8
  have c8_4 : w8.cell? ⟨w5.heap.size, 0, none⟩ = some (.int .u8 0) := blk_cell h8_4 0
  have d8_4 : w8.cell? ⟨w5.heap.size, 1, none⟩ = some (.int .i64 0) := blk_cell h8_4 1
  have h8_5 : w8.heap[w6.heap.size]? = some (.cells #[.int .u8 0, .int .i64 0] 25 (0, 0)) := blk_step h7_5 b8
  have c8_5 : w8.cell? ⟨w6.heap.size, 0, none⟩ = some (.int .u8 0) := blk_cell h8_5 0
  have d8_5 : w8.cell? ⟨w6.heap.size, 1, none⟩ = some (.int .i64 0) := blk_cell h8_5 1
  clear c7_0 d7_0 h7_0 c7_1 d7_1 h7_1 c7_2 d7_2 h7_2 c7_3 d7_3 h7_3 c7_4 d7_4 h7_4 c7_5 d7_5 h7_5
  go_wp2_with fail
  refine Calls.mono (text_c 2 1 ⟨#[116, 114, 105, 97, 108, 32, 49]⟩ (by decide +kernel) _) ?_
  rintro e w9 ⟨rfl, b9⟩
  have z9 : w.heap.size ≤ w9.heap.size := by have := b9.size; first | omega | (simp at this; omega)
  have h9_0 : w9.heap[w1.heap.size]? = some (.cells #[.int .u8 1, .int .i64 2] 25 (0, 0)) := blk_step h8_0 b9
  have c9_0 : w9.cell? ⟨w1.heap.size, 0, none⟩ = some (.int .u8 1) := blk_cell h9_0 0
  have d9_0 : w9.cell? ⟨w1.heap.size, 1, none⟩ = some (.int .i64 2) := blk_cell h9_0 1
  have h9_1 : w9.heap[w2.heap.size]? = some (.cells #[.int .u8 2, .int .i64 2] 25 (0, 0)) := blk_step h8_1 b9
  have c9_1 : w9.cell? ⟨w2.heap.size, 0, none⟩ = some (.int .u8 2) := blk_cell h9_1 0
  have d9_1 : w9.cell? ⟨w2.heap.size, 1, none⟩ = some (.int .i64 2) := blk_cell h9_1 1
  have h9_2 : w9.heap[w3.heap.size]? = some (.cells #[.int .u8 2, .int .i64 1] 25 (0, 0)) := blk_step h8_2 b9
  have c9_2 : w9.cell? ⟨w3.heap.size, 0, none⟩ = some (.int .u8 2) := blk_cell h9_2 0
  have d9_2 : w9.cell? ⟨w3.heap.size, 1, none⟩ = some (.int .i64 1) := blk_cell h9_2 1
  have h9_3 : w9.heap[w4.heap.size]? = some (.cells #[.int .u8 0, .int .i64 0] 25 (0, 0)) := blk_step h8_3 b9
  have c9_3 : w9.cell? ⟨w4.heap.size, 0, none⟩ = some (.int .u8 0) := blk_cell h9_3 0
  have d9_3 : w9.cell? ⟨w4.heap.size, 1, none⟩ = some (.int .i64 0) := blk_cell h9_3 1
  have h9_4 : w9.heap[w5.heap.size]? = some (.cells #[.int .u8 0, .int .i64 0] 25 (0, 0)) := blk_step h8_4 b9
  have c9_4 : w9.cell? ⟨w5.heap.size, 0, none⟩ = some (.int .u8 0) := blk_cell h9_4 0
  have d9_4 : w9.cell? ⟨w5.heap.size, 1, none⟩ = some (.int .i64 0) := blk_cell h9_4 1
  have h9_5 : w9.heap[w6.heap.size]? = some (.cells #[.int .u8 0, .int .i64 0] 25 (0, 0)) := blk_step h8_5 b9
  have c9_5 : w9.cell? ⟨w6.heap.size, 0, none⟩ = some (.int .u8 0) := blk_cell h9_5 0
  have d9_5 : w9.cell? ⟨w6.heap.size, 1, none⟩ = some (.int .i64 0) := blk_cell h9_5 1
  clear c8_0 d8_0 h8_0 c8_1 d8_1 h8_1 c8_2 d8_2 h8_2 c8_3 d8_3 h8_3 c8_4 d8_4 h8_4 c8_5 d8_5 h8_5
  go_wp2_with fail
  refine Calls.mono (text_c 0 0 ⟨#[114, 101, 115, 116, 115]⟩ (by decide +kernel) _) ?_
  rintro e w10 ⟨rfl, b10⟩
  have z10 : w.heap.size ≤ w10.heap.size := by have := b10.size; first | omega | (simp at this; omega)
  have h10_0 : w10.heap[w1.heap.size]? = some (.cells #[.int .u8 1, .int .i64 2] 25 (0, 0)) := blk_step h9_0 b10
  have c10_0 : w10.cell? ⟨w1.heap.size, 0, none⟩ = some (.int .u8 1) := blk_cell h10_0 0
  have d10_0 : w10.cell? ⟨w1.heap.size, 1, none⟩ = some (.int .i64 2) := blk_cell h10_0 1
  have h10_1 : w10.heap[w2.heap.size]? = some (.cells #[.int .u8 2, .int .i64 2] 25 (0, 0)) := blk_step h9_1 b10
  have c10_1 : w10.cell? ⟨w2.heap.size, 0, none⟩ = some (.int .u8 2) := blk_cell h10_1 0
  have d10_1 : w10.cell? ⟨w2.heap.size, 1, none⟩ = some (.int .i64 2) := blk_cell h10_1 1
  have h10_2 : w10.heap[w3.heap.size]? = some (.cells #[.int .u8 2, .int .i64 1] 25 (0, 0)) := blk_step h9_2 b10
  have c10_2 : w10.cell? ⟨w3.heap.size, 0, none⟩ = some (.int .u8 2) := blk_cell h10_2 0
  have d10_2 : w10.cell? ⟨w3.heap.size, 1, none⟩ = some (.int .i64 1) := blk_cell h10_2 1
  have h10_3 : w10.heap[w4.heap.size]? = some (.cells #[.int .u8 0, .int .i64 0] 25 (0, 0)) := blk_step h9_3 b10
  have c10_3 : w10.cell? ⟨w4.heap.size, 0, none⟩ = some (.int .u8 0) := blk_cell h10_3 0
  have d10_3 : w10.cell? ⟨w4.heap.size, 1, none⟩ = some (.int .i64 0) := blk_cell h10_3 1
  have h10_4 : w10.heap[w5.heap.size]? = some (.cells #[.int .u8 0, .int .i64 0] 25 (0, 0)) := blk_step h9_4 b10
  have c10_4 : w10.cell? ⟨w5.heap.size, 0, none⟩ = some (.int .u8 0) := blk_cell h10_4 0
  have d10_4 : w10.cell? ⟨w5.heap.size, 1, none⟩ = some (.int .i64 0) := blk_cell h10_4 1
  have h10_5 : w10.heap[w6.heap.size]? = some (.cells #[.int .u8 0, .int .i64 0] 25 (0, 0)) := blk_step h9_5 b10
  have c10_5 : w10.cell? ⟨w6.heap.size, 0, none⟩ = some (.int .u8 0) := blk_cell h10_5 0
  have d10_5 : w10.cell? ⟨w6.heap.size, 1, none⟩ = some (.int .i64 0) := blk_cell h10_5 1
  clear c9_0 d9_0 h9_0 c9_1 d9_1 h9_1 c9_2 d9_2 h9_2 c9_3 d9_3 h9_3 c9_4 d9_4 h9_4 c9_5 d9_5 h9_5
  go_wp2_with fail
  refine Calls.mono (com_c 1 2 2 0 0 270 (by decide) _) ?_
  rintro e w11 ⟨rfl, b11⟩
  have z11 : w.heap.size ≤ w11.heap.size := by have := b11.size; first | omega | (simp at this; omega)
  have h11_0 : w11.heap[w1.heap.size]? = some (.cells #[.int .u8 1, .int .i64 2] 25 (0, 0)) := blk_step h10_0 b11
  have c11_0 : w11.cell? ⟨w1.heap.size, 0, none⟩ = some (.int .u8 1) := blk_cell h11_0 0
  have d11_0 : w11.cell? ⟨w1.heap.size, 1, none⟩ = some (.int .i64 2) := blk_cell h11_0 1
  have h11_1 : w11.heap[w2.heap.size]? = some (.cells #[.int .u8 2, .int .i64 2] 25 (0, 0)) := blk_step h10_1 b11
  have c11_1 : w11.cell? ⟨w2.heap.size, 0, none⟩ = some (.int .u8 2) := blk_cell h11_1 0
  have d11_1 : w11.cell? ⟨w2.heap.size, 1, none⟩ = some (.int .i64 2) := blk_cell h11_1 1
  have h11_2 : w11.heap[w3.heap.size]? = some (.cells #[.int .u8 2, .int .i64 1] 25 (0, 0)) := blk_step h10_2 b11
  have c11_2 : w11.cell? ⟨w3.heap.size, 0, none⟩ = some (.int .u8 2) := blk_cell h11_2 0
  have d11_2 : w11.cell? ⟨w3.heap.size, 1, none⟩ = some (.int .i64 1) := blk_cell h11_2 1
  have h11_3 : w11.heap[w4.heap.size]? = some (.cells #[.int .u8 0, .int .i64 0] 25 (0, 0)) := blk_step h10_3 b11
  have c11_3 : w11.cell? ⟨w4.heap.size, 0, none⟩ = some (.int .u8 0) := blk_cell h11_3 0
  have d11_3 : w11.cell? ⟨w4.heap.size, 1, none⟩ = some (.int .i64 0) := blk_cell h11_3 1
  have h11_4 : w11.heap[w5.heap.size]? = some (.cells #[.int .u8 0, .int .i64 0] 25 (0, 0)) := blk_step h10_4 b11
  have c11_4 : w11.cell? ⟨w5.heap.size, 0, none⟩ = some (.int .u8 0) := blk_cell h11_4 0
  have d11_4 : w11.cell? ⟨w5.heap.size, 1, none⟩ = some (.int .i64 0) := blk_cell h11_4 1
  have h11_5 : w11.heap[w6.heap.size]? = some (.cells #[.int .u8 0, .int .i64 0] 25 (0, 0)) := blk_step h10_5 b11
  have c11_5 : w11.cell? ⟨w6.heap.size, 0, none⟩ = some (.int .u8 0) := blk_cell h11_5 0
  have d11_5 : w11.cell? ⟨w6.heap.size, 1, none⟩ = some (.int .i64 0) := blk_cell h11_5 1
  clear c10_0 d10_0 h10_0 c10_1 d10_1 h10_1 c10_2 d10_2 h10_2 c10_3 d10_3 h10_3 c10_4 d10_4 h10_4 c10_5 d10_5 h10_5
  have p11_0 : (w11.alloc (.cells #[.int .u8 0, .int .i64 0] 25)).cell? ⟨w1.heap.size, 0, none⟩ = some (.int .u8 1) := blk_cell (blk_alloc h11_0 _) 0
  have q11_0 : (w11.alloc (.cells #[.int .u8 0, .int .i64 0] 25)).cell? ⟨w1.heap.size, 1, none⟩ = some (.int .i64 2) := blk_cell (blk_alloc h11_0 _) 1
  have p11_1 : (w11.alloc (.cells #[.int .u8 0, .int .i64 0] 25)).cell? ⟨w2.heap.size, 0, none⟩ = some (.int .u8 2) := blk_cell (blk_alloc h11_1 _) 0
  have q11_1 : (w11.alloc (.cells #[.int .u8 0, .int .i64 0] 25)).cell? ⟨w2.heap.size, 1, none⟩ = some (.int .i64 2) := blk_cell (blk_alloc h11_1 _) 1
  have p11_2 : (w11.alloc (.cells #[.int .u8 0, .int .i64 0] 25)).cell? ⟨w3.heap.size, 0, none⟩ = some (.int .u8 2) := blk_cell (blk_alloc h11_2 _) 0
  have q11_2 : (w11.alloc (.cells #[.int .u8 0, .int .i64 0] 25)).cell? ⟨w3.heap.size, 1, none⟩ = some (.int .i64 1) := blk_cell (blk_alloc h11_2 _) 1
  have p11_3 : (w11.alloc (.cells #[.int .u8 0, .int .i64 0] 25)).cell? ⟨w4.heap.size, 0, none⟩ = some (.int .u8 0) := blk_cell (blk_alloc h11_3 _) 0
  have q11_3 : (w11.alloc (.cells #[.int .u8 0, .int .i64 0] 25)).cell? ⟨w4.heap.size, 1, none⟩ = some (.int .i64 0) := blk_cell (blk_alloc h11_3 _) 1
  have p11_4 : (w11.alloc (.cells #[.int .u8 0, .int .i64 0] 25)).cell? ⟨w5.heap.size, 0, none⟩ = some (.int .u8 0) := blk_cell (blk_alloc h11_4 _) 0
  have q11_4 : (w11.alloc (.cells #[.int .u8 0, .int .i64 0] 25)).cell? ⟨w5.heap.size, 1, none⟩ = some (.int .i64 0) := blk_cell (blk_alloc h11_4 _) 1
  have p11_5 : (w11.alloc (.cells #[.int .u8 0, .int .i64 0] 25)).cell? ⟨w6.heap.size, 0, none⟩ = some (.int .u8 0) := blk_cell (blk_alloc h11_5 _) 0
  have q11_5 : (w11.alloc (.cells #[.int .u8 0, .int .i64 0] 25)).cell? ⟨w6.heap.size, 1, none⟩ = some (.int .i64 0) := blk_cell (blk_alloc h11_5 _) 1
  go_wp2_with fail
  refine Calls.mono (com_c 0 0 0 0 0 2 (by decide) _) ?_
  rintro e w12 ⟨rfl, b12⟩
  have z12 : w.heap.size ≤ w12.heap.size := by have := b12.size; first | omega | (simp at this; omega)
  go_wp2_with fail
  refine Calls.mono (com_c 0 0 9 0 0 2 (by decide) _) ?_
  rintro e w13 ⟨rfl, b13⟩
  have z13 : w.heap.size ≤ w13.heap.size := by have := b13.size; first | omega | (simp at this; omega)
  go_wp2_with fail
  refine Calls.mono (boot_c true 2 2 2 2 1 (by decide) _) ?_
  rintro e w14 ⟨rfl, b14⟩
  have z14 : w.heap.size ≤ w14.heap.size := by have := b14.size; first | omega | (simp at this; omega)
  go_wp2_with fail
  refine Calls.mono (boot_c true 2 3 0 0 4 (by decide) _) ?_
  rintro e w15 ⟨rfl, b15⟩
  have z15 : w.heap.size ≤ w15.heap.size := by have := b15.size; first | omega | (simp at this; omega)
  have h15_0 : w15.heap[w14.heap.size]? = some (.cells #[.int .u8 2, .int .i64 2] 25 (0, 0)) := blk_step (blk_new w14 _ _) b15
  have c15_0 : w15.cell? ⟨w14.heap.size, 0, none⟩ = some (.int .u8 2) := blk_cell h15_0 0
  have d15_0 : w15.cell? ⟨w14.heap.size, 1, none⟩ = some (.int .i64 2) := blk_cell h15_0 1
  have p15_0 : (w15.alloc (.cells #[.int .u8 0, .int .i64 0] 25)).cell? ⟨w14.heap.size, 0, none⟩ = some (.int .u8 2) := blk_cell (blk_alloc h15_0 _) 0
  have q15_0 : (w15.alloc (.cells #[.int .u8 0, .int .i64 0] 25)).cell? ⟨w14.heap.size, 1, none⟩ = some (.int .i64 2) := blk_cell (blk_alloc h15_0 _) 1
  go_wp2_with fail
  refine Calls.mono (text_c 2 2 ⟨#[116, 114, 105, 97, 108, 32, 50]⟩ (by decide +kernel) _) ?_
  rintro e w16 ⟨rfl, b16⟩
  have z16 : w.heap.size ≤ w16.heap.size := by have := b16.size; first | omega | (simp at this; omega)
  have h16_0 : w16.heap[w14.heap.size]? = some (.cells #[.int .u8 2, .int .i64 2] 25 (0, 0)) := blk_step (blk_alloc h15_0 _) b16
  have c16_0 : w16.cell? ⟨w14.heap.size, 0, none⟩ = some (.int .u8 2) := blk_cell h16_0 0
  have d16_0 : w16.cell? ⟨w14.heap.size, 1, none⟩ = some (.int .i64 2) := blk_cell h16_0 1
  have h16_1 : w16.heap[w15.heap.size]? = some (.cells #[.int .u8 0, .int .i64 0] 25 (0, 0)) := blk_step (blk_new w15 _ _) b16
  have c16_1 : w16.cell? ⟨w15.heap.size, 0, none⟩ = some (.int .u8 0) := blk_cell h16_1 0
  have d16_1 : w16.cell? ⟨w15.heap.size, 1, none⟩ = some (.int .i64 0) := blk_cell h16_1 1
  clear c15_0 d15_0 h15_0
  go_wp2_with fail
  refine Calls.mono (text_c 0 0 ⟨#[114, 101, 115, 116, 115]⟩ (by decide +kernel) _) ?_
  rintro e w17 ⟨rfl, b17⟩
  have z17 : w.heap.size ≤ w17.heap.size := by have := b17.size; first | omega | (simp at this; omega)
  have h17_0 : w17.heap[w14.heap.size]? = some (.cells #[.int .u8 2, .int .i64 2] 25 (0, 0)) := blk_step h16_0 b17
  have c17_0 : w17.cell? ⟨w14.heap.size, 0, none⟩ = some (.int .u8 2) := blk_cell h17_0 0
  have d17_0 : w17.cell? ⟨w14.heap.size, 1, none⟩ = some (.int .i64 2) := blk_cell h17_0 1
  have h17_1 : w17.heap[w15.heap.size]? = some (.cells #[.int .u8 0, .int .i64 0] 25 (0, 0)) := blk_step h16_1 b17
  have c17_1 : w17.cell? ⟨w15.heap.size, 0, none⟩ = some (.int .u8 0) := blk_cell h17_1 0
  have d17_1 : w17.cell? ⟨w15.heap.size, 1, none⟩ = some (.int .i64 0) := blk_cell h17_1 1
  clear c16_0 d16_0 h16_0 c16_1 d16_1 h16_1
  go_wp2
  go_ret
  exact ⟨rfl, by repeat (first | refine Below.trans ?_ (b17.mono (by first | omega | (simp <;> omega))) | refine Below.trans ?_ (b16.mono (by first | omega | (simp <;> omega))) | refine Below.trans ?_ (b15.mono (by first | omega | (simp <;> omega))) | refine Below.trans ?_ (b14.mono (by first | omega | (simp <;> omega))) | refine Below.trans ?_ (b13.mono (by first | omega | (simp <;> omega))) | refine Below.trans ?_ (b12.mono (by first | omega | (simp <;> omega))) | refine Below.trans ?_ (b11.mono (by first | omega | (simp <;> omega))) | refine Below.trans ?_ (b10.mono (by first | omega | (simp <;> omega))) | refine Below.trans ?_ (b9.mono (by first | omega | (simp <;> omega))) | refine Below.trans ?_ (b8.mono (by first | omega | (simp <;> omega))) | refine Below.trans ?_ (b7.mono (by first | omega | (simp <;> omega))) | refine Below.trans ?_ (b6.mono (by first | omega | (simp <;> omega))) | refine Below.trans ?_ (b5.mono (by first | omega | (simp <;> omega))) | refine Below.trans ?_ (b4.mono (by first | omega | (simp <;> omega))) | refine Below.trans ?_ (b3.mono (by first | omega | (simp <;> omega))) | refine Below.trans ?_ (b2.mono (by first | omega | (simp <;> omega))) | refine Below.trans ?_ (b1.mono (by first | omega | (simp <;> omega))) | exact Below.refl _ _ | refine Below.alloc ?_ (by first | omega | (simp <;> omega)) _ | refine Below.drew ?_)⟩
end Go.Proofs.YtojielokkpmjeaaDoor.tr
