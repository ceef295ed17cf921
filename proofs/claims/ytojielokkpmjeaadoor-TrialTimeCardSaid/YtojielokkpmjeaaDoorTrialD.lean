/- trial.Text, its reference, and the library's numeral of one digit. -/
import Derived.Test.YtojielokkpmjeaaDoorRows
import Derived.Test.YtojielokkpmjeaaDoorTrialA
import Derived.Deep.RegionWith
namespace Go.Proofs.YtojielokkpmjeaaDoor.tr
open Go Go.ChangeShapes Go.WideShapes Go.ChangeAt Go.RowKit
def dig (n : Int) : ByteArray := ⟨#[UInt8.ofNat (48 + n.toNat)]⟩
theorem eight {n : Int} (h : frB n = true) : n = 1 ∨ n = 2 ∨ n = 3 ∨ n = 4 ∨ n = 5 ∨ n = 6 ∨ n = 7 ∨ n = 8 := by
  have := of_decide_eq_true h; omega
theorem small (n : Int) (h : frB n = true) (w : World) : Calls Tryd.prog 25 #[.int .i64 n] w fun e w' => e = .returned (.string (dig n)) ∧ w' = w := by
  rcases eight h with rfl | rfl | rfl | rfl | rfl | rfl | rfl | rfl <;> clear h <;>
  · go_enter Tryd.func25, Tryd.ntmps25
    go_wp2
    go_ret
    exact ⟨rfl, rfl⟩
theorem fmt (n : Int) (h : frB n = true) (w : World) : Calls Tryd.prog 24 #[.int .i64 n, .int .i64 10] w fun e w' => e = .returned (.string (dig n)) ∧ w' = w := by
  have g1 : 0 ≤ n := by have := of_decide_eq_true h; omega
  have g2 : n < 100 := by have := of_decide_eq_true h; omega
  have H := Lib.hid h
  clear h
  go_enter Tryd.func24, Tryd.ntmps24
  go_wp2_with fail
  refine (small n H.out _).mono ?_
  rintro e w1 ⟨rfl, rfl⟩
  go_wp2
  go_ret
  exact ⟨rfl, rfl⟩
theorem itoa1 (n : Int) (h : frB n = true) (w : World) : Calls Tryd.prog 23 #[.int .i64 n] w fun e w' => e = .returned (.string (dig n)) ∧ w' = w := by
  have H := Lib.hid h
  clear h
  go_enter Tryd.func23, Tryd.ntmps23
  go_wp2_with fail
  refine (fmt n H.out _).mono ?_
  rintro e w1 ⟨rfl, rfl⟩
  go_wp2
  go_ret
  exact ⟨rfl, rfl⟩
theorem itoa (n : Int) (h : frB n = true) (w : World) : Calls Tryd.prog 22 #[.int .i64 n] w fun e w' => e = .returned (.string (dig n)) ∧ w' = w := by
  have H := Lib.hid h
  clear h
  go_enter Tryd.func22, Tryd.ntmps22
  go_wp2_with fail
  refine (itoa1 n H.out _).mono ?_
  rintro e w1 ⟨rfl, rfl⟩
  go_wp2
  go_ret
  exact ⟨rfl, rfl⟩
def textB (k l : Int) : ByteArray :=
  if mayB k l = false then ⟨#[63]⟩ else if k = 0 then ⟨#[114, 101, 115, 116, 115]⟩ else if k = 1 then ⟨#[119, 97, 105, 116, 115, 32]⟩ ++ dig l else ⟨#[116, 114, 105, 97, 108, 32]⟩ ++ dig l
theorem text_bad (k l : Int) (h : mayB k l = false) (w : World) : Calls Tryd.prog 16 #[ph k l] w fun e w' => e = .returned (.string ⟨#[63]⟩) ∧ Below w.heap.size w w' := by
  have M := may k l; rw [h] at M
  have HM := Lib.hid M; clear M h
  go_enter Tryd.func16, Tryd.ntmps16
  go_wp2_with fail
  refine (HM.out _).mono ?_
  rintro e w1 ⟨rfl, b1⟩
  go_wp2
  go_ret
  exact ⟨rfl, ((Below.refl _ w).alloc (Nat.le_refl _) _).trans (b1.mono (by simp))⟩
theorem text_rest (l : Int) (h : mayB 0 l = true) (w : World) : Calls Tryd.prog 16 #[ph 0 l] w fun e w' => e = .returned (.string ⟨#[114, 101, 115, 116, 115]⟩) ∧ Below w.heap.size w w' := by
  have M := may 0 l; rw [h] at M
  have HM := Lib.hid M; clear M h
  go_enter Tryd.func16, Tryd.ntmps16
  go_wp2_with fail
  refine (HM.out _).mono ?_
  rintro e w1 ⟨rfl, b1⟩
  have c1 : w1.cell? ⟨w.heap.size, 0, none⟩ = some (.int .u8 0) := by rw [b1.cell (p := ⟨w.heap.size, 0, none⟩) (by simp)]; simp [go_sem]
  go_wp2
  go_ret
  exact ⟨rfl, ((Below.refl _ w).alloc (Nat.le_refl _) _).trans (b1.mono (by simp))⟩
set_option maxHeartbeats 4000000 in
theorem text_waits (l : Int) (h : mayB 1 l = true) (hl : frB l = true) (w : World) : Calls Tryd.prog 16 #[ph 1 l] w fun e w' => e = .returned (.string (⟨#[119, 97, 105, 116, 115, 32]⟩ ++ dig l)) ∧ Below w.heap.size w w' := by
  have M := may 1 l; rw [h] at M
  have HM := Lib.hid M; have HL := Lib.hid hl; clear M h hl
  have hix : ∀ W : World, Sem.run Tryd.prog (Instr.index 50 (.agg #[.string ⟨#[]⟩, .string ⟨#[119, 97, 105, 116, 115, 32]⟩, .string ⟨#[116, 114, 105, 97, 108, 32]⟩]) (.int .u8 1)) W = .ok (.string ⟨#[119, 97, 105, 116, 115, 32]⟩) W := fun W => by simp [Instr.index, go_sem]
  go_enter Tryd.func16, Tryd.ntmps16
  go_wp2_with fail
  refine (HM.out _).mono ?_
  rintro e w1 ⟨rfl, b1⟩
  have c1 : w1.cell? ⟨w.heap.size, 0, none⟩ = some (.int .u8 1) := by rw [b1.cell (p := ⟨w.heap.size, 0, none⟩) (by simp)]; simp [go_sem]
  have c2 : w1.cell? ⟨w.heap.size, 1, none⟩ = some (.int .i64 l) := by rw [b1.cell (p := ⟨w.heap.size, 1, none⟩) (by simp)]; simp [go_sem]
  go_wp2
  go_region_with (go_at_call 22; refine (itoa l HL.out _).mono ?_; rintro e w2 ⟨rfl, rfl⟩)
  all_goals go_wp2
  all_goals go_ret
  all_goals exact ⟨rfl, by repeat (first | exact (((Below.refl _ w).alloc (Nat.le_refl _) _).trans (b1.mono (by simp))) | refine Below.drew ?_)⟩
set_option maxHeartbeats 4000000 in
theorem text_trial (l : Int) (h : mayB 2 l = true) (hl : frB l = true) (w : World) : Calls Tryd.prog 16 #[ph 2 l] w fun e w' => e = .returned (.string (⟨#[116, 114, 105, 97, 108, 32]⟩ ++ dig l)) ∧ Below w.heap.size w w' := by
  have M := may 2 l; rw [h] at M
  have HM := Lib.hid M; have HL := Lib.hid hl; clear M h hl
  have hix : ∀ W : World, Sem.run Tryd.prog (Instr.index 50 (.agg #[.string ⟨#[]⟩, .string ⟨#[119, 97, 105, 116, 115, 32]⟩, .string ⟨#[116, 114, 105, 97, 108, 32]⟩]) (.int .u8 2)) W = .ok (.string ⟨#[116, 114, 105, 97, 108, 32]⟩) W := fun W => by simp [Instr.index, go_sem]
  go_enter Tryd.func16, Tryd.ntmps16
  go_wp2_with fail
  refine (HM.out _).mono ?_
  rintro e w1 ⟨rfl, b1⟩
  have c1 : w1.cell? ⟨w.heap.size, 0, none⟩ = some (.int .u8 2) := by rw [b1.cell (p := ⟨w.heap.size, 0, none⟩) (by simp)]; simp [go_sem]
  have c2 : w1.cell? ⟨w.heap.size, 1, none⟩ = some (.int .i64 l) := by rw [b1.cell (p := ⟨w.heap.size, 1, none⟩) (by simp)]; simp [go_sem]
  go_wp2
  go_region_with (go_at_call 22; refine (itoa l HL.out _).mono ?_; rintro e w2 ⟨rfl, rfl⟩)
  all_goals go_wp2
  all_goals go_ret
  all_goals exact ⟨rfl, by repeat (first | exact (((Below.refl _ w).alloc (Nat.le_refl _) _).trans (b1.mono (by simp))) | refine Below.drew ?_)⟩
end Go.Proofs.YtojielokkpmjeaaDoor.tr
