/- Calls of a partition: the calls' names; no condition. -/
import Derived.Test.YthkkmnckidfmkaaRows
import Derived.Test.YthkkmnckidfmkaaHyJ
namespace Go.Proofs.Ythkkmnckidfmkaa.hy
open Go Go.ChangeShapes Go.WideShapes Go.ChangeAt Go.RowKit Go.Proofs.Ythkkmnckidfmkaa.rows
/-- A call's name. -/
def nameV (n : Int) : ByteArray := if n = 0 then ⟨#[121, 105, 101, 108, 100]⟩ else if n = 1 then ⟨#[115, 101, 110, 100]⟩ else if n = 2 then ⟨#[114, 101, 99, 101, 105, 118, 101]⟩ else if n = 3 then ⟨#[110, 111, 119]⟩ else if n = 4 then ⟨#[105, 110, 112, 117, 116]⟩ else if n = 5 then ⟨#[115, 101, 108, 102]⟩ else if n = 6 then ⟨#[104, 97, 108, 116]⟩ else ⟨#[]⟩
theorem nameV_out {n : Int} (h : n < 0 ∨ 7 ≤ n) : nameV n = ⟨#[]⟩ := by
  unfold nameV
  rw [if_neg (by omega), if_neg (by omega), if_neg (by omega), if_neg (by omega), if_neg (by omega), if_neg (by omega), if_neg (by omega)]
set_option maxHeartbeats 2000000 in
theorem name (n : Int) (w : World) : Calls Try.prog 12 #[.int .i64 n] w fun e w' => e = .returned (.string (nameV n)) ∧ Below w.heap.size w w' := by
  have B0 := Lib.hid (ext1 w (.cells #[.int .i64 0, .int .i64 0, .bool false, .int .u32 0, .int .u32 0, .int .u32 0, .int .u32 0, .int .u32 0, .int .u32 0, .int .u32 0, .int .u32 0, .int .u32 0, .int .u8 0, .slice none 0 0, .int .i64 0, .int .i64 0, .int .i64 0, .slice none 0 0, .slice none 0 0, .bool false] 61))
  have T := Lib.hid (calls w.heap.size (w.alloc (.cells #[.int .i64 0, .int .i64 0, .bool false, .int .u32 0, .int .u32 0, .int .u32 0, .int .u32 0, .int .u32 0, .int .u32 0, .int .u32 0, .int .u32 0, .int .u32 0, .int .u8 0, .slice none 0 0, .int .i64 0, .int .i64 0, .int .i64 0, .slice none 0 0, .slice none 0 0, .bool false] 61)))
  go_enter Try.func12, Try.ntmps12
  go_wp2_with fail
  refine T.out.mono ?_
  rintro e w1 ⟨rfl, b1⟩
  clear T
  have B1 := Lib.hid (B0.out.trans (b1.mono B0.out.size)); clear b1
  have ZG := Lib.hid (blk_new w1 #[.string { data := #[] }, .nilFunc, .string { data := #[] }, .nilFunc, .string { data := #[] }, .nilFunc, .string { data := #[] }, .nilFunc, .string { data := #[] }, .nilFunc, .string { data := #[] }, .nilFunc, .string { data := #[] }, .nilFunc] 64)
  have ZB := Lib.hid (ext1 w1 (.cells #[.string { data := #[] }, .nilFunc, .string { data := #[] }, .nilFunc, .string { data := #[] }, .nilFunc, .string { data := #[] }, .nilFunc, .string { data := #[] }, .nilFunc, .string { data := #[] }, .nilFunc, .string { data := #[] }, .nilFunc] 64))
  go_wp2_with (refine wpList_store_at rfl 64 (.tmp 3) (.tmp 6) rfl w1.heap.size (calls14 w.heap.size) rfl rfl 64 _ ZG.out info_calls rfl (by simp [calls14, Value.oneCell']) ?_)
  intro w5 hw5
  have R5 := Lib.hid (blk_row ZG.out (calls14 w.heap.size))
  have b5 := below_row (B := w1.heap.size) ZB.out (Nat.le_refl _) (calls14 w.heap.size)
  rw [← hw5.out] at R5 b5
  have B5 := Lib.hid (B1.out.trans (b5.mono B1.out.size))
  clear hw5 b5 ZG ZB B1
  by_cases hn0 : n < 0
  · have HV := Lib.hid (nameV_out (n := n) (Or.inl hn0))
    have hn1 : (n < 0) = True := eq_true hn0
    clear hn0
    go_wp2
    go_ret
    exact ⟨by rw [HV.out]; rfl, B5.out⟩
  by_cases hn7 : 7 ≤ n
  · have HV := Lib.hid (nameV_out (n := n) (Or.inr hn7))
    have hn1 : (n < 0) = False := eq_false hn0
    have hn2 : ((7 : Int) ≤ n) = True := eq_true hn7
    clear hn0 hn7
    go_wp2
    go_ret
    exact ⟨by rw [HV.out]; rfl, B5.out⟩
  have hn8 : n = 0 ∨ n = 1 ∨ n = 2 ∨ n = 3 ∨ n = 4 ∨ n = 5 ∨ n = 6 := by omega
  clear hn0 hn7
  rcases hn8 with rfl | rfl | rfl | rfl | rfl | rfl | rfl
  · have cg := (blk_cell R5.out 0).trans (show (calls14 w.heap.size)[0]? = some (.string ⟨#[121, 105, 101, 108, 100]⟩) from rfl)
    go_wp2
    go_ret
    exact ⟨rfl, B5.out⟩
  · have cg := (blk_cell R5.out 2).trans (show (calls14 w.heap.size)[2]? = some (.string ⟨#[115, 101, 110, 100]⟩) from rfl)
    go_wp2
    go_ret
    exact ⟨rfl, B5.out⟩
  · have cg := (blk_cell R5.out 4).trans (show (calls14 w.heap.size)[4]? = some (.string ⟨#[114, 101, 99, 101, 105, 118, 101]⟩) from rfl)
    go_wp2
    go_ret
    exact ⟨rfl, B5.out⟩
  · have cg := (blk_cell R5.out 6).trans (show (calls14 w.heap.size)[6]? = some (.string ⟨#[110, 111, 119]⟩) from rfl)
    go_wp2
    go_ret
    exact ⟨rfl, B5.out⟩
  · have cg := (blk_cell R5.out 8).trans (show (calls14 w.heap.size)[8]? = some (.string ⟨#[105, 110, 112, 117, 116]⟩) from rfl)
    go_wp2
    go_ret
    exact ⟨rfl, B5.out⟩
  · have cg := (blk_cell R5.out 10).trans (show (calls14 w.heap.size)[10]? = some (.string ⟨#[115, 101, 108, 102]⟩) from rfl)
    go_wp2
    go_ret
    exact ⟨rfl, B5.out⟩
  · have cg := (blk_cell R5.out 12).trans (show (calls14 w.heap.size)[12]? = some (.string ⟨#[104, 97, 108, 116]⟩) from rfl)
    go_wp2
    go_ret
    exact ⟨rfl, B5.out⟩
end Go.Proofs.Ythkkmnckidfmkaa.hy
