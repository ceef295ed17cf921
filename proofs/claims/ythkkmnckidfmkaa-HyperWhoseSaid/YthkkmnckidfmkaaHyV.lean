/- Calls of a partition: like parts are told to be the same; no condition. -/
import Derived.Test.YthkkmnckidfmkaaRows
import Derived.Test.YthkkmnckidfmkaaHyG
import Derived.Test.YthkkmnckidfmkaaHyCh1
namespace Go.Proofs.Ythkkmnckidfmkaa.hy
open Go Go.ChangeShapes Go.WideShapes Go.ChangeAt Go.RowKit Go.Proofs.Ythkkmnckidfmkaa.rows
theorem eql_arr (r0 r1 r2 r3 r4 r5 r6 r7 : Int) (W : World) : Sem.run Try.prog (Op.equalIn 10000 23 (.agg #[.int .u32 r0, .int .u32 r1, .int .u32 r2, .int .u32 r3, .int .u32 r4, .int .u32 r5, .int .u32 r6, .int .u32 r7]) (.agg #[.int .u32 r0, .int .u32 r1, .int .u32 r2, .int .u32 r3, .int .u32 r4, .int .u32 r5, .int .u32 r6, .int .u32 r7])) W = .ok true W := by
  obtain ⟨i, hi⟩ : ∃ i, Try.prog.info? 22 = some i := Option.isSome_iff_exists.1 (by kernel_rfl)
  have hc : Try.prog.cellsOf 22 = 1 := by kernel_rfl
  have hp : ∀ (xs : Array Value) (j : Nat) (v : Int), xs[j]? = some (.int .u32 v) → Sem.run Try.prog (Go.part 22 xs j) W = .ok (.int .u32 v) W := by
    intro xs j v h
    simp [Go.part, go_sem, h]
  rw [show (10000 : Nat) = 9999 + 1 from rfl, Go.run_equalIn_array (w := W) 9999 _ _ Try.underlying23 hi, hc, show List.range 8 = [0,1,2,3,4,5,6,7] by decide]
  have he : ∀ v : Int, Sem.run Try.prog (Op.equalIn 9999 22 (.int .u32 v) (.int .u32 v)) W = .ok true W := fun v => by
    rw [show (9999 : Nat) = 9998 + 1 from rfl, run_equalIn_int (w := W) 9998 _ _ _ _ _ Try.underlying22]; simp
  have P0 := fun j v => hp #[.int .u32 r0, .int .u32 r1, .int .u32 r2, .int .u32 r3, .int .u32 r4, .int .u32 r5, .int .u32 r6, .int .u32 r7] j v
  have p0 := P0 0 r0 rfl; have p1 := P0 1 r1 rfl; have p2 := P0 2 r2 rfl; have p3 := P0 3 r3 rfl; have p4 := P0 4 r4 rfl; have p5 := P0 5 r5 rfl; have p6 := P0 6 r6 rfl; have p7 := P0 7 r7 rfl
  simp only [Op.eqItems, Sem.run_bind, Nat.mul_one, p0, p1, p2, p3, p4, p5, p6, p7, he, Result.andThen_ok, Bool.not_true, if_false, Sem.run_pure, Bool.false_eq_true]
set_option maxRecDepth 100000 in
set_option maxHeartbeats 4000000 in
theorem vmSame (x : Pt) (A B : Option Addr) (n c d : Nat) (hn : x.mem.length = n) (w : World) (h1 : Rd w A (bcs x.mem)) (h2 : Rd w B (bcs x.mem)) :
    Calls Try.prog 10 #[.agg #[.int .i64 x.id, .int .i64 x.size, .bool x.keep, .int .u32 x.r0, .int .u32 x.r1, .int .u32 x.r2, .int .u32 x.r3, .int .u32 x.r4, .int .u32 x.r5, .int .u32 x.r6, .int .u32 x.r7, .int .u32 x.pc, .int .u8 x.st, .slice A n c], .agg #[.int .i64 x.id, .int .i64 x.size, .bool x.keep, .int .u32 x.r0, .int .u32 x.r1, .int .u32 x.r2, .int .u32 x.r3, .int .u32 x.r4, .int .u32 x.r5, .int .u32 x.r6, .int .u32 x.r7, .int .u32 x.pc, .int .u8 x.st, .slice B n d]] w fun e w' => e = .returned (.bool true) ∧ Below w.heap.size w w' := by
  have hB := (((Below.refl w.heap.size w).alloc (Nat.le_refl _) (.cells #[.int .i64 x.id, .int .i64 x.size, .bool x.keep, .int .u32 x.r0, .int .u32 x.r1, .int .u32 x.r2, .int .u32 x.r3, .int .u32 x.r4, .int .u32 x.r5, .int .u32 x.r6, .int .u32 x.r7, .int .u32 x.pc, .int .u8 x.st, .slice A n c] 26)).alloc (by simp) (.cells #[.int .i64 x.id, .int .i64 x.size, .bool x.keep, .int .u32 x.r0, .int .u32 x.r1, .int .u32 x.r2, .int .u32 x.r3, .int .u32 x.r4, .int .u32 x.r5, .int .u32 x.r6, .int .u32 x.r7, .int .u32 x.pc, .int .u8 x.st, .slice B n d] 26))
  have hs : ((w.alloc (.cells #[.int .i64 x.id, .int .i64 x.size, .bool x.keep, .int .u32 x.r0, .int .u32 x.r1, .int .u32 x.r2, .int .u32 x.r3, .int .u32 x.r4, .int .u32 x.r5, .int .u32 x.r6, .int .u32 x.r7, .int .u32 x.pc, .int .u8 x.st, .slice A n c] 26)).alloc (.cells #[.int .i64 x.id, .int .i64 x.size, .bool x.keep, .int .u32 x.r0, .int .u32 x.r1, .int .u32 x.r2, .int .u32 x.r3, .int .u32 x.r4, .int .u32 x.r5, .int .u32 x.r6, .int .u32 x.r7, .int .u32 x.pc, .int .u8 x.st, .slice B n d] 26)).heap.size = w.heap.size + 2 := by simp
  have G0 := Lib.hid (blk_alloc (blk_new w #[.int .i64 x.id, .int .i64 x.size, .bool x.keep, .int .u32 x.r0, .int .u32 x.r1, .int .u32 x.r2, .int .u32 x.r3, .int .u32 x.r4, .int .u32 x.r5, .int .u32 x.r6, .int .u32 x.r7, .int .u32 x.pc, .int .u8 x.st, .slice A n c] 26) (.cells #[.int .i64 x.id, .int .i64 x.size, .bool x.keep, .int .u32 x.r0, .int .u32 x.r1, .int .u32 x.r2, .int .u32 x.r3, .int .u32 x.r4, .int .u32 x.r5, .int .u32 x.r6, .int .u32 x.r7, .int .u32 x.pc, .int .u8 x.st, .slice B n d] 26))
  have G1 := Lib.hid (show ((w.alloc (.cells #[.int .i64 x.id, .int .i64 x.size, .bool x.keep, .int .u32 x.r0, .int .u32 x.r1, .int .u32 x.r2, .int .u32 x.r3, .int .u32 x.r4, .int .u32 x.r5, .int .u32 x.r6, .int .u32 x.r7, .int .u32 x.pc, .int .u8 x.st, .slice A n c] 26)).alloc (.cells #[.int .i64 x.id, .int .i64 x.size, .bool x.keep, .int .u32 x.r0, .int .u32 x.r1, .int .u32 x.r2, .int .u32 x.r3, .int .u32 x.r4, .int .u32 x.r5, .int .u32 x.r6, .int .u32 x.r7, .int .u32 x.pc, .int .u8 x.st, .slice B n d] 26)).heap[w.heap.size + 1]? = some (.cells #[.int .i64 x.id, .int .i64 x.size, .bool x.keep, .int .u32 x.r0, .int .u32 x.r1, .int .u32 x.r2, .int .u32 x.r3, .int .u32 x.r4, .int .u32 x.r5, .int .u32 x.r6, .int .u32 x.r7, .int .u32 x.pc, .int .u8 x.st, .slice B n d] 26 (0, 0)) by have := blk_new (w.alloc (.cells #[.int .i64 x.id, .int .i64 x.size, .bool x.keep, .int .u32 x.r0, .int .u32 x.r1, .int .u32 x.r2, .int .u32 x.r3, .int .u32 x.r4, .int .u32 x.r5, .int .u32 x.r6, .int .u32 x.r7, .int .u32 x.pc, .int .u8 x.st, .slice A n c] 26)) #[.int .i64 x.id, .int .i64 x.size, .bool x.keep, .int .u32 x.r0, .int .u32 x.r1, .int .u32 x.r2, .int .u32 x.r3, .int .u32 x.r4, .int .u32 x.r5, .int .u32 x.r6, .int .u32 x.r7, .int .u32 x.pc, .int .u8 x.st, .slice B n d] 26; simpa using this)
  have T := Lib.hid (fun W (hW : Below w.heap.size w W) => chan.bytesEqual x.mem x.mem A B c d true (decide_eq_true rfl) W (h1.below hW) (h2.below hW))
  rw [hn] at T
  have HB := Lib.hid hB
  have a0 := blk_cell G0.out 0
  have b0 := blk_cell G1.out 0
  have a1 := blk_cell G0.out 1
  have b1 := blk_cell G1.out 1
  have a2 := blk_cell G0.out 2
  have b2 := blk_cell G1.out 2
  have a3 := blk_cell G0.out 3
  have b3 := blk_cell G1.out 3
  have a4 := blk_cell G0.out 4
  have b4 := blk_cell G1.out 4
  have a5 := blk_cell G0.out 5
  have b5 := blk_cell G1.out 5
  have a6 := blk_cell G0.out 6
  have b6 := blk_cell G1.out 6
  have a7 := blk_cell G0.out 7
  have b7 := blk_cell G1.out 7
  have a8 := blk_cell G0.out 8
  have b8 := blk_cell G1.out 8
  have a9 := blk_cell G0.out 9
  have b9 := blk_cell G1.out 9
  have a10 := blk_cell G0.out 10
  have b10 := blk_cell G1.out 10
  have a11 := blk_cell G0.out 11
  have b11 := blk_cell G1.out 11
  have a12 := blk_cell G0.out 12
  have b12 := blk_cell G1.out 12
  have a13 := blk_cell G0.out 13
  have b13 := blk_cell G1.out 13
  have HE := fun W => eql_arr x.r0 x.r1 x.r2 x.r3 x.r4 x.r5 x.r6 x.r7 W
  clear hB hs h1 h2 hn
  go_enter Try.func10, Try.ntmps10
  go_wp2_with fail
  refine (T.out _ HB.out).mono ?_
  rintro e w1 ⟨rfl, rfl⟩
  clear a0 a1 a2 a3 a4 a5 a6 a7 a8 a9 a10 a11 a12 a13 b0 b1 b2 b3 b4 b5 b6 b7 b8 b9 b10 b11 b12 b13
  go_wp2
  go_ret
  exact ⟨rfl, HB.out⟩
end Go.Proofs.Ythkkmnckidfmkaa.hy
