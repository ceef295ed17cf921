/- Moves: data that is the same is told to be; is a number in a row; no condition. -/
import Derived.Test.YtnfjkpeifleogaaRows
import Derived.Test.YtnfjkpeifleogaaMvG
import Derived.RegionTactic
import Derived.ChangeKeysEq
namespace Go.Proofs.Ytnfjkpeifleogaa.mv
open Go Go.ChangeShapes Go.WideShapes Go.ChangeAt Go.RowKit Go.Proofs.Ytnfjkpeifleogaa.rows
theorem eql_arr (r0 r1 r2 r3 r4 r5 r6 r7 : Int) (W : World) : Sem.run Try.prog (Op.equalIn 10000 42 (.agg #[.int .u32 r0, .int .u32 r1, .int .u32 r2, .int .u32 r3, .int .u32 r4, .int .u32 r5, .int .u32 r6, .int .u32 r7]) (.agg #[.int .u32 r0, .int .u32 r1, .int .u32 r2, .int .u32 r3, .int .u32 r4, .int .u32 r5, .int .u32 r6, .int .u32 r7])) W = .ok true W := by
  obtain ⟨i, hi⟩ : ∃ i, Try.prog.info? 41 = some i := Option.isSome_iff_exists.1 (by kernel_rfl)
  have hc : Try.prog.cellsOf 41 = 1 := by kernel_rfl
  have hp : ∀ (xs : Array Value) (j : Nat) (v : Int), xs[j]? = some (.int .u32 v) → Sem.run Try.prog (part 41 xs j) W = .ok (.int .u32 v) W := by
    intro xs j v h
    simp [part, go_sem, h]
  rw [show (10000 : Nat) = 9999 + 1 from rfl, Go.run_equalIn_array (w := W) 9999 _ _ Try.underlying42 hi, hc, show List.range 8 = [0,1,2,3,4,5,6,7] by decide]
  have he : ∀ v : Int, Sem.run Try.prog (Op.equalIn 9999 41 (.int .u32 v) (.int .u32 v)) W = .ok true W := fun v => by
    rw [show (9999 : Nat) = 9998 + 1 from rfl, run_equalIn_int (w := W) 9998 _ _ _ _ _ Try.underlying41]; simp
  have P0 := fun j v => hp #[.int .u32 r0, .int .u32 r1, .int .u32 r2, .int .u32 r3, .int .u32 r4, .int .u32 r5, .int .u32 r6, .int .u32 r7] j v
  have p0 := P0 0 r0 rfl; have p1 := P0 1 r1 rfl; have p2 := P0 2 r2 rfl; have p3 := P0 3 r3 rfl; have p4 := P0 4 r4 rfl; have p5 := P0 5 r5 rfl; have p6 := P0 6 r6 rfl; have p7 := P0 7 r7 rfl
  simp only [Op.eqItems, Sem.run_bind, Nat.mul_one, p0, p1, p2, p3, p4, p5, p6, p7, he, Result.andThen_ok, Bool.not_true, if_false, Sem.run_pure, Bool.false_eq_true]
set_option maxHeartbeats 2000000 in
theorem order_eq (l : Msg) (A B : Option Addr) (n c d : Nat) (hn : l.length = n) (h63 : n ≤ 1000000) (w : World) (h1 : Rd w A (bcs l)) (h2 : Rd w B (bcs l)) :
    Calls Try.prog 39 #[.slice A n c, .slice B n d] w fun e w' => e = .returned (.int .i64 0) ∧ Below w.heap.size w w' := by
  have h63' : (n : Int) ≤ 1000000 := by omega
  have H1 := Lib.hid h1; have H2 := Lib.hid h2; have HN := Lib.hid hn
  clear h1 h2 hn
  go_enter Try.func39, Try.ntmps39
  go_wp2
  go_loopw [5] (fun iv wr => ∃ k : Nat, k ≤ n ∧ iv = .int .i64 k ∧ Below w.heap.size w wr) (fun iv _ => n - (intOf iv).toNat)
  case atStart => exact ⟨0, Nat.zero_le _, rfl, Below.refl _ _⟩
  case round =>
    obtain ⟨k, hk, rfl, hb⟩ := hrel
    have HB := Lib.hid hb
    by_cases hkl : k < n
    · have hki : (k : Int) < (n : Int) := by omega
      obtain ⟨b1, o1, rfl, _⟩ := H1.out.addr (by rw [bcs_length, HN.out]; omega)
      obtain ⟨b2, o2, rfl, _⟩ := H2.out.addr (by rw [bcs_length, HN.out]; omega)
      obtain ⟨x, hx⟩ : ∃ x, l[k]? = some x := ⟨_, List.getElem?_eq_getElem (by rw [HN.out]; exact hkl)⟩
      have c1 := (H1.out.below hb).cell (bcs_at hx)
      have c2 := (H2.out.below hb).cell (bcs_at hx)
      clear hx hb
      generalize (x.toNat : Int) = X at *
      have e1 : decide (X < X) = false := by simp
      go_wp2_with fail
      go_quiet (fail)
      go_wp2_with fail
      go_quiet (fail)
      go_wp2_with fail
      go_roundw
      case rel => exact ⟨k + 1, by omega, by go_num, by first | exact below_drewN (below_drewN HB.out _) _ | exact below_drewN HB.out _⟩
      case measure => simp [intOf]; omega
    · have hkn : n = k := by omega
      subst hkn
      clear hb
      have e1 : decide ((n : Int) < (n : Int)) = false := by simp
      go_wp2
      go_ret
      exact ⟨rfl, HB.out⟩
theorem same_eq (l : Msg) (A B : Option Addr) (n c d : Nat) (hn : l.length = n) (h63 : n ≤ 1000000) (w : World) (h1 : Rd w A (bcs l)) (h2 : Rd w B (bcs l)) :
    Calls Try.prog 27 #[.slice A n c, .slice B n d] w fun e w' => e = .returned (.bool true) ∧ Below w.heap.size w w' := by
  have T := Lib.hid (order_eq l A B n c d hn h63 w h1 h2)
  clear h1 h2 hn
  go_enter Try.func27, Try.ntmps27
  go_wp2_with fail
  refine T.out.mono ?_
  rintro e w1 ⟨rfl, b1⟩
  have B1 := Lib.hid b1; clear b1
  go_wp2
  go_ret
  exact ⟨rfl, B1.out⟩
set_option maxHeartbeats 2000000 in
theorem has (l : List Int) (x : Int) (A : Option Addr) (n c : Nat) (hn : l.length = n) (h63 : n ≤ 1000000) (w : World) (h : Rd w A (ints .i64 l)) :
    Calls Try.prog 13 #[.slice A n c, .int .i64 x] w fun e w' => e = .returned (.bool (decide (x ∈ l))) ∧ Below w.heap.size w w' := by
  have h63' : (n : Int) ≤ 1000000 := by omega
  have H := Lib.hid h; have HN := Lib.hid hn
  clear h hn
  go_enter Try.func13, Try.ntmps13
  go_wp2
  go_loopw [5] (fun iv wr => ∃ k : Nat, k ≤ n ∧ iv = .int .i64 k ∧ (∀ (j : Nat) (y : Int), j < k → l[j]? = some y → y ≠ x) ∧ wr = w) (fun iv _ => n - (intOf iv).toNat)
  case atStart => exact ⟨0, Nat.zero_le _, rfl, (fun j y hj => absurd hj (Nat.not_lt_zero _)), rfl⟩
  case round =>
    obtain ⟨k, hk, rfl, hno, rfl⟩ := hrel
    have HNO := Lib.hid hno; clear hno
    by_cases hkl : k < n
    · have hki : (k : Int) < (n : Int) := by omega
      obtain ⟨b1, o1, rfl, _⟩ := H.out.addr (by rw [ints_length, HN.out]; omega)
      obtain ⟨y, hy⟩ : ∃ y, l[k]? = some y := ⟨_, List.getElem?_eq_getElem (by rw [HN.out]; exact hkl)⟩
      have c1 := H.out.cell (ints_at hy)
      have HY := Lib.hid hy; clear hy
      by_cases hxy : y = x
      · subst hxy
        have HM := Lib.hid (decide_eq_true (List.mem_of_getElem? HY.out))
        go_wp2
        go_ret
        exact ⟨by rw [HM.out]; rfl, Below.refl _ _⟩
      · have e1 : (y == x) = false := by rw [beq_eq_false_iff_ne]; exact hxy
        have HXY := Lib.hid hxy; clear hxy
        go_wp2
        go_roundw
        case rel => exact ⟨k + 1, by omega, by go_num, (fun j z hj hz => (Nat.lt_or_eq_of_le (Nat.lt_succ_iff.1 hj)).elim (fun h => HNO.out j z h hz) (fun h => by subst h; rw [HY.out] at hz; injection hz with hz; subst hz; exact HXY.out)), trivial⟩
        case measure => simp [intOf]; omega
    · have hkn : n = k := by omega
      subst hkn
      have HM := Lib.hid (show decide (x ∈ l) = false by
        apply decide_eq_false; intro hm; obtain ⟨j, hj⟩ := List.mem_iff_getElem?.1 hm
        exact HNO.out j x (by rw [← HN.out]; exact (List.getElem?_eq_some_iff.1 hj).1) hj rfl)
      go_wp2
      go_ret
      exact ⟨by rw [HM.out]; rfl, Below.refl _ _⟩
set_option maxRecDepth 100000 in
set_option maxHeartbeats 4000000 in
theorem part_eq (x : Pt) (A B : Option Addr) (n c d : Nat) (hn : x.mem.length = n) (h63 : n ≤ 1000000) (w : World) (h1 : Rd w A (bcs x.mem)) (h2 : Rd w B (bcs x.mem)) :
    Calls Try.prog 14 #[.agg #[.int .i64 x.id, .int .i64 x.size, .bool x.keep, .int .u32 x.r0, .int .u32 x.r1, .int .u32 x.r2, .int .u32 x.r3, .int .u32 x.r4, .int .u32 x.r5, .int .u32 x.r6, .int .u32 x.r7, .int .u32 x.pc, .int .u8 x.st, .slice A n c], .agg #[.int .i64 x.id, .int .i64 x.size, .bool x.keep, .int .u32 x.r0, .int .u32 x.r1, .int .u32 x.r2, .int .u32 x.r3, .int .u32 x.r4, .int .u32 x.r5, .int .u32 x.r6, .int .u32 x.r7, .int .u32 x.pc, .int .u8 x.st, .slice B n d]] w fun e w' => e = .returned (.bool true) ∧ Below w.heap.size w w' := by
  have hB := (((Below.refl w.heap.size w).alloc (Nat.le_refl _) (.cells #[.int .i64 x.id, .int .i64 x.size, .bool x.keep, .int .u32 x.r0, .int .u32 x.r1, .int .u32 x.r2, .int .u32 x.r3, .int .u32 x.r4, .int .u32 x.r5, .int .u32 x.r6, .int .u32 x.r7, .int .u32 x.pc, .int .u8 x.st, .slice A n c] 44)).alloc (by simp) (.cells #[.int .i64 x.id, .int .i64 x.size, .bool x.keep, .int .u32 x.r0, .int .u32 x.r1, .int .u32 x.r2, .int .u32 x.r3, .int .u32 x.r4, .int .u32 x.r5, .int .u32 x.r6, .int .u32 x.r7, .int .u32 x.pc, .int .u8 x.st, .slice B n d] 44))
  have hs : ((w.alloc (.cells #[.int .i64 x.id, .int .i64 x.size, .bool x.keep, .int .u32 x.r0, .int .u32 x.r1, .int .u32 x.r2, .int .u32 x.r3, .int .u32 x.r4, .int .u32 x.r5, .int .u32 x.r6, .int .u32 x.r7, .int .u32 x.pc, .int .u8 x.st, .slice A n c] 44)).alloc (.cells #[.int .i64 x.id, .int .i64 x.size, .bool x.keep, .int .u32 x.r0, .int .u32 x.r1, .int .u32 x.r2, .int .u32 x.r3, .int .u32 x.r4, .int .u32 x.r5, .int .u32 x.r6, .int .u32 x.r7, .int .u32 x.pc, .int .u8 x.st, .slice B n d] 44)).heap.size = w.heap.size + 2 := by simp
  have G0 := Lib.hid (blk_alloc (blk_new w #[.int .i64 x.id, .int .i64 x.size, .bool x.keep, .int .u32 x.r0, .int .u32 x.r1, .int .u32 x.r2, .int .u32 x.r3, .int .u32 x.r4, .int .u32 x.r5, .int .u32 x.r6, .int .u32 x.r7, .int .u32 x.pc, .int .u8 x.st, .slice A n c] 44) (.cells #[.int .i64 x.id, .int .i64 x.size, .bool x.keep, .int .u32 x.r0, .int .u32 x.r1, .int .u32 x.r2, .int .u32 x.r3, .int .u32 x.r4, .int .u32 x.r5, .int .u32 x.r6, .int .u32 x.r7, .int .u32 x.pc, .int .u8 x.st, .slice B n d] 44))
  have G1 := Lib.hid (show ((w.alloc (.cells #[.int .i64 x.id, .int .i64 x.size, .bool x.keep, .int .u32 x.r0, .int .u32 x.r1, .int .u32 x.r2, .int .u32 x.r3, .int .u32 x.r4, .int .u32 x.r5, .int .u32 x.r6, .int .u32 x.r7, .int .u32 x.pc, .int .u8 x.st, .slice A n c] 44)).alloc (.cells #[.int .i64 x.id, .int .i64 x.size, .bool x.keep, .int .u32 x.r0, .int .u32 x.r1, .int .u32 x.r2, .int .u32 x.r3, .int .u32 x.r4, .int .u32 x.r5, .int .u32 x.r6, .int .u32 x.r7, .int .u32 x.pc, .int .u8 x.st, .slice B n d] 44)).heap[w.heap.size + 1]? = some (.cells #[.int .i64 x.id, .int .i64 x.size, .bool x.keep, .int .u32 x.r0, .int .u32 x.r1, .int .u32 x.r2, .int .u32 x.r3, .int .u32 x.r4, .int .u32 x.r5, .int .u32 x.r6, .int .u32 x.r7, .int .u32 x.pc, .int .u8 x.st, .slice B n d] 44 (0, 0)) by have := blk_new (w.alloc (.cells #[.int .i64 x.id, .int .i64 x.size, .bool x.keep, .int .u32 x.r0, .int .u32 x.r1, .int .u32 x.r2, .int .u32 x.r3, .int .u32 x.r4, .int .u32 x.r5, .int .u32 x.r6, .int .u32 x.r7, .int .u32 x.pc, .int .u8 x.st, .slice A n c] 44)) #[.int .i64 x.id, .int .i64 x.size, .bool x.keep, .int .u32 x.r0, .int .u32 x.r1, .int .u32 x.r2, .int .u32 x.r3, .int .u32 x.r4, .int .u32 x.r5, .int .u32 x.r6, .int .u32 x.r7, .int .u32 x.pc, .int .u8 x.st, .slice B n d] 44; simpa using this)
  have T := Lib.hid (fun W (hW : Below w.heap.size w W) => same_eq x.mem A B n c d hn h63 W (h1.below hW) (h2.below hW))
  have HB := Lib.hid hB
  have a0 := blk_cell G0.out 0
  have b0 := blk_cell G1.out 0
  have a1 := blk_cell G0.out 1
  have b1 := blk_cell G1.out 1
  have a2 := blk_cell G0.out 2
  have b2 := blk_cell G1.out 2
  have a3 := blk_cell G0.out 3
  have b3 := blk_cell G1.out 3
  have a4 := blk_cell G0.out 4
  have b4 := blk_cell G1.out 4
  have a5 := blk_cell G0.out 5
  have b5 := blk_cell G1.out 5
  have a6 := blk_cell G0.out 6
  have b6 := blk_cell G1.out 6
  have a7 := blk_cell G0.out 7
  have b7 := blk_cell G1.out 7
  have a8 := blk_cell G0.out 8
  have b8 := blk_cell G1.out 8
  have a9 := blk_cell G0.out 9
  have b9 := blk_cell G1.out 9
  have a10 := blk_cell G0.out 10
  have b10 := blk_cell G1.out 10
  have a11 := blk_cell G0.out 11
  have b11 := blk_cell G1.out 11
  have a12 := blk_cell G0.out 12
  have b12 := blk_cell G1.out 12
  have a13 := blk_cell G0.out 13
  have b13 := blk_cell G1.out 13
  have HE := fun W => eql_arr x.r0 x.r1 x.r2 x.r3 x.r4 x.r5 x.r6 x.r7 W
  clear hB hs h1 h2 hn
  go_enter Try.func14, Try.ntmps14
  go_wp2_with fail
  refine (T.out _ HB.out).mono ?_
  rintro e w1 ⟨rfl, b1⟩
  have B1 := Lib.hid (HB.out.trans (b1.mono HB.out.size)); clear b1 a0 a1 a2 a3 a4 a5 a6 a7 a8 a9 a10 a11 a12 a13 b0 b2 b3 b4 b5 b6 b7 b8 b9 b10 b11 b12 b13
  go_wp2
  go_ret
  exact ⟨rfl, B1.out⟩
set_option maxRecDepth 100000 in
set_option maxHeartbeats 4000000 in
theorem queue_eq (ch : Ch) (ls : List Msg) (A B : Option Addr) (n c d : Nat) (hn : ls.length = n) (h63 : n ≤ 1000000) (hml : ∀ m ∈ ls, m.length ≤ 1000000) (w : World) (h1 : Rms w A ls) (h2 : Rms w B ls) :
    Calls Try.prog 22 #[.agg #[.int .i64 ch.id, .int .i64 ch.fr, .int .i64 ch.to, .int .i64 ch.cap, .int .i64 ch.sz, .slice A n c], .agg #[.int .i64 ch.id, .int .i64 ch.fr, .int .i64 ch.to, .int .i64 ch.cap, .int .i64 ch.sz, .slice B n d]] w fun e w' => e = .returned (.bool true) ∧ Below w.heap.size w w' := by
  have hB := (((Below.refl w.heap.size w).alloc (Nat.le_refl _) (.cells #[.int .i64 ch.id, .int .i64 ch.fr, .int .i64 ch.to, .int .i64 ch.cap, .int .i64 ch.sz, .slice A n c] 53)).alloc (by simp) (.cells #[.int .i64 ch.id, .int .i64 ch.fr, .int .i64 ch.to, .int .i64 ch.cap, .int .i64 ch.sz, .slice B n d] 53))
  have hs : ((w.alloc (.cells #[.int .i64 ch.id, .int .i64 ch.fr, .int .i64 ch.to, .int .i64 ch.cap, .int .i64 ch.sz, .slice A n c] 53)).alloc (.cells #[.int .i64 ch.id, .int .i64 ch.fr, .int .i64 ch.to, .int .i64 ch.cap, .int .i64 ch.sz, .slice B n d] 53)).heap.size = w.heap.size + 2 := by simp
  have G0 := Lib.hid (blk_alloc (blk_new w #[.int .i64 ch.id, .int .i64 ch.fr, .int .i64 ch.to, .int .i64 ch.cap, .int .i64 ch.sz, .slice A n c] 53) (.cells #[.int .i64 ch.id, .int .i64 ch.fr, .int .i64 ch.to, .int .i64 ch.cap, .int .i64 ch.sz, .slice B n d] 53))
  have G1 := Lib.hid (show ((w.alloc (.cells #[.int .i64 ch.id, .int .i64 ch.fr, .int .i64 ch.to, .int .i64 ch.cap, .int .i64 ch.sz, .slice A n c] 53)).alloc (.cells #[.int .i64 ch.id, .int .i64 ch.fr, .int .i64 ch.to, .int .i64 ch.cap, .int .i64 ch.sz, .slice B n d] 53)).heap[w.heap.size + 1]? = some (.cells #[.int .i64 ch.id, .int .i64 ch.fr, .int .i64 ch.to, .int .i64 ch.cap, .int .i64 ch.sz, .slice B n d] 53 (0, 0)) by have := blk_new (w.alloc (.cells #[.int .i64 ch.id, .int .i64 ch.fr, .int .i64 ch.to, .int .i64 ch.cap, .int .i64 ch.sz, .slice A n c] 53)) #[.int .i64 ch.id, .int .i64 ch.fr, .int .i64 ch.to, .int .i64 ch.cap, .int .i64 ch.sz, .slice B n d] 53; simpa using this)
  have h63' : (n : Int) ≤ 1000000 := by omega
  have H1 := Lib.hid (h1.below hB); have H2 := Lib.hid (h2.below hB); have HN := Lib.hid hn; have HML := Lib.hid hml
  have HB := Lib.hid hB; have HS := Lib.hid hs
  have a0 := blk_cell G0.out 0
  have b0 := blk_cell G1.out 0
  have a1 := blk_cell G0.out 1
  have b1 := blk_cell G1.out 1
  have a2 := blk_cell G0.out 2
  have b2 := blk_cell G1.out 2
  have a3 := blk_cell G0.out 3
  have b3 := blk_cell G1.out 3
  have a4 := blk_cell G0.out 4
  have b4 := blk_cell G1.out 4
  have a5 := blk_cell G0.out 5
  have b5 := blk_cell G1.out 5
  clear hB hs h1 h2 hn hml
  go_enter Try.func22, Try.ntmps22
  go_wp2_with fail
  clear a0 b0 a1 b1 a2 b2 a3 b3 a4 b4 a5 b5
  generalize ((w.alloc (.cells #[.int .i64 ch.id, .int .i64 ch.fr, .int .i64 ch.to, .int .i64 ch.cap, .int .i64 ch.sz, .slice A n c] 53)).alloc (.cells #[.int .i64 ch.id, .int .i64 ch.fr, .int .i64 ch.to, .int .i64 ch.cap, .int .i64 ch.sz, .slice B n d] 53)) = wb at *
  go_loopw [5] (fun iv wr => ∃ k : Nat, k ≤ n ∧ iv = .int .i64 k ∧ Below wb.heap.size wb wr) (fun iv _ => n - (intOf iv).toNat)
  case atStart => exact ⟨0, Nat.zero_le _, rfl, Below.refl _ _⟩
  case round =>
    obtain ⟨k, hk, rfl, hb⟩ := hrel
    have BR := Lib.hid hb
    have a5 := blk_cell (blk_below G0.out hb (blk_lt G0.out)) 5
    have b5 := blk_cell (blk_below G1.out hb (blk_lt G1.out)) 5
    by_cases hkl : k < n
    · have hki : (k : Int) < (n : Int) := by omega
      obtain ⟨b1, o1, rfl⟩ := H1.out.addr (by rw [HN.out]; omega)
      obtain ⟨b2, o2, rfl⟩ := H2.out.addr (by rw [HN.out]; omega)
      obtain ⟨l, hl⟩ : ∃ l, ls[k]? = some l := ⟨_, List.getElem?_eq_getElem (by rw [HN.out]; exact hkl)⟩
      obtain ⟨A1, c1, kx, _, _, rx⟩ := (H1.out.below hb).at hl
      obtain ⟨A2, c2, ky, _, _, ry⟩ := (H2.out.below hb).at hl
      have hll := HML.out l (List.mem_of_getElem? hl)
      obtain ⟨ln, hln⟩ : ∃ ln, l.length = ln := ⟨_, rfl⟩
      rw [hln] at kx ky hll
      have T := Lib.hid (fun W (hW : Below wr.heap.size wr W) => same_eq l A1 A2 ln c1 c2 hln hll W (rx.below hW) (ry.below hW))
      clear hl rx ry hln hll hb
      go_wp2_with fail
      go_region_with (go_at_call 27; refine (T.out _ (by exact below_drewN (Below.refl _ _) _)).mono ?_; rintro e w4 ⟨rfl, b4⟩; have B4 := Lib.hid (BR.out.trans ((below_drewN (Below.refl wr.heap.size wr) _).trans (b4.mono (by simp)) |>.mono BR.out.size)))
      all_goals (go_wp2_with fail
                 go_roundw
                 case rel => exact ⟨k + 1, by omega, by go_num, B4.out⟩
                 case measure => simp [intOf]; omega)
    · have hkn : n = k := by omega
      subst hkn
      clear hb
      go_wp2
      go_ret
      exact ⟨rfl, HB.out.trans (BR.out.mono HB.out.size)⟩
end Go.Proofs.Ytnfjkpeifleogaa.mv
