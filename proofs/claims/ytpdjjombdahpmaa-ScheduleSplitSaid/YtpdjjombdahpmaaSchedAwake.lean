/- The chapter's rows, which each law asks besides, are met; no condition. -/
import Derived.Test.YtpdjjombdahpmaaSchedWalkF
namespace Go.Proofs.Ytpdjjombdahpmaa
open Go Go.RowKit
def rowL : List Win := [(3, 1), (2, 0), (1, 2)]
theorem blk_step {w0 w1 : World} {g : Nat} {o : Obj} (h : w0.heap[g]? = some o) (hb : Below w0.heap.size w0 w1) : w1.heap[g]? = some o := blk_below h hb (Array.getElem?_eq_some_iff.1 h).1
theorem at_row (A : Option Addr) (w : World) (h : Rd w A (winCells rowL)) (t a b c d e : Int) (hat : atW rowL t = (a, b, c, d)) (hae : atE rowL t = e) :
    Calls Try.prog 8 #[.slice A 3 3, .int .i64 t] w fun x w' => x = .returned (.tuple #[.agg #[.int .i64 a, .int .i64 b, .int .i64 c, .int .i64 d], .int .i64 e]) ∧ Below w.heap.size w w' := by
  have := at_any rowL t A 3 w h (by decide)
  rw [hat, hae] at this
  exact this
theorem frame_row (A : Option Addr) (w : World) (h : Rd w A (winCells rowL)) : Calls Try.prog 12 #[.slice A 3 3] w fun x w' => x = .returned (.int .i64 6) ∧ Below w.heap.size w w' := by
  have := frame_any rowL A 3 w h (by decide)
  exact this
theorem ticks_row (A : Option Addr) (w : World) (h : Rd w A (winCells rowL)) (p n : Int) (hn : ticksW rowL p = n) : Calls Try.prog 16 #[.slice A 3 3, .int .i64 p] w fun x w' => x = .returned (.int .i64 n) ∧ Below w.heap.size w w' := by
  have := ticks_any rowL p A 3 w h (by decide)
  unfold TicksIs at this
  rw [hn] at this
  exact this
theorem may_row (l : List Win) (n : Nat) (hl : l.length = n) (hn : n ≤ 9223372036854775807) (A : Option Addr) (c : Nat) (w : World) (h : Rd w A (winCells l)) (b : Bool) (hb : mayW l = b) :
    Calls Try.prog 10 #[.slice A n c] w fun x w' => x = .returned (.bool b) ∧ Below w.heap.size w w' := by
  subst hl
  have := may_any l A c w h hn
  rw [hb] at this
  exact this
set_option maxHeartbeats 4000000 in
set_option maxRecDepth 100000 in
theorem awake_any (w : World) : Calls Try.prog 14 #[] w fun e w' => e = .returned (.bool true) ∧ Below w.heap.size w w' := by
  go_enter Try.func14, Try.ntmps14
  go_wp2_with fail
  have R0 : Rd (w.alloc (.cells #[.int .i64 3, .int .i64 1, .int .i64 2, .int .i64 0, .int .i64 1, .int .i64 2] 35)) (some ⟨w.heap.size, 0, none⟩) (winCells rowL) := Rd.new _ _ _
  have B0 : Below w.heap.size w (w.alloc (.cells #[.int .i64 3, .int .i64 1, .int .i64 2, .int .i64 0, .int .i64 1, .int .i64 2] 35)) := (Below.refl _ _).alloc (Nat.le_refl _) _
  refine (at_row _ _ R0 2 0 1 0 1 0 (by decide) (by decide)).mono ?_
  rintro e w1 ⟨rfl, b1⟩
  have R1 := R0.below b1
  have B1 := B0.trans (b1.mono (by simp))
  have z1 := b1.size
  simp only [World.size_alloc] at z1
  clear R0 B0 b1
  go_wp2_with fail
  refine (at_row _ _ (R1.alloc _) (3) 1 0 3 2 0 (by decide) (by decide)).mono ?_
  rintro e w2 ⟨rfl, b2⟩
  have R2 := (R1.alloc _).below b2
  have B2 := (B1.alloc (by omega) _).trans (b2.mono (by simp; omega))
  have z2 := b2.size
  simp only [World.size_alloc] at z2
  have K1 := Lib.hid (blk_step (blk_new w1 _ _) b2)
  clear R1 B1 b2
  go_wp2_with fail
  refine (at_row _ _ (R2.alloc _) (5) 2 2 5 1 0 (by decide) (by decide)).mono ?_
  rintro e w3 ⟨rfl, b3⟩
  have R3 := (R2.alloc _).below b3
  have B3 := (B2.alloc (by omega) _).trans (b3.mono (by simp; omega))
  have z3 := b3.size
  simp only [World.size_alloc] at z3
  have K1 := Lib.hid (blk_step (blk_alloc K1.out _) b3)
  have K2 := Lib.hid (blk_step (blk_new w2 _ _) b3)
  clear R2 B2 b3
  go_wp2_with fail
  refine (at_row _ _ (R3.alloc _) (6) 0 0 0 0 90 (by decide) (by decide)).mono ?_
  rintro e w4 ⟨rfl, b4⟩
  have R4 := (R3.alloc _).below b4
  have B4 := (B3.alloc (by omega) _).trans (b4.mono (by simp; omega))
  have z4 := b4.size
  simp only [World.size_alloc] at z4
  have K1 := Lib.hid (blk_step (blk_alloc K1.out _) b4)
  have K2 := Lib.hid (blk_step (blk_alloc K2.out _) b4)
  have K3 := Lib.hid (blk_step (blk_new w3 _ _) b4)
  clear R3 B3 b4
  go_wp2_with fail
  refine (at_row _ _ (R4.alloc _) (-1) 0 0 0 0 90 (by decide) (by decide)).mono ?_
  rintro e w5 ⟨rfl, b5⟩
  have R5 := (R4.alloc _).below b5
  have B5 := (B4.alloc (by omega) _).trans (b5.mono (by simp; omega))
  have z5 := b5.size
  simp only [World.size_alloc] at z5
  have K1 := Lib.hid (blk_step (blk_alloc K1.out _) b5)
  have K2 := Lib.hid (blk_step (blk_alloc K2.out _) b5)
  have K3 := Lib.hid (blk_step (blk_alloc K3.out _) b5)
  have K4 := Lib.hid (blk_step (blk_new w4 _ _) b5)
  clear R4 B4 b5
  go_wp2_with fail
  refine (frame_row _ _ (R5.alloc _)).mono ?_
  rintro e w6 ⟨rfl, b6⟩
  have R6 := (R5.alloc _).below b6
  have B6 := (B5.alloc (by omega) _).trans (b6.mono (by simp; omega))
  have z6 := b6.size
  simp only [World.size_alloc] at z6
  have K1 := Lib.hid (blk_step (blk_alloc K1.out _) b6)
  have K2 := Lib.hid (blk_step (blk_alloc K2.out _) b6)
  have K3 := Lib.hid (blk_step (blk_alloc K3.out _) b6)
  clear R5 B5 b6
  go_wp2_with fail
  refine (ticks_row _ _ (R6) 1 3 (by decide)).mono ?_
  rintro e w7 ⟨rfl, b7⟩
  have R7 := (R6).below b7
  have B7 := B6.trans (b7.mono (by omega))
  have z7 := b7.size
  have K1 := Lib.hid (blk_step K1.out b7)
  have K2 := Lib.hid (blk_step K2.out b7)
  have K3 := Lib.hid (blk_step K3.out b7)
  clear R6 B6 b7
  go_wp2_with fail
  refine (ticks_row _ _ (R7) 0 2 (by decide)).mono ?_
  rintro e w8 ⟨rfl, b8⟩
  have R8 := (R7).below b8
  have B8 := B7.trans (b8.mono (by omega))
  have z8 := b8.size
  have K1 := Lib.hid (blk_step K1.out b8)
  have K2 := Lib.hid (blk_step K2.out b8)
  have K3 := Lib.hid (blk_step K3.out b8)
  clear R7 B7 b8
  go_wp2_with fail
  refine (ticks_row _ _ (R8) 2 1 (by decide)).mono ?_
  rintro e w9 ⟨rfl, b9⟩
  have R9 := (R8).below b9
  have B9 := B8.trans (b9.mono (by omega))
  have z9 := b9.size
  have K1 := Lib.hid (blk_step K1.out b9)
  have K2 := Lib.hid (blk_step K2.out b9)
  have K3 := Lib.hid (blk_step K3.out b9)
  clear R8 B8 b9
  go_wp2_with fail
  refine (ticks_row _ _ (R9) 3 0 (by decide)).mono ?_
  rintro e w10 ⟨rfl, b10⟩
  have R10 := (R9).below b10
  have B10 := B9.trans (b10.mono (by omega))
  have z10 := b10.size
  have K1 := Lib.hid (blk_step K1.out b10)
  have K2 := Lib.hid (blk_step K2.out b10)
  have K3 := Lib.hid (blk_step K3.out b10)
  clear R9 B9 b10
  go_wp2_with fail
  refine (may_row [] 0 rfl (by decide) none 0 _ Rd.nil false (by decide)).mono ?_
  rintro e w11 ⟨rfl, b11⟩
  have R11 := (R10).below b11
  have B11 := B10.trans (b11.mono (by omega))
  have z11 := b11.size
  have K1 := Lib.hid (blk_step K1.out b11)
  have K2 := Lib.hid (blk_step K2.out b11)
  have K3 := Lib.hid (blk_step K3.out b11)
  clear R10 B10 b11
  go_wp2_with fail
  refine (may_row [(64, 0), (1, 0)] 2 rfl (by decide) _ _ _ (Rd.new _ _ _) false (by decide)).mono ?_
  rintro e w12 ⟨rfl, b12⟩
  have R12 := (R11.alloc _).below b12
  have B12 := (B11.alloc (by omega) _).trans (b12.mono (by simp; omega))
  have z12 := b12.size
  simp only [World.size_alloc] at z12
  have K1 := Lib.hid (blk_step (blk_alloc K1.out _) b12)
  have K2 := Lib.hid (blk_step (blk_alloc K2.out _) b12)
  have K3 := Lib.hid (blk_step (blk_alloc K3.out _) b12)
  clear R11 B11 b12
  go_wp2_with fail
  refine (may_row [(0, 0)] 1 rfl (by decide) _ _ _ (Rd.new _ _ _) false (by decide)).mono ?_
  rintro e w13 ⟨rfl, b13⟩
  have R13 := (R12.alloc _).below b13
  have B13 := (B12.alloc (by omega) _).trans (b13.mono (by simp; omega))
  have z13 := b13.size
  simp only [World.size_alloc] at z13
  have K1 := Lib.hid (blk_step (blk_alloc K1.out _) b13)
  have K2 := Lib.hid (blk_step (blk_alloc K2.out _) b13)
  have K3 := Lib.hid (blk_step (blk_alloc K3.out _) b13)
  clear R12 B12 b13
  go_wp2_with fail
  refine (may_row [(64, 0)] 1 rfl (by decide) _ _ _ (Rd.new _ _ _) true (by decide)).mono ?_
  rintro e w14 ⟨rfl, b14⟩
  have R14 := (R13.alloc _).below b14
  have B14 := (B13.alloc (by omega) _).trans (b14.mono (by simp; omega))
  have z14 := b14.size
  simp only [World.size_alloc] at z14
  have K1 := Lib.hid (blk_step (blk_alloc K1.out _) b14)
  have K2 := Lib.hid (blk_step (blk_alloc K2.out _) b14)
  have K3 := Lib.hid (blk_step (blk_alloc K3.out _) b14)
  clear R13 B13 b14
  have c10 := blk_cell K1.out 0
  have c11 := blk_cell K1.out 1
  have c12 := blk_cell K1.out 2
  have c13 := blk_cell K1.out 3
  have c20 := blk_cell K2.out 0
  have c21 := blk_cell K2.out 1
  have c22 := blk_cell K2.out 2
  have c23 := blk_cell K2.out 3
  have c30 := blk_cell K3.out 0
  have c31 := blk_cell K3.out 1
  have c32 := blk_cell K3.out 2
  have c33 := blk_cell K3.out 3
  simp only [List.getElem?_toArray] at c10 c11 c12 c13 c20 c21 c22 c23 c30 c31 c32 c33
  go_wp2
  go_ret
  exact ⟨rfl, B14⟩
end Go.Proofs.Ytpdjjombdahpmaa
