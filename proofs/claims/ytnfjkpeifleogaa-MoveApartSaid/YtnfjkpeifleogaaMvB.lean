/- Moves: which partition is kept; no condition. -/
import Derived.Test.YtnfjkpeifleogaaRows
import Derived.Test.YtnfjkpeifleogaaMvA
namespace Go.Proofs.Ytnfjkpeifleogaa.mv
open Go Go.ChangeShapes Go.WideShapes Go.ChangeAt Go.RowKit Go.Proofs.Ytnfjkpeifleogaa.rows
theorem kept1 (x : Pt) (A : Option Addr) (c B : Nat) (z : Int) (W : World) (hB : W.cell? ⟨B, 0, none⟩ = some (.int .i64 z)) : Calls Try.prog 34 #[.agg #[.int .i64 x.id, .int .i64 x.size, .bool x.keep, .int .u32 x.r0, .int .u32 x.r1, .int .u32 x.r2, .int .u32 x.r3, .int .u32 x.r4, .int .u32 x.r5, .int .u32 x.r6, .int .u32 x.r7, .int .u32 x.pc, .int .u8 x.st, .slice A x.mem.length c], .pointer (some ⟨B, 0, none⟩)] W fun e w' => e = .returned (.bool (decide (x.id = z))) ∧ Below W.heap.size W w' := by
  have G := blk_new W #[.int .i64 x.id, .int .i64 x.size, .bool x.keep, .int .u32 x.r0, .int .u32 x.r1, .int .u32 x.r2, .int .u32 x.r3, .int .u32 x.r4, .int .u32 x.r5, .int .u32 x.r6, .int .u32 x.r7, .int .u32 x.pc, .int .u8 x.st, .slice A x.mem.length c] 44
  have g0 := blk_cell G 0
  have hb : (W.alloc (.cells #[.int .i64 x.id, .int .i64 x.size, .bool x.keep, .int .u32 x.r0, .int .u32 x.r1, .int .u32 x.r2, .int .u32 x.r3, .int .u32 x.r4, .int .u32 x.r5, .int .u32 x.r6, .int .u32 x.r7, .int .u32 x.pc, .int .u8 x.st, .slice A x.mem.length c] 44)).cell? ⟨B, 0, none⟩ = some (.int .i64 z) := Lib.cell?_alloc_marked _ hB
  have HX := Lib.hid ((Below.refl W.heap.size W).alloc (Nat.le_refl _) (.cells #[.int .i64 x.id, .int .i64 x.size, .bool x.keep, .int .u32 x.r0, .int .u32 x.r1, .int .u32 x.r2, .int .u32 x.r3, .int .u32 x.r4, .int .u32 x.r5, .int .u32 x.r6, .int .u32 x.r7, .int .u32 x.pc, .int .u8 x.st, .slice A x.mem.length c] 44))
  clear G hB
  go_enter Try.func34, Try.ntmps34
  go_wp2
  go_ret
  exact ⟨rfl, HX.out⟩
theorem keeps1 (x : Pn) (A : Option Addr) (c B : Nat) (z : Int) (W : World) (hB : W.cell? ⟨B, 0, none⟩ = some (.int .i64 z)) : Calls Try.prog 45 #[.agg #[.int .i64 x.id, .int .i64 x.base, .int .i64 x.size, .bool x.keep, .slice A x.img.length c], .pointer (some ⟨B, 0, none⟩)] W fun e w' => e = .returned (.bool (decide (x.id = z))) ∧ Below W.heap.size W w' := by
  have G := blk_new W #[.int .i64 x.id, .int .i64 x.base, .int .i64 x.size, .bool x.keep, .slice A x.img.length c] 40
  have g0 := blk_cell G 0
  have hb : (W.alloc (.cells #[.int .i64 x.id, .int .i64 x.base, .int .i64 x.size, .bool x.keep, .slice A x.img.length c] 40)).cell? ⟨B, 0, none⟩ = some (.int .i64 z) := Lib.cell?_alloc_marked _ hB
  have HX := Lib.hid ((Below.refl W.heap.size W).alloc (Nat.le_refl _) (.cells #[.int .i64 x.id, .int .i64 x.base, .int .i64 x.size, .bool x.keep, .slice A x.img.length c] 40))
  clear G hB
  go_enter Try.func45, Try.ntmps45
  go_wp2
  go_ret
  exact ⟨rfl, HX.out⟩
theorem msg_far {U : TypeId} {lo hi : Nat} {w : World} {v : Value} {l : Msg} (h : MsgAt lo hi w v l) {g k : Nat} {cs : Array Value} (hg : w.heap[g]? = some (.cells cs U (0, 0))) (h2 : 5 ≠ U) (u : Value) : MsgAt lo hi (w.setCell ⟨g, k, none⟩ u) v l := by
  obtain ⟨A', c, k1, k2, k3, k4, k5⟩ := h
  exact ⟨A', c, k1, k2, k3, k4, k5.far hg h2 u⟩
theorem msg_row {U : TypeId} {lo hi : Nat} {w : World} {v : Value} {l : Msg} (h : MsgAt lo hi w v l) {g : Nat} {cs : Array Value} (hg : w.heap[g]? = some (.cells cs U (0, 0))) (h2 : 5 ≠ U) (cs' : Array Value) : MsgAt lo hi (w.setRow g cs') v l := by
  obtain ⟨A', c, k1, k2, k3, k4, k5⟩ := h
  exact ⟨A', c, k1, k2, k3, k4, RowIn.row k5 hg h2 cs'⟩
/-- The state that a partition keeps. -/
def keptP (ps : List Pt) (p : Pn) : Option Pt := match ps.find? (fun x => decide (x.id = p.id)) with
  | some x => if p.keep = true ∧ x.keep = true ∧ x.size = p.size then some x else none
  | none => none
/-- A part with memory of the call's own, or none. -/
def KOut (o : Option Pt) (w : World) (e : Ending) (w' : World) : Prop :=
  Below w.heap.size w w' ∧ match o with
    | none => e = .returned (.tuple #[.agg #[.int .i64 0, .int .i64 0, .bool false, .int .u32 0, .int .u32 0, .int .u32 0, .int .u32 0, .int .u32 0, .int .u32 0, .int .u32 0, .int .u32 0, .int .u32 0, .int .u8 0, .slice none 0 0], .bool false])
    | some x => ∃ A c, e = .returned (.tuple #[.agg #[.int .i64 x.id, .int .i64 x.size, .bool x.keep, .int .u32 x.r0, .int .u32 x.r1, .int .u32 x.r2, .int .u32 x.r3, .int .u32 x.r4, .int .u32 x.r5, .int .u32 x.r6, .int .u32 x.r7, .int .u32 x.pc, .int .u8 x.st, .slice A x.mem.length c], .bool true]) ∧ MsgAt w.heap.size w'.heap.size w' (.slice A x.mem.length c) x.mem
set_option maxRecDepth 100000 in
set_option maxHeartbeats 4000000 in
theorem kept (fr : Int) (ps : List Pt) (Ap Aq Ai : Option Addr) (np cp nq cq ni ci : Nat) (p : Pn) (hni : p.img.length = ni) (hnp : ps.length = np) (h63 : np ≤ 1000000) (hml : ∀ x ∈ ps, x.mem.length ≤ 1000000) (w : World) (h : Pts w Ap ps) :
    Calls Try.prog 24 #[.agg #[.int .i64 fr, .slice Ap np cp, .slice Aq nq cq], .agg #[.int .i64 p.id, .int .i64 p.base, .int .i64 p.size, .bool p.keep, .slice Ai ni ci]] w (KOut (keptP ps p) w) := by
  obtain ⟨pid, pbase, psize, pk, pimg⟩ := p
  simp only at hni ⊢
  have hB3 := ((((Below.refl w.heap.size w).alloc (Nat.le_refl _) (.cells #[.int .i64 fr, .slice Ap np cp, .slice Aq nq cq] 25)).alloc (by simp) (.cells #[.int .i64 pid, .int .i64 pbase, .int .i64 psize, .bool pk, .slice Ai ni ci] 40)).alloc (by simp; omega) (.cells #[.int .i64 0, .int .i64 0, .bool false, .int .u32 0, .int .u32 0, .int .u32 0, .int .u32 0, .int .u32 0, .int .u32 0, .int .u32 0, .int .u32 0, .int .u32 0, .int .u8 0, .slice none 0 0] 44))
  have hs3 : (((w.alloc (.cells #[.int .i64 fr, .slice Ap np cp, .slice Aq nq cq] 25)).alloc (.cells #[.int .i64 pid, .int .i64 pbase, .int .i64 psize, .bool pk, .slice Ai ni ci] 40)).alloc (.cells #[.int .i64 0, .int .i64 0, .bool false, .int .u32 0, .int .u32 0, .int .u32 0, .int .u32 0, .int .u32 0, .int .u32 0, .int .u32 0, .int .u32 0, .int .u32 0, .int .u8 0, .slice none 0 0] 44)).heap.size = w.heap.size + 3 := by simp
  have G0 := Lib.hid (blk_alloc (blk_alloc (blk_new w #[.int .i64 fr, .slice Ap np cp, .slice Aq nq cq] 25) (.cells #[.int .i64 pid, .int .i64 pbase, .int .i64 psize, .bool pk, .slice Ai ni ci] 40)) (.cells #[.int .i64 0, .int .i64 0, .bool false, .int .u32 0, .int .u32 0, .int .u32 0, .int .u32 0, .int .u32 0, .int .u32 0, .int .u32 0, .int .u32 0, .int .u32 0, .int .u8 0, .slice none 0 0] 44))
  have G1 := Lib.hid (blk_alloc (show ((w.alloc (.cells #[.int .i64 fr, .slice Ap np cp, .slice Aq nq cq] 25)).alloc (.cells #[.int .i64 pid, .int .i64 pbase, .int .i64 psize, .bool pk, .slice Ai ni ci] 40)).heap[w.heap.size + 1]? = some (.cells #[.int .i64 pid, .int .i64 pbase, .int .i64 psize, .bool pk, .slice Ai ni ci] 40 (0, 0)) by have := blk_new (w.alloc (.cells #[.int .i64 fr, .slice Ap np cp, .slice Aq nq cq] 25)) #[.int .i64 pid, .int .i64 pbase, .int .i64 psize, .bool pk, .slice Ai ni ci] 40; simpa using this) (.cells #[.int .i64 0, .int .i64 0, .bool false, .int .u32 0, .int .u32 0, .int .u32 0, .int .u32 0, .int .u32 0, .int .u32 0, .int .u32 0, .int .u32 0, .int .u32 0, .int .u8 0, .slice none 0 0] 44))
  have G2 := Lib.hid (show (((w.alloc (.cells #[.int .i64 fr, .slice Ap np cp, .slice Aq nq cq] 25)).alloc (.cells #[.int .i64 pid, .int .i64 pbase, .int .i64 psize, .bool pk, .slice Ai ni ci] 40)).alloc (.cells #[.int .i64 0, .int .i64 0, .bool false, .int .u32 0, .int .u32 0, .int .u32 0, .int .u32 0, .int .u32 0, .int .u32 0, .int .u32 0, .int .u32 0, .int .u32 0, .int .u8 0, .slice none 0 0] 44)).heap[w.heap.size + 2]? = some (.cells #[.int .i64 0, .int .i64 0, .bool false, .int .u32 0, .int .u32 0, .int .u32 0, .int .u32 0, .int .u32 0, .int .u32 0, .int .u32 0, .int .u32 0, .int .u32 0, .int .u8 0, .slice none 0 0] 44 (0, 0)) by have := blk_new ((w.alloc (.cells #[.int .i64 fr, .slice Ap np cp, .slice Aq nq cq] 25)).alloc (.cells #[.int .i64 pid, .int .i64 pbase, .int .i64 psize, .bool pk, .slice Ai ni ci] 40)) #[.int .i64 0, .int .i64 0, .bool false, .int .u32 0, .int .u32 0, .int .u32 0, .int .u32 0, .int .u32 0, .int .u32 0, .int .u32 0, .int .u32 0, .int .u32 0, .int .u8 0, .slice none 0 0] 44; simpa using this)
  have T := pick_pt (w.heap.size + 1) (fun x => decide (x.id = pid)) ps Ap np cp hnp h63 (((w.alloc (.cells #[.int .i64 fr, .slice Ap np cp, .slice Aq nq cq] 25)).alloc (.cells #[.int .i64 pid, .int .i64 pbase, .int .i64 psize, .bool pk, .slice Ai ni ci] 40)).alloc (.cells #[.int .i64 0, .int .i64 0, .bool false, .int .u32 0, .int .u32 0, .int .u32 0, .int .u32 0, .int .u32 0, .int .u32 0, .int .u32 0, .int .u32 0, .int .u32 0, .int .u8 0, .slice none 0 0] 44)) (h.below hB3) (fun W hW x _ A c => kept1 x A c (w.heap.size + 1) pid W (by rw [hW.cell (p := ⟨w.heap.size + 1, 0, none⟩) (show w.heap.size + 1 < _ by rw [hs3]; omega), blk_cell G1.out]; rfl))
  have HT := Lib.hid T; have HB3 := Lib.hid hB3; have HS3 := Lib.hid hs3; have HML := Lib.hid hml
  have a1 := blk_cell G0.out 1
  clear T hB3 hs3 h hnp hml hni
  go_enter Try.func24, Try.ntmps24
  go_wp2_with fail
  refine HT.out.mono ?_
  rintro e w1 ⟨b1, hm⟩
  have B1 := Lib.hid (HB3.out.trans (b1.mono (by rw [HS3.out]; omega)))
  have z1 : w.heap.size + 3 ≤ w1.heap.size := by have := b1.size; rw [HS3.out] at this; exact this
  have N1 := Lib.hid (blk_below G1.out b1 (by rw [HS3.out]; omega))
  have R1 := Lib.hid (blk_below G2.out b1 (by rw [HS3.out]; omega))
  clear b1 a1
  cases hfd : ps.find? (fun x => decide (x.id = pid)) with
  | none =>
    rw [hfd] at hm
    obtain rfl := hm
    have HK := Lib.hid (show keptP ps ⟨pid, pbase, psize, pk, pimg⟩ = none by unfold keptP; rw [hfd])
    clear hfd
    have BZ := Lib.hid (B1.out.alloc (by omega) (.cells #[.int .i64 0, .int .i64 0, .bool false, .int .u32 0, .int .u32 0, .int .u32 0, .int .u32 0, .int .u32 0, .int .u32 0, .int .u32 0, .int .u32 0, .int .u32 0, .int .u8 0, .slice none 0 0] 44))
    have GZ := Lib.hid (blk_alloc R1.out (.cells #[.int .i64 0, .int .i64 0, .bool false, .int .u32 0, .int .u32 0, .int .u32 0, .int .u32 0, .int .u32 0, .int .u32 0, .int .u32 0, .int .u32 0, .int .u32 0, .int .u8 0, .slice none 0 0] 44))
    go_wp2_with (refine wpList_store_at rfl 44 (.tmp 4) (.tmp 35) rfl (w.heap.size + 2) #[.int .i64 0, .int .i64 0, .bool false, .int .u32 0, .int .u32 0, .int .u32 0, .int .u32 0, .int .u32 0, .int .u32 0, .int .u32 0, .int .u32 0, .int .u32 0, .int .u8 0, .slice none 0 0] rfl rfl 44 _ GZ.out info_pt rfl (by simp [Value.oneCell']) ?_)
    intro w3 hw3
    have B3 := Lib.hid (below_row BZ.out (show w.heap.size ≤ w.heap.size + 2 by omega) #[.int .i64 0, .int .i64 0, .bool false, .int .u32 0, .int .u32 0, .int .u32 0, .int .u32 0, .int .u32 0, .int .u32 0, .int .u32 0, .int .u32 0, .int .u32 0, .int .u8 0, .slice none 0 0])
    have G3 := Lib.hid (blk_row GZ.out #[.int .i64 0, .int .i64 0, .bool false, .int .u32 0, .int .u32 0, .int .u32 0, .int .u32 0, .int .u32 0, .int .u32 0, .int .u32 0, .int .u32 0, .int .u32 0, .int .u8 0, .slice none 0 0])
    rw [← hw3.out] at B3 G3
    clear hw3
    go_wp2
    refine ret_row_tmp rfl (w.heap.size + 2) 44 _ _ rfl G3.out Try.underlying44 rfl info_pt rfl ?_
    rw [HK.out]
    exact ⟨B3.out, rfl⟩
  | some x =>
    rw [hfd] at hm
    obtain ⟨Am, cm, rfl, hin⟩ := hm
    have hxm := List.mem_of_find?_eq_some hfd
    obtain ⟨xid, xs, xk, x0, x1, x2, x3, x4, x5, x6, x7, xpc, xst, xm⟩ := x
    have HX := Lib.hid (HML.out _ hxm)
    simp only at HX ⊢
    obtain ⟨hin1, hin2, hin3⟩ := hin
    simp only at hin1 hin2 hin3
    obtain ⟨nm, hnm⟩ : ∃ nm, xm.length = nm := ⟨_, rfl⟩
    rw [hnm] at hin1 ⊢
    have HI1 := Lib.hid hin1; have HI2 := Lib.hid hin2; have HI3 := Lib.hid hin3; have HNM := Lib.hid hnm
    have BA := Lib.hid (B1.out.alloc (by omega) (.cells #[.int .i64 xid, .int .i64 xs, .bool xk, .int .u32 x0, .int .u32 x1, .int .u32 x2, .int .u32 x3, .int .u32 x4, .int .u32 x5, .int .u32 x6, .int .u32 x7, .int .u32 xpc, .int .u8 xst, .slice Am nm cm] 44))
    have BB := Lib.hid ((Below.refl w1.heap.size w1).alloc (Nat.le_refl _) (.cells #[.int .i64 xid, .int .i64 xs, .bool xk, .int .u32 x0, .int .u32 x1, .int .u32 x2, .int .u32 x3, .int .u32 x4, .int .u32 x5, .int .u32 x6, .int .u32 x7, .int .u32 xpc, .int .u8 xst, .slice Am nm cm] 44))
    have X1 := Lib.hid (blk_new w1 #[.int .i64 xid, .int .i64 xs, .bool xk, .int .u32 x0, .int .u32 x1, .int .u32 x2, .int .u32 x3, .int .u32 x4, .int .u32 x5, .int .u32 x6, .int .u32 x7, .int .u32 xpc, .int .u8 xst, .slice Am nm cm] 44)
    have N2 := Lib.hid (blk_alloc N1.out (.cells #[.int .i64 xid, .int .i64 xs, .bool xk, .int .u32 x0, .int .u32 x1, .int .u32 x2, .int .u32 x3, .int .u32 x4, .int .u32 x5, .int .u32 x6, .int .u32 x7, .int .u32 xpc, .int .u8 xst, .slice Am nm cm] 44)); have R2 := Lib.hid (blk_alloc R1.out (.cells #[.int .i64 xid, .int .i64 xs, .bool xk, .int .u32 x0, .int .u32 x1, .int .u32 x2, .int .u32 x3, .int .u32 x4, .int .u32 x5, .int .u32 x6, .int .u32 x7, .int .u32 xpc, .int .u8 xst, .slice Am nm cm] 44))
    have p2 : ∀ o, (w1.alloc o).cell? ⟨w.heap.size + 1, 2, none⟩ = some (.int .i64 psize) := fun o => Lib.cell?_alloc_marked o (blk_cell N1.out 2)
    have p3 : ∀ o, (w1.alloc o).cell? ⟨w.heap.size + 1, 3, none⟩ = some (.bool pk) := fun o => Lib.cell?_alloc_marked o (blk_cell N1.out 3)
    clear hxm hin1 hin2 hin3 hnm B1 N1 R1
    by_cases hok : pk = true ∧ xk = true ∧ xs = psize
    · obtain ⟨rfl, rfl, rfl⟩ := hok
      have HK := Lib.hid (show keptP ps ⟨pid, pbase, xs, true, pimg⟩ = some ⟨xid, xs, true, x0, x1, x2, x3, x4, x5, x6, x7, xpc, xst, xm⟩ by unfold keptP; rw [hfd]; exact if_pos ⟨rfl, rfl, rfl⟩)
      have TC := fun (W : World) (g : Rd W Am (bcs xm)) => clone Am cm xm HI2.out (by rw [HNM.out]; exact HI1.out) HX.out W g
      rw [HNM.out] at TC
      have HTC := Lib.hid TC
      clear hfd TC
      go_wp2_with fail
      refine (HTC.out _ (HI3.out.below BB.out)).mono ?_
      rintro e w4 ⟨v4, rfl, Ac, cc, rfl, k1, k2, k3, k4, b4⟩
      rw [HNM.out]
      have z4 := b4.size
      have B4 := Lib.hid (BA.out.trans (b4.mono BA.out.size))
      have X4 := Lib.hid (blk_below X1.out b4 (blk_lt X1.out))
      have R4 := Lib.hid (blk_below R2.out b4 (blk_lt R2.out))
      have M4 := Lib.hid (show MsgAt w.heap.size w4.heap.size w4 (.slice Ac nm cc) xm from ⟨Ac, cc, by rw [HNM.out], k1, k2, k3, k4.mono BA.out.size (Nat.le_refl _)⟩)
      have y0 := blk_cell X4.out 0
      have y1 := blk_cell X4.out 1
      have y2 := blk_cell X4.out 2
      have y3 := blk_cell X4.out 3
      have y4 := blk_cell X4.out 4
      have y5 := blk_cell X4.out 5
      have y6 := blk_cell X4.out 6
      have y7 := blk_cell X4.out 7
      have y8 := blk_cell X4.out 8
      have y9 := blk_cell X4.out 9
      have y10 := blk_cell X4.out 10
      have y11 := blk_cell X4.out 11
      have y12 := blk_cell X4.out 12
      have y13 := blk_cell X4.out 13
      have yf := blk_frozen X4.out 13
      clear b4 k1 k2 k3 k4
      go_wp2_with (refine wpList_store_at rfl 44 (.tmp 4) (.tmp 40) rfl (w.heap.size + 2) #[.int .i64 xid, .int .i64 xs, .bool true, .int .u32 x0, .int .u32 x1, .int .u32 x2, .int .u32 x3, .int .u32 x4, .int .u32 x5, .int .u32 x6, .int .u32 x7, .int .u32 xpc, .int .u8 xst, .slice Ac nm cc] rfl rfl 44 _ (blk_far (p := ⟨w1.heap.size, 13, none⟩) R4.out (by show w.heap.size + 2 ≠ w1.heap.size; omega) (.slice Ac nm cc)) info_pt rfl (by simp [Value.oneCell']) ?_)
      intro w6 hw6
      have B6 := Lib.hid (below_row (B4.out.setCell (p := ⟨w1.heap.size, 13, none⟩) (show w.heap.size ≤ w1.heap.size by omega) (.slice Ac nm cc)) (show w.heap.size ≤ w.heap.size + 2 by omega) #[.int .i64 xid, .int .i64 xs, .bool true, .int .u32 x0, .int .u32 x1, .int .u32 x2, .int .u32 x3, .int .u32 x4, .int .u32 x5, .int .u32 x6, .int .u32 x7, .int .u32 xpc, .int .u8 xst, .slice Ac nm cc])
      have G6 := Lib.hid (blk_row (blk_far (p := ⟨w1.heap.size, 13, none⟩) R4.out (by show w.heap.size + 2 ≠ w1.heap.size; omega) (.slice Ac nm cc)) #[.int .i64 xid, .int .i64 xs, .bool true, .int .u32 x0, .int .u32 x1, .int .u32 x2, .int .u32 x3, .int .u32 x4, .int .u32 x5, .int .u32 x6, .int .u32 x7, .int .u32 xpc, .int .u8 xst, .slice Ac nm cc])
      have M6 := Lib.hid (msg_row (msg_far M4.out X4.out (by decide) (.slice Ac nm cc)) (blk_far (p := ⟨w1.heap.size, 13, none⟩) R4.out (by show w.heap.size + 2 ≠ w1.heap.size; omega) (.slice Ac nm cc)) (by decide) #[.int .i64 xid, .int .i64 xs, .bool true, .int .u32 x0, .int .u32 x1, .int .u32 x2, .int .u32 x3, .int .u32 x4, .int .u32 x5, .int .u32 x6, .int .u32 x7, .int .u32 xpc, .int .u8 xst, .slice Ac nm cc])
      rw [← hw6.out] at B6 G6 M6
      have Z6 := Lib.hid (show w6.heap.size = w4.heap.size by rw [hw6.out, size_row]; simp)
      clear hw6 y0 y1 y2 y3 y4 y5 y6 y7 y8 y9 y10 y11 y12 y13 yf
      go_wp2
      refine ret_row_tmp rfl (w.heap.size + 2) 44 _ _ rfl G6.out Try.underlying44 rfl info_pt rfl ?_
      rw [HK.out]
      refine ⟨B6.out, Ac, cc, ?_, ?_⟩
      · simp only [HNM.out]; rfl
      · have h := M6.out
        rw [← HNM.out] at h
        exact h.mono (Nat.le_refl _) (by rw [Z6.out]; exact Nat.le_refl _)
    · have HK := Lib.hid (show keptP ps ⟨pid, pbase, psize, pk, pimg⟩ = none by unfold keptP; rw [hfd]; exact if_neg hok)
      have BZ := BA; have GZ := R2
      clear hfd
      cases pk with
      | false =>
        go_wp2_with (refine wpList_store_at rfl 44 (.tmp 4) (.tmp 35) rfl (w.heap.size + 2) #[.int .i64 0, .int .i64 0, .bool false, .int .u32 0, .int .u32 0, .int .u32 0, .int .u32 0, .int .u32 0, .int .u32 0, .int .u32 0, .int .u32 0, .int .u32 0, .int .u8 0, .slice none 0 0] rfl rfl 44 _ GZ.out info_pt rfl (by simp [Value.oneCell']) ?_)
        intro w3 hw3
        have B3 := Lib.hid (below_row BZ.out (show w.heap.size ≤ w.heap.size + 2 by omega) #[.int .i64 0, .int .i64 0, .bool false, .int .u32 0, .int .u32 0, .int .u32 0, .int .u32 0, .int .u32 0, .int .u32 0, .int .u32 0, .int .u32 0, .int .u32 0, .int .u8 0, .slice none 0 0])
        have G3 := Lib.hid (blk_row GZ.out #[.int .i64 0, .int .i64 0, .bool false, .int .u32 0, .int .u32 0, .int .u32 0, .int .u32 0, .int .u32 0, .int .u32 0, .int .u32 0, .int .u32 0, .int .u32 0, .int .u8 0, .slice none 0 0])
        rw [← hw3.out] at B3 G3
        clear hw3
        go_wp2
        refine ret_row_tmp rfl (w.heap.size + 2) 44 _ _ rfl G3.out Try.underlying44 rfl info_pt rfl ?_
        rw [HK.out]
        exact ⟨B3.out, rfl⟩
      | true =>
        cases xk with
        | false =>
          go_wp2_with (refine wpList_store_at rfl 44 (.tmp 4) (.tmp 35) rfl (w.heap.size + 2) #[.int .i64 0, .int .i64 0, .bool false, .int .u32 0, .int .u32 0, .int .u32 0, .int .u32 0, .int .u32 0, .int .u32 0, .int .u32 0, .int .u32 0, .int .u32 0, .int .u8 0, .slice none 0 0] rfl rfl 44 _ GZ.out info_pt rfl (by simp [Value.oneCell']) ?_)
          intro w3 hw3
          have B3 := Lib.hid (below_row BZ.out (show w.heap.size ≤ w.heap.size + 2 by omega) #[.int .i64 0, .int .i64 0, .bool false, .int .u32 0, .int .u32 0, .int .u32 0, .int .u32 0, .int .u32 0, .int .u32 0, .int .u32 0, .int .u32 0, .int .u32 0, .int .u8 0, .slice none 0 0])
          have G3 := Lib.hid (blk_row GZ.out #[.int .i64 0, .int .i64 0, .bool false, .int .u32 0, .int .u32 0, .int .u32 0, .int .u32 0, .int .u32 0, .int .u32 0, .int .u32 0, .int .u32 0, .int .u32 0, .int .u8 0, .slice none 0 0])
          rw [← hw3.out] at B3 G3
          clear hw3
          go_wp2
          refine ret_row_tmp rfl (w.heap.size + 2) 44 _ _ rfl G3.out Try.underlying44 rfl info_pt rfl ?_
          rw [HK.out]
          exact ⟨B3.out, rfl⟩
        | true =>
          have hne : ¬ xs = psize := fun h => hok ⟨rfl, rfl, h⟩
          go_wp2_with (refine wpList_store_at rfl 44 (.tmp 4) (.tmp 35) rfl (w.heap.size + 2) #[.int .i64 0, .int .i64 0, .bool false, .int .u32 0, .int .u32 0, .int .u32 0, .int .u32 0, .int .u32 0, .int .u32 0, .int .u32 0, .int .u32 0, .int .u32 0, .int .u8 0, .slice none 0 0] rfl rfl 44 _ GZ.out info_pt rfl (by simp [Value.oneCell']) ?_)
          intro w3 hw3
          have B3 := Lib.hid (below_row BZ.out (show w.heap.size ≤ w.heap.size + 2 by omega) #[.int .i64 0, .int .i64 0, .bool false, .int .u32 0, .int .u32 0, .int .u32 0, .int .u32 0, .int .u32 0, .int .u32 0, .int .u32 0, .int .u32 0, .int .u32 0, .int .u8 0, .slice none 0 0])
          have G3 := Lib.hid (blk_row GZ.out #[.int .i64 0, .int .i64 0, .bool false, .int .u32 0, .int .u32 0, .int .u32 0, .int .u32 0, .int .u32 0, .int .u32 0, .int .u32 0, .int .u32 0, .int .u32 0, .int .u8 0, .slice none 0 0])
          rw [← hw3.out] at B3 G3
          clear hw3
          go_wp2
          refine ret_row_tmp rfl (w.heap.size + 2) 44 _ _ rfl G3.out Try.underlying44 rfl info_pt rfl ?_
          rw [HK.out]
          exact ⟨B3.out, rfl⟩
/-- Does a configuration keep a partition of a state? -/
def keepsP (ps : List Pt) (pn : List Pn) (id : Int) : Bool := match pn.find? (fun p => decide (p.id = id)) with
  | some p => (keptP ps p).isSome
  | none => false
set_option maxRecDepth 100000 in
set_option maxHeartbeats 4000000 in
theorem keeps (fr : Int) (ps : List Pt) (pn : List Pn) (id : Int) (Ap Aq Aw An Ac : Option Addr) (np cp nq cq nw cw nn cn nc cc : Nat) (hnp : ps.length = np) (hnn : pn.length = nn) (h63 : np ≤ 1000000) (h632 : nn ≤ 1000000) (hml : ∀ x ∈ ps, x.mem.length ≤ 1000000) (w : World) (h : Pts w Ap ps) (h2 : Pns w An pn) :
    Calls Try.prog 38 #[.agg #[.int .i64 fr, .slice Ap np cp, .slice Aq nq cq], .agg #[.slice Aw nw cw, .slice An nn cn, .slice Ac nc cc], .int .i64 id] w fun e w' => e = .returned (.bool (keepsP ps pn id)) ∧ Below w.heap.size w w' := by
  have hB3 := ((((Below.refl w.heap.size w).alloc (Nat.le_refl _) (.cells #[.int .i64 fr, .slice Ap np cp, .slice Aq nq cq] 25)).alloc (by simp) (.cells #[.slice Aw nw cw, .slice An nn cn, .slice Ac nc cc] 30)).alloc (by simp; omega) (.cells #[.int .i64 id] 3))
  have hs3 : (((w.alloc (.cells #[.int .i64 fr, .slice Ap np cp, .slice Aq nq cq] 25)).alloc (.cells #[.slice Aw nw cw, .slice An nn cn, .slice Ac nc cc] 30)).alloc (.cells #[.int .i64 id] 3)).heap.size = w.heap.size + 3 := by simp
  have G0 := Lib.hid (blk_alloc (blk_alloc (blk_new w #[.int .i64 fr, .slice Ap np cp, .slice Aq nq cq] 25) (.cells #[.slice Aw nw cw, .slice An nn cn, .slice Ac nc cc] 30)) (.cells #[.int .i64 id] 3))
  have G1 := Lib.hid (blk_alloc (show ((w.alloc (.cells #[.int .i64 fr, .slice Ap np cp, .slice Aq nq cq] 25)).alloc (.cells #[.slice Aw nw cw, .slice An nn cn, .slice Ac nc cc] 30)).heap[w.heap.size + 1]? = some (.cells #[.slice Aw nw cw, .slice An nn cn, .slice Ac nc cc] 30 (0, 0)) by have := blk_new (w.alloc (.cells #[.int .i64 fr, .slice Ap np cp, .slice Aq nq cq] 25)) #[.slice Aw nw cw, .slice An nn cn, .slice Ac nc cc] 30; simpa using this) (.cells #[.int .i64 id] 3))
  have G2 := Lib.hid (show (((w.alloc (.cells #[.int .i64 fr, .slice Ap np cp, .slice Aq nq cq] 25)).alloc (.cells #[.slice Aw nw cw, .slice An nn cn, .slice Ac nc cc] 30)).alloc (.cells #[.int .i64 id] 3)).heap[w.heap.size + 2]? = some (.cells #[.int .i64 id] 3 (0, 0)) by have := blk_new ((w.alloc (.cells #[.int .i64 fr, .slice Ap np cp, .slice Aq nq cq] 25)).alloc (.cells #[.slice Aw nw cw, .slice An nn cn, .slice Ac nc cc] 30)) #[.int .i64 id] 3; simpa using this)
  have T := pick_pn (w.heap.size + 1 + 1) (fun x => decide (x.id = id)) pn An nn cn hnn h632 (((w.alloc (.cells #[.int .i64 fr, .slice Ap np cp, .slice Aq nq cq] 25)).alloc (.cells #[.slice Aw nw cw, .slice An nn cn, .slice Ac nc cc] 30)).alloc (.cells #[.int .i64 id] 3)) (h2.below hB3) (fun W hW x _ A c => keeps1 x A c (w.heap.size + 1 + 1) id W (by rw [hW.cell (p := ⟨w.heap.size + 1 + 1, 0, none⟩) (show w.heap.size + 1 + 1 < _ by rw [hs3]; omega), blk_cell G2.out]; rfl))
  have HT := Lib.hid T; have HB3 := Lib.hid hB3; have HS3 := Lib.hid hs3
  have HP := Lib.hid h
  have TK := fun (p : Pn) (Ai : Option Addr) (ci : Nat) (W : World) (g : Pts W Ap ps) => kept fr ps Ap Aq Ai np cp nq cq p.img.length ci p rfl hnp h63 hml W g
  have HTK := Lib.hid TK
  have a1 := blk_cell G1.out 1
  clear T hB3 hs3 h h2 hnp hml hnn TK
  go_enter Try.func38, Try.ntmps38
  go_wp2_with fail
  refine HT.out.mono ?_
  rintro e w1 ⟨b1, hm⟩
  have B1 := Lib.hid (HB3.out.trans (b1.mono (by rw [HS3.out]; omega)))
  have z1 : w.heap.size + 3 ≤ w1.heap.size := by have := b1.size; rw [HS3.out] at this; exact this
  have N1 := Lib.hid (blk_below G0.out b1 (by rw [HS3.out]; omega))
  clear b1 a1
  cases hfd : pn.find? (fun x => decide (x.id = id)) with
  | none =>
    rw [hfd] at hm
    obtain rfl := hm
    have HK := Lib.hid (show keepsP ps pn id = false by unfold keepsP; rw [hfd])
    have BZ := Lib.hid (B1.out.alloc (by omega) (.cells #[.int .i64 0, .int .i64 0, .int .i64 0, .bool false, .slice none 0 0] 40))
    clear hfd
    go_wp2_with fail
    go_ret
    exact ⟨by rw [HK.out]; rfl, BZ.out⟩
  | some p =>
    rw [hfd] at hm
    obtain ⟨Am, cm, rfl, _⟩ := hm
    have HK0 := Lib.hid (show keepsP ps pn id = (keptP ps p).isSome by unfold keepsP; rw [hfd])
    have T2 := HTK.out p Am cm
    clear hfd
    obtain ⟨pid, pbase, psize, pk, pimg⟩ := p
    simp only at T2 ⊢
    obtain ⟨nm, hnm⟩ : ∃ nm, pimg.length = nm := ⟨_, rfl⟩
    rw [hnm] at T2 ⊢
    have HT2 := Lib.hid T2
    have BZ := Lib.hid (B1.out.alloc (by omega) (.cells #[.int .i64 pid, .int .i64 pbase, .int .i64 psize, .bool pk, .slice Am nm cm] 40))
    have s0 : ∀ o, (w1.alloc o).cell? ⟨w.heap.size, 0, none⟩ = some (.int .i64 fr) := fun o => Lib.cell?_alloc_marked o (blk_cell N1.out 0)
    have s1 : ∀ o, (w1.alloc o).cell? ⟨w.heap.size, 1, none⟩ = some (.slice Ap np cp) := fun o => Lib.cell?_alloc_marked o (blk_cell N1.out 1)
    have s2 : ∀ o, (w1.alloc o).cell? ⟨w.heap.size, 2, none⟩ = some (.slice Aq nq cq) := fun o => Lib.cell?_alloc_marked o (blk_cell N1.out 2)
    clear T2 hnm
    cases hkp : keptP ps ⟨pid, pbase, psize, pk, pimg⟩ with
    | none =>
      have HKP := Lib.hid hkp
      rw [hkp] at HK0 HT2
      clear hkp
      go_wp2_with fail
      refine (HT2.out _ (HP.out.below BZ.out)).mono ?_
      rintro e w4 ⟨b4, rfl⟩
      have B4 := Lib.hid (BZ.out.trans (b4.mono BZ.out.size))
      clear b4
      go_wp2_with fail
      go_ret
      exact ⟨by rw [HK0.out]; rfl, B4.out⟩
    | some x =>
      have HKP := Lib.hid hkp
      rw [hkp] at HK0 HT2
      clear hkp
      go_wp2_with fail
      refine (HT2.out _ (HP.out.below BZ.out)).mono ?_
      rintro e w4 ⟨b4, A4, c4, rfl, _⟩
      have B4 := Lib.hid (BZ.out.trans (b4.mono BZ.out.size))
      clear b4
      go_wp2_with fail
      go_ret
      exact ⟨by rw [HK0.out]; rfl, B4.out⟩
end Go.Proofs.Ytnfjkpeifleogaa.mv
