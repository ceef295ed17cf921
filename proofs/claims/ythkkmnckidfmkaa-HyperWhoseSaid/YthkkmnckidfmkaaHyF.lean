/- Calls of a partition: rows cloned, a part copied; no condition. -/
import Derived.Test.YthkkmnckidfmkaaRows
import Derived.Test.YthkkmnckidfmkaaHyC
import Derived.Deep.Cut
namespace Go.Proofs.Ythkkmnckidfmkaa.hy
open Go Go.ChangeShapes Go.WideShapes Go.ChangeAt Go.RowKit Go.Proofs.Ythkkmnckidfmkaa.rows
theorem info_quz : (Try.prog.info? 36).map (fun i => (i.zero, i.size, i.bytes)) = some (some (.agg #[.int .i64 0, .int .i64 0, .int .i64 0, .int .i64 0, .int .i64 0, .slice none 0 0]), 6, 64) := by kernel_rfl
set_option maxHeartbeats 1000000 in
theorem clone_qs (A : Option Addr) (n c : Nat) (xs : List Value) (hl : xs.length = n * 6) (h1 : ∀ u ∈ xs, u.oneCell' = true) (hA : A = none → c = 0) (hc : n ≤ c) (hn : n ≤ 1000000) (w : World) (h : Rd w A xs) : Calls Try.prog 28 #[.slice A n c] w fun e w' => ∃ v, e = .returned v ∧ w'.ownsRow w.heap.size 36 6 v n xs ∧ Below w.heap.size w w' := by
  rcases A with _ | ad
  · obtain rfl := hA rfl
    have hn0 : n = 0 := by omega
    subst hn0
    have hx : xs = [] := List.eq_nil_of_length_eq_zero (by simpa using hl)
    subst hx
    have hnil : ∀ W : World, Sem.run Try.prog (binOp BinOp.eql 27 (.slice none 0 0) (.slice none 0 0)) W = .ok (.bool true) W := fun W => Lib.run_eql_slice_nil _ _ _ _ _ _ _ _ Try.underlying27
    clear hA hc hl h hn h1
    go_enter Try.func28, Try.ntmps28
    go_wp2
    go_ret
    exact ⟨_, rfl, World.ownsRow_nil _ _ _ _, Below.refl _ _⟩
  · obtain ⟨i0, hi, hz0, hz1, hz2⟩ := info_parts info_quz
    have hnil : ∀ W : World, Sem.run Try.prog (binOp BinOp.eql 27 (.slice (some ad) n c) (.slice none 0 0)) W = .ok (.bool false) W := fun W => Lib.run_eql_slice_nil _ _ _ _ _ _ _ _ Try.underlying27
    have hown : (w.alloc (.cells #[] 36)).ownsRow w.heap.size 36 6 (.slice (some ⟨w.heap.size, 0, none⟩) 0 0) 0 [] := World.ownsRow_lit w #[] 0 (Nat.le_refl _) (by decide) rfl
    have hr2 := h.alloc (.cells #[] 36)
    have HN := Lib.hid hl; have HL := Lib.hid hn; clear hl hA hc hn
    go_enter Try.func28, Try.ntmps28
    go_wp2_with (at_builtin; refine wpList_append_rd _ rfl (.tmp 5) (.tmp 6) 27 rfl w.heap.size 36 i0 (.agg #[.int .i64 0, .int .i64 0, .int .i64 0, .int .i64 0, .int .i64 0, .slice none 0 0]) 6 64 Try.underlying27 hi hz0 hz1 hz2 rfl (by decide) _ 0 [] rfl hown _ n _ xs rfl (by rw [HN.out]) hr2 h1 ?c3 ?c4 (by simp) ?_)
    case c3 => have := HL.out; unfold maxLen; omega
    case c4 => have := HL.out; omega
    · intro v' w3 hown3 hg
      have HB := Lib.hid (below_own ((Below.refl _ w).alloc (Nat.le_refl _) _) hown hg (by simp) : Below w.heap.size w w3)
      have HO := Lib.hid hown3
      obtain ⟨A', c', rfl, _, _⟩ := own_form hown3
      clear hown3 hg
      go_wp2
      go_ret
      exact ⟨_, rfl, by simpa using HO.out, HB.out⟩
set_option maxHeartbeats 1000000 in
theorem clone_ms (A : Option Addr) (n c : Nat) (xs : List Value) (hl : xs.length = n * 1) (h1 : ∀ u ∈ xs, u.oneCell' = true) (hA : A = none → c = 0) (hc : n ≤ c) (hn : n ≤ 1000000) (w : World) (h : Rd w A xs) : Calls Try.prog 29 #[.slice A n c] w fun e w' => ∃ v, e = .returned v ∧ w'.ownsRow w.heap.size 24 1 v n xs ∧ Below w.heap.size w w' := by
  rcases A with _ | ad
  · obtain rfl := hA rfl
    have hn0 : n = 0 := by omega
    subst hn0
    have hx : xs = [] := List.eq_nil_of_length_eq_zero (by simpa using hl)
    subst hx
    have hnil : ∀ W : World, Sem.run Try.prog (binOp BinOp.eql 34 (.slice none 0 0) (.slice none 0 0)) W = .ok (.bool true) W := fun W => Lib.run_eql_slice_nil _ _ _ _ _ _ _ _ Try.underlying34
    clear hA hc hl h hn h1
    go_enter Try.func29, Try.ntmps29
    go_wp2
    go_ret
    exact ⟨_, rfl, World.ownsRow_nil _ _ _ _, Below.refl _ _⟩
  · obtain ⟨i0, hi, hz0, hz1, hz2⟩ := info_parts info_row
    have hnil : ∀ W : World, Sem.run Try.prog (binOp BinOp.eql 34 (.slice (some ad) n c) (.slice none 0 0)) W = .ok (.bool false) W := fun W => Lib.run_eql_slice_nil _ _ _ _ _ _ _ _ Try.underlying34
    have hown : (w.alloc (.cells #[] 24)).ownsRow w.heap.size 24 1 (.slice (some ⟨w.heap.size, 0, none⟩) 0 0) 0 [] := World.ownsRow_lit w #[] 0 (Nat.le_refl _) (by decide) rfl
    have hr2 := h.alloc (.cells #[] 24)
    have HN := Lib.hid hl; have HL := Lib.hid hn; clear hl hA hc hn
    go_enter Try.func29, Try.ntmps29
    go_wp2_with (at_builtin; refine wpList_append_rd _ rfl (.tmp 5) (.tmp 6) 34 rfl w.heap.size 24 i0 (.slice none 0 0) 1 24 Try.underlying34 hi hz0 hz1 hz2 rfl (by decide) _ 0 [] rfl hown _ n _ xs rfl (by rw [HN.out]) hr2 h1 ?c3 ?c4 (by simp) ?_)
    case c3 => have := HL.out; unfold maxLen; omega
    case c4 => have := HL.out; omega
    · intro v' w3 hown3 hg
      have HB := Lib.hid (below_own ((Below.refl _ w).alloc (Nat.le_refl _) _) hown hg (by simp) : Below w.heap.size w w3)
      have HO := Lib.hid hown3
      obtain ⟨A', c', rfl, _, _⟩ := own_form hown3
      clear hown3 hg
      go_wp2
      go_ret
      exact ⟨_, rfl, by simpa using HO.out, HB.out⟩
set_option maxRecDepth 100000 in
set_option maxHeartbeats 2000000 in
theorem vmCopy (x : Pt) (Am : Option Addr) (cm : Nat) (hA : Am = none → cm = 0) (hc : x.mem.length ≤ cm) (hl : x.mem.length ≤ 1000000) (w : World) (h : Rd w Am (bcs x.mem)) :
    Calls Try.prog 23 #[.agg #[.int .i64 x.id, .int .i64 x.size, .bool x.keep, .int .u32 x.r0, .int .u32 x.r1, .int .u32 x.r2, .int .u32 x.r3, .int .u32 x.r4, .int .u32 x.r5, .int .u32 x.r6, .int .u32 x.r7, .int .u32 x.pc, .int .u8 x.st, .slice Am x.mem.length cm]] w fun e w' => ∃ A2 c2, e = .returned (.agg #[.int .i64 x.id, .int .i64 x.size, .bool x.keep, .int .u32 x.r0, .int .u32 x.r1, .int .u32 x.r2, .int .u32 x.r3, .int .u32 x.r4, .int .u32 x.r5, .int .u32 x.r6, .int .u32 x.r7, .int .u32 x.pc, .int .u8 x.st, .slice A2 x.mem.length c2]) ∧ Bys w.heap.size w' A2 c2 x.mem ∧ Below w.heap.size w w' := by
  have hX := ((Below.refl w.heap.size w).alloc (Nat.le_refl _) (.cells #[.int .i64 x.id, .int .i64 x.size, .bool x.keep, .int .u32 x.r0, .int .u32 x.r1, .int .u32 x.r2, .int .u32 x.r3, .int .u32 x.r4, .int .u32 x.r5, .int .u32 x.r6, .int .u32 x.r7, .int .u32 x.pc, .int .u8 x.st, .slice Am x.mem.length cm] 26)).alloc (by simp) (.cells #[.int .i64 0, .int .i64 0, .bool false, .int .u32 0, .int .u32 0, .int .u32 0, .int .u32 0, .int .u32 0, .int .u32 0, .int .u32 0, .int .u32 0, .int .u32 0, .int .u8 0, .slice none 0 0] 26)
  have G0 := Lib.hid (blk_alloc (blk_new w #[.int .i64 x.id, .int .i64 x.size, .bool x.keep, .int .u32 x.r0, .int .u32 x.r1, .int .u32 x.r2, .int .u32 x.r3, .int .u32 x.r4, .int .u32 x.r5, .int .u32 x.r6, .int .u32 x.r7, .int .u32 x.pc, .int .u8 x.st, .slice Am x.mem.length cm] 26) (.cells #[.int .i64 0, .int .i64 0, .bool false, .int .u32 0, .int .u32 0, .int .u32 0, .int .u32 0, .int .u32 0, .int .u32 0, .int .u32 0, .int .u32 0, .int .u32 0, .int .u8 0, .slice none 0 0] 26))
  have G1 := Lib.hid (show ((w.alloc (.cells #[.int .i64 x.id, .int .i64 x.size, .bool x.keep, .int .u32 x.r0, .int .u32 x.r1, .int .u32 x.r2, .int .u32 x.r3, .int .u32 x.r4, .int .u32 x.r5, .int .u32 x.r6, .int .u32 x.r7, .int .u32 x.pc, .int .u8 x.st, .slice Am x.mem.length cm] 26)).alloc (.cells #[.int .i64 0, .int .i64 0, .bool false, .int .u32 0, .int .u32 0, .int .u32 0, .int .u32 0, .int .u32 0, .int .u32 0, .int .u32 0, .int .u32 0, .int .u32 0, .int .u8 0, .slice none 0 0] 26)).heap[w.heap.size + 1]? = some (.cells #[.int .i64 0, .int .i64 0, .bool false, .int .u32 0, .int .u32 0, .int .u32 0, .int .u32 0, .int .u32 0, .int .u32 0, .int .u32 0, .int .u32 0, .int .u32 0, .int .u8 0, .slice none 0 0] 26 (0, 0)) by have := blk_new (w.alloc (.cells #[.int .i64 x.id, .int .i64 x.size, .bool x.keep, .int .u32 x.r0, .int .u32 x.r1, .int .u32 x.r2, .int .u32 x.r3, .int .u32 x.r4, .int .u32 x.r5, .int .u32 x.r6, .int .u32 x.r7, .int .u32 x.pc, .int .u8 x.st, .slice Am x.mem.length cm] 26)) #[.int .i64 0, .int .i64 0, .bool false, .int .u32 0, .int .u32 0, .int .u32 0, .int .u32 0, .int .u32 0, .int .u32 0, .int .u32 0, .int .u32 0, .int .u32 0, .int .u8 0, .slice none 0 0] 26; simpa using this)
  have T := rows.clone Am cm x.mem hA hc hl ((w.alloc (.cells #[.int .i64 x.id, .int .i64 x.size, .bool x.keep, .int .u32 x.r0, .int .u32 x.r1, .int .u32 x.r2, .int .u32 x.r3, .int .u32 x.r4, .int .u32 x.r5, .int .u32 x.r6, .int .u32 x.r7, .int .u32 x.pc, .int .u8 x.st, .slice Am x.mem.length cm] 26)).alloc (.cells #[.int .i64 0, .int .i64 0, .bool false, .int .u32 0, .int .u32 0, .int .u32 0, .int .u32 0, .int .u32 0, .int .u32 0, .int .u32 0, .int .u32 0, .int .u32 0, .int .u8 0, .slice none 0 0] 26)) (h.below hX)
  have HX := Lib.hid hX; have HT := Lib.hid T
  clear hX T h hA hc hl
  have a13 := blk_cell G0.out 13
  go_enter Try.func23, Try.ntmps23
  go_wp2_with fail
  refine HT.out.mono ?_
  rintro e w1 ⟨v, rfl, hv⟩
  clear HT a13
  obtain ⟨A2, c2, rfl, hy⟩ := Bys.of_msg hv.msg
  have b1 : Below _ _ w1 := (by obtain ⟨_, _, _, _, _, _, _, b⟩ := hv; exact b)
  have G2 := Lib.hid (blk_below G0.out b1 (blk_lt G0.out)); have G3 := Lib.hid (blk_below G1.out b1 (blk_lt G1.out))
  have B1 := Lib.hid (HX.out.trans (b1.mono HX.out.size))
  have HY := Lib.hid (hy.lo HX.out.size)
  clear b1 hy hv G0 G1
  have a0 := blk_cell G2.out 0
  have a1 := blk_cell G2.out 1
  have a2 := blk_cell G2.out 2
  have a3 := blk_cell G2.out 3
  have a4 := blk_cell G2.out 4
  have a5 := blk_cell G2.out 5
  have a6 := blk_cell G2.out 6
  have a7 := blk_cell G2.out 7
  have a8 := blk_cell G2.out 8
  have a9 := blk_cell G2.out 9
  have a10 := blk_cell G2.out 10
  have a11 := blk_cell G2.out 11
  have a12 := blk_cell G2.out 12
  have a13 := blk_cell G2.out 13
  have f13 := blk_frozen G2.out 13
  go_upto_region 2 with fail
  have G4 := Lib.hid (blk_eq (blk_set G2.out 13 (.slice A2 x.mem.length c2)) (show _ = #[.int .i64 x.id, .int .i64 x.size, .bool x.keep, .int .u32 x.r0, .int .u32 x.r1, .int .u32 x.r2, .int .u32 x.r3, .int .u32 x.r4, .int .u32 x.r5, .int .u32 x.r6, .int .u32 x.r7, .int .u32 x.pc, .int .u8 x.st, .slice A2 x.mem.length c2] from rfl))
  have G5 := Lib.hid (blk_far G3.out (p := ⟨w.heap.size, 13, none⟩) (show w.heap.size + 1 ≠ w.heap.size by omega) (.slice A2 x.mem.length c2))
  have kx := KeptX.set G2.out 13 (.slice A2 x.mem.length c2)
  have HY2 := Lib.hid (HY.out.keptX (by decide) kx)
  have B2 := Lib.hid (B1.out.setCell (p := ⟨w.heap.size, 13, none⟩) (Nat.le_refl _) (.slice A2 x.mem.length c2))
  generalize w1.setCell ⟨w.heap.size, 13, none⟩ (.slice A2 x.mem.length c2) = w2 at *
  clear a0 a1 a2 a3 a4 a5 a6 a7 a8 a9 a10 a11 a12 a13 f13 kx G2 G3 B1 HY
  have a0 := blk_cell G4.out 0
  have a1 := blk_cell G4.out 1
  have a2 := blk_cell G4.out 2
  have a3 := blk_cell G4.out 3
  have a4 := blk_cell G4.out 4
  have a5 := blk_cell G4.out 5
  have a6 := blk_cell G4.out 6
  have a7 := blk_cell G4.out 7
  have a8 := blk_cell G4.out 8
  have a9 := blk_cell G4.out 9
  have a10 := blk_cell G4.out 10
  have a11 := blk_cell G4.out 11
  have a12 := blk_cell G4.out 12
  have a13 := blk_cell G4.out 13
  go_wp2_with (refine wpList_store_at rfl 26 (.tmp 2) (.tmp 7) rfl (w.heap.size + 1) #[.int .i64 x.id, .int .i64 x.size, .bool x.keep, .int .u32 x.r0, .int .u32 x.r1, .int .u32 x.r2, .int .u32 x.r3, .int .u32 x.r4, .int .u32 x.r5, .int .u32 x.r6, .int .u32 x.r7, .int .u32 x.pc, .int .u8 x.st, .slice A2 x.mem.length c2] rfl rfl 26 _ G5.out info_pt rfl (by simp [Value.oneCell']) ?_)
  intro w3 hw3
  have B3 := Lib.hid (below_row B2.out (Nat.le_succ w.heap.size) #[.int .i64 x.id, .int .i64 x.size, .bool x.keep, .int .u32 x.r0, .int .u32 x.r1, .int .u32 x.r2, .int .u32 x.r3, .int .u32 x.r4, .int .u32 x.r5, .int .u32 x.r6, .int .u32 x.r7, .int .u32 x.pc, .int .u8 x.st, .slice A2 x.mem.length c2])
  have G6 := Lib.hid (blk_row G5.out #[.int .i64 x.id, .int .i64 x.size, .bool x.keep, .int .u32 x.r0, .int .u32 x.r1, .int .u32 x.r2, .int .u32 x.r3, .int .u32 x.r4, .int .u32 x.r5, .int .u32 x.r6, .int .u32 x.r7, .int .u32 x.pc, .int .u8 x.st, .slice A2 x.mem.length c2])
  have kr : KeptX 26 w2 (w2.setRow (w.heap.size + 1) #[.int .i64 x.id, .int .i64 x.size, .bool x.keep, .int .u32 x.r0, .int .u32 x.r1, .int .u32 x.r2, .int .u32 x.r3, .int .u32 x.r4, .int .u32 x.r5, .int .u32 x.r6, .int .u32 x.r7, .int .u32 x.pc, .int .u8 x.st, .slice A2 x.mem.length c2]) := ⟨by rw [size_row]; exact Nat.le_refl _, fun g' c2 t ht hg' => (setRow_other w2 _ g' _ fun e => by rw [e, G5.out] at hg'; injection hg' with hg'; injection hg' with _ h2; exact ht h2.symm).trans hg'⟩
  have HY3 := Lib.hid (HY2.out.keptX (by decide) kr)
  rw [← hw3.out] at B3 G6 HY3
  clear hw3 kr
  go_wp2
  refine ret_row rfl (w.heap.size + 1) 26 _ _ rfl G6.out Try.underlying26 rfl info_pt rfl ?_
  exact ⟨A2, c2, rfl, HY3.out, B3.out⟩
end Go.Proofs.Ythkkmnckidfmkaa.hy
