/- Moves: a partition as at first; no condition. -/
import Derived.Test.YtnfjkpeifleogaaRows
import Derived.Test.YtnfjkpeifleogaaMvB
import Derived.Laws.CopyOwn
import Derived.Laws.OwnMore
import Derived.Laws.MakeOwn
namespace Go.Proofs.Ytnfjkpeifleogaa.mv
open Go Go.ChangeShapes Go.WideShapes Go.ChangeAt Go.RowKit Go.Proofs.Ytnfjkpeifleogaa.rows
theorem rd_hpos {w : World} {A : Option Addr} {Y : List Value} (h : Rd w A Y) (h0 : 0 < Y.length) : ∃ ad, A = some ad ∧ ∀ (j : Nat) (v : Value), Y[j]? = some v → w.cell? (ad.add j) = some v := by
  rcases h with e | ⟨b, off, rfl, _, hc⟩
  · rw [e] at h0; simp at h0
  · exact ⟨_, rfl, fun j v hv => by rw [Addr.add_lit]; exact hc j v hv⟩
/-- n zero bytes. -/
def zs (n : Nat) : List UInt8 := List.replicate n 0
theorem zs_length (n : Nat) : (zs n).length = n := by simp [zs]
theorem made_zs (n : Nat) : madeCells (Value.cells (.int .u8 0)) (n * 1) = (bcs (zs n)).toArray := by
  refine Array.ext (by simp [madeCells, bcs, Lib.byteCells, zs]) fun j h1 h2 => ?_
  simp [madeCells, bcs, Lib.byteCells, zs, Value.cells, Nat.mod_one]
theorem run_made (n : Nat) (hn : n ≤ 4096) (w : World) : Sem.run Try.prog (Instr.makeSlice 38 (.int .i64 (n : Int)) (.int .i64 (n : Int))) w = .ok (.slice (some ⟨w.heap.size, 0, none⟩) n n) (w.alloc (.cells (bcs (zs n)).toArray 5)) := by
  obtain ⟨i0, hi, hz0, hz1, hz2⟩ := info_parts info_byte
  have h := run_make (P := Try.prog) w 38 5 i0 (.int .u8 0) Try.underlying38 hi hz0 .i64 .i64 (n : Int) (n : Int) (by omega) (Int.le_refl _) (by rw [hz2]; omega) (by omega)
  rw [hz1, Int.toNat_natCast, made_zs] at h
  exact h
/-- How much memory a fresh partition has, and what lies in it. -/
def freshN (p : Pn) : Nat := if p.size < 0 then 0 else if 512 < p.size then 512 else p.size.toNat
def freshM (n : Nat) (img : List UInt8) : List UInt8 := img.take n ++ zs (n - img.length)
theorem freshM_length (n : Nat) (img : List UInt8) : (freshM n img).length = n := by simp [freshM, zs]; omega
theorem fresh_splice (n : Nat) (img : List UInt8) : splice (bcs (zs n)) 0 (bcs (img.take n)) = bcs (freshM n img) := by
  unfold splice freshM
  rw [bcs_append, List.take_zero, List.nil_append, bcs_drop, bcs_length, List.length_take]
  congr 2
  unfold zs
  rw [List.drop_replicate]
  congr 1
  omega
def freshP (p : Pn) : Pt := ⟨p.id, p.size, p.keep, 0, 0, 0, 0, 0, 0, 0, 0, 0, 0, freshM (freshN p) p.img⟩
/-- A part with memory of the call's own. -/
def POutF (x : Pt) (w : World) (e : Ending) (w' : World) : Prop :=
  Below w.heap.size w w' ∧ ∃ A c, e = .returned (.agg #[.int .i64 x.id, .int .i64 x.size, .bool x.keep, .int .u32 x.r0, .int .u32 x.r1, .int .u32 x.r2, .int .u32 x.r3, .int .u32 x.r4, .int .u32 x.r5, .int .u32 x.r6, .int .u32 x.r7, .int .u32 x.pc, .int .u8 x.st, .slice A x.mem.length c]) ∧ MsgAt w.heap.size w'.heap.size w' (.slice A x.mem.length c) x.mem
set_option maxRecDepth 100000 in
set_option maxHeartbeats 4000000 in
theorem fresh_neg (pid pbase psize : Int) (pk : Bool) (img : Msg) (Ai : Option Addr) (ni ci : Nat) (hni : img.length = ni) (h0 : psize < 0) (w : World) (h : Rd w Ai (bcs img)) :
    Calls Try.prog 25 #[.agg #[.int .i64 pid, .int .i64 pbase, .int .i64 psize, .bool pk, .slice Ai ni ci]] w (POutF ⟨pid, psize, pk, 0, 0, 0, 0, 0, 0, 0, 0, 0, 0, freshM 0 img⟩ w) := by
  have hB2 := (((Below.refl w.heap.size w).alloc (Nat.le_refl _) (.cells #[.int .i64 pid, .int .i64 pbase, .int .i64 psize, .bool pk, .slice Ai ni ci] 40)).alloc (by simp) (.cells #[.int .i64 0, .int .i64 0, .bool false, .int .u32 0, .int .u32 0, .int .u32 0, .int .u32 0, .int .u32 0, .int .u32 0, .int .u32 0, .int .u32 0, .int .u32 0, .int .u8 0, .slice none 0 0] 44))
  have hs2 : ((w.alloc (.cells #[.int .i64 pid, .int .i64 pbase, .int .i64 psize, .bool pk, .slice Ai ni ci] 40)).alloc (.cells #[.int .i64 0, .int .i64 0, .bool false, .int .u32 0, .int .u32 0, .int .u32 0, .int .u32 0, .int .u32 0, .int .u32 0, .int .u32 0, .int .u32 0, .int .u32 0, .int .u8 0, .slice none 0 0] 44)).heap.size = w.heap.size + 2 := by simp
  have G0 := Lib.hid (blk_alloc (blk_new w #[.int .i64 pid, .int .i64 pbase, .int .i64 psize, .bool pk, .slice Ai ni ci] 40) (.cells #[.int .i64 0, .int .i64 0, .bool false, .int .u32 0, .int .u32 0, .int .u32 0, .int .u32 0, .int .u32 0, .int .u32 0, .int .u32 0, .int .u32 0, .int .u32 0, .int .u8 0, .slice none 0 0] 44))
  have G1 := Lib.hid (show ((w.alloc (.cells #[.int .i64 pid, .int .i64 pbase, .int .i64 psize, .bool pk, .slice Ai ni ci] 40)).alloc (.cells #[.int .i64 0, .int .i64 0, .bool false, .int .u32 0, .int .u32 0, .int .u32 0, .int .u32 0, .int .u32 0, .int .u32 0, .int .u32 0, .int .u32 0, .int .u32 0, .int .u8 0, .slice none 0 0] 44)).heap[w.heap.size + 1]? = some (.cells #[.int .i64 0, .int .i64 0, .bool false, .int .u32 0, .int .u32 0, .int .u32 0, .int .u32 0, .int .u32 0, .int .u32 0, .int .u32 0, .int .u32 0, .int .u32 0, .int .u8 0, .slice none 0 0] 44 (0, 0)) by have := blk_new (w.alloc (.cells #[.int .i64 pid, .int .i64 pbase, .int .i64 psize, .bool pk, .slice Ai ni ci] 40)) #[.int .i64 0, .int .i64 0, .bool false, .int .u32 0, .int .u32 0, .int .u32 0, .int .u32 0, .int .u32 0, .int .u32 0, .int .u32 0, .int .u32 0, .int .u32 0, .int .u8 0, .slice none 0 0] 44; simpa using this)
  have hm : Sem.run Try.prog (Instr.makeSlice 38 (.int .i64 0) (.int .i64 0)) ((w.alloc (.cells #[.int .i64 pid, .int .i64 pbase, .int .i64 psize, .bool pk, .slice Ai ni ci] 40)).alloc (.cells #[.int .i64 0, .int .i64 0, .bool false, .int .u32 0, .int .u32 0, .int .u32 0, .int .u32 0, .int .u32 0, .int .u32 0, .int .u32 0, .int .u32 0, .int .u32 0, .int .u8 0, .slice none 0 0] 44)) = .ok (.slice (some ⟨w.heap.size + 2, 0, none⟩) 0 0) (((w.alloc (.cells #[.int .i64 pid, .int .i64 pbase, .int .i64 psize, .bool pk, .slice Ai ni ci] 40)).alloc (.cells #[.int .i64 0, .int .i64 0, .bool false, .int .u32 0, .int .u32 0, .int .u32 0, .int .u32 0, .int .u32 0, .int .u32 0, .int .u32 0, .int .u32 0, .int .u32 0, .int .u8 0, .slice none 0 0] 44)).alloc (.cells (bcs (zs 0)).toArray 5)) := by
    have := run_made 0 (by omega) ((w.alloc (.cells #[.int .i64 pid, .int .i64 pbase, .int .i64 psize, .bool pk, .slice Ai ni ci] 40)).alloc (.cells #[.int .i64 0, .int .i64 0, .bool false, .int .u32 0, .int .u32 0, .int .u32 0, .int .u32 0, .int .u32 0, .int .u32 0, .int .u32 0, .int .u32 0, .int .u32 0, .int .u8 0, .slice none 0 0] 44))
    rw [hs2] at this
    exact this
  have GM := Lib.hid (show (((w.alloc (.cells #[.int .i64 pid, .int .i64 pbase, .int .i64 psize, .bool pk, .slice Ai ni ci] 40)).alloc (.cells #[.int .i64 0, .int .i64 0, .bool false, .int .u32 0, .int .u32 0, .int .u32 0, .int .u32 0, .int .u32 0, .int .u32 0, .int .u32 0, .int .u32 0, .int .u32 0, .int .u8 0, .slice none 0 0] 44)).alloc (.cells (bcs (zs 0)).toArray 5)).heap[w.heap.size + 2]? = some (.cells (bcs (zs 0)).toArray 5 (0, 0)) by have := blk_new ((w.alloc (.cells #[.int .i64 pid, .int .i64 pbase, .int .i64 psize, .bool pk, .slice Ai ni ci] 40)).alloc (.cells #[.int .i64 0, .int .i64 0, .bool false, .int .u32 0, .int .u32 0, .int .u32 0, .int .u32 0, .int .u32 0, .int .u32 0, .int .u32 0, .int .u32 0, .int .u32 0, .int .u8 0, .slice none 0 0] 44)) (bcs (zs 0)).toArray 5; rwa [hs2] at this)
  have BA := Lib.hid ((Below.refl (w.heap.size + 2) ((w.alloc (.cells #[.int .i64 pid, .int .i64 pbase, .int .i64 psize, .bool pk, .slice Ai ni ci] 40)).alloc (.cells #[.int .i64 0, .int .i64 0, .bool false, .int .u32 0, .int .u32 0, .int .u32 0, .int .u32 0, .int .u32 0, .int .u32 0, .int .u32 0, .int .u32 0, .int .u32 0, .int .u8 0, .slice none 0 0] 44))).alloc (by rw [hs2]; exact Nat.le_refl _) (.cells (bcs (zs 0)).toArray 5))
  have BM := Lib.hid hB2
  have HRT := Lib.hid (show Rd (((w.alloc (.cells #[.int .i64 pid, .int .i64 pbase, .int .i64 psize, .bool pk, .slice Ai ni ci] 40)).alloc (.cells #[.int .i64 0, .int .i64 0, .bool false, .int .u32 0, .int .u32 0, .int .u32 0, .int .u32 0, .int .u32 0, .int .u32 0, .int .u32 0, .int .u32 0, .int .u32 0, .int .u8 0, .slice none 0 0] 44)).alloc (.cells (bcs (zs 0)).toArray 5)) Ai (bcs (img.take 0)) by rw [← bcs_take]; exact ((h.below hB2).alloc _).take 0)
  have HL := Lib.hid (show (bcs (img.take 0)).length = Nat.min ni 0 by rw [bcs_length, List.length_take, hni, Nat.min_comm])
  have HZ := Lib.hid (show (bcs (zs 0)).length = 0 by rw [bcs_length, zs_length])
  have HS := Lib.hid (fresh_splice 0 img)
  have HF := Lib.hid (freshM_length 0 img)
  have a2 : ∀ o, (((w.alloc (.cells #[.int .i64 pid, .int .i64 pbase, .int .i64 psize, .bool pk, .slice Ai ni ci] 40)).alloc (.cells #[.int .i64 0, .int .i64 0, .bool false, .int .u32 0, .int .u32 0, .int .u32 0, .int .u32 0, .int .u32 0, .int .u32 0, .int .u32 0, .int .u32 0, .int .u32 0, .int .u8 0, .slice none 0 0] 44)).alloc o).cell? ⟨w.heap.size, 4, none⟩ = some (.slice Ai ni ci) := fun o => Lib.cell?_alloc_marked o (blk_cell G0.out 4)
  obtain ⟨Z, hZ⟩ : ∃ Z, bcs (zs 0) = Z := ⟨_, rfl⟩
  obtain ⟨Y, hY⟩ : ∃ Y, bcs (img.take 0) = Y := ⟨_, rfl⟩
  rw [hZ] at hm GM BA HZ HS HRT
  rw [hY] at HL HS HRT
  have HY1 := Lib.hid (show ∀ u ∈ Y, u.oneCell' = true by rw [← hY]; exact bcs_one _)
  clear h hni hB2 hZ hY hs2
  go_enter Try.func25, Try.ntmps25
  go_wp2_with (refine wpList_copy_splice rfl (.tmp 10) (.tmp 12) 38 38 rfl 5 Try.underlying38 (by kernel_rfl) _ _ _ _ _ _ rfl rfl (w.heap.size + 2) 0 Z 5 GM.out Y HL.out ?k2 ?k3 HY1.out (w.heap.size + 2) ((w.alloc (.cells #[.int .i64 pid, .int .i64 pbase, .int .i64 psize, .bool pk, .slice Ai ni ci] 40)).alloc (.cells #[.int .i64 0, .int .i64 0, .bool false, .int .u32 0, .int .u32 0, .int .u32 0, .int .u32 0, .int .u32 0, .int .u32 0, .int .u32 0, .int .u32 0, .int .u32 0, .int .u8 0, .slice none 0 0] 44)) BA.out (Nat.le_refl _) ?_)
  case k2 =>
    intro h0
    first | exact ⟨rfl, rd_hpos HRT.out h0⟩ | exact rd_hpos HRT.out h0
  case k3 => rw [HL.out, HZ.out]; first | (simp; done) | (show 0 + min ni _ ≤ _; omega)
  intro w3 hg3 hb3
  have hg4 := hg3.out
  rw [HS.out] at hg4
  have GF := Lib.hid hg4
  have B3 := Lib.hid (BM.out.trans (hb3.mono (Nat.le_add_right _ _)))
  have G0 := Lib.hid (blk_below G0.out hb3 (by omega)); have G1 := Lib.hid (blk_below G1.out hb3 (by omega))
  have p0 := blk_cell G0.out 0; have p2 := blk_cell G0.out 2; have p3 := blk_cell G0.out 3
  clear hg3 hg4 hb3 hm a2
  go_wp2_with (refine wpList_store_at rfl 44 (.tmp 2) (.tmp 22) rfl (w.heap.size + 1) #[.int .i64 pid, .int .i64 psize, .bool pk, .int .u32 0, .int .u32 0, .int .u32 0, .int .u32 0, .int .u32 0, .int .u32 0, .int .u32 0, .int .u32 0, .int .u32 0, .int .u8 0, .slice (some ⟨w.heap.size + 2, 0, none⟩) 0 0] rfl rfl 44 _ G1.out info_pt rfl (by simp [Value.oneCell']) ?_)
  intro w6 hw6
  have B6 := Lib.hid (below_row B3.out (show w.heap.size ≤ w.heap.size + 1 by omega) #[.int .i64 pid, .int .i64 psize, .bool pk, .int .u32 0, .int .u32 0, .int .u32 0, .int .u32 0, .int .u32 0, .int .u32 0, .int .u32 0, .int .u32 0, .int .u32 0, .int .u8 0, .slice (some ⟨w.heap.size + 2, 0, none⟩) 0 0])
  have G6 := Lib.hid (blk_row G1.out #[.int .i64 pid, .int .i64 psize, .bool pk, .int .u32 0, .int .u32 0, .int .u32 0, .int .u32 0, .int .u32 0, .int .u32 0, .int .u32 0, .int .u32 0, .int .u32 0, .int .u8 0, .slice (some ⟨w.heap.size + 2, 0, none⟩) 0 0])
  have M6 := Lib.hid (blk_row_ne GF.out (show w.heap.size + 2 ≠ w.heap.size + 1 by omega) #[.int .i64 pid, .int .i64 psize, .bool pk, .int .u32 0, .int .u32 0, .int .u32 0, .int .u32 0, .int .u32 0, .int .u32 0, .int .u32 0, .int .u32 0, .int .u32 0, .int .u8 0, .slice (some ⟨w.heap.size + 2, 0, none⟩) 0 0])
  rw [← hw6.out] at B6 G6 M6
  clear hw6 p0 p2 p3
  go_wp2
  refine ret_row rfl (w.heap.size + 1) 44 _ _ rfl G6.out Try.underlying44 rfl info_pt rfl ?_
  refine ⟨B6.out, some ⟨w.heap.size + 2, 0, none⟩, 0, by simp only [HF.out], _, 0, rfl, by rw [HF.out]; exact Nat.le_refl _, (fun h => by cases h), .inl ⟨_, rfl⟩, .inr ⟨w.heap.size + 2, 0, _, rfl, by omega, blk_lt M6.out, M6.out, fun j u hu => ?_⟩⟩
  rw [Nat.zero_add]
  simpa using hu
set_option maxRecDepth 100000 in
set_option maxHeartbeats 4000000 in
theorem fresh_big (pid pbase psize : Int) (pk : Bool) (img : Msg) (Ai : Option Addr) (ni ci : Nat) (hni : img.length = ni) (h1 : 512 < psize) (w : World) (h : Rd w Ai (bcs img)) :
    Calls Try.prog 25 #[.agg #[.int .i64 pid, .int .i64 pbase, .int .i64 psize, .bool pk, .slice Ai ni ci]] w (POutF ⟨pid, psize, pk, 0, 0, 0, 0, 0, 0, 0, 0, 0, 0, freshM 512 img⟩ w) := by
  have hB2 := (((Below.refl w.heap.size w).alloc (Nat.le_refl _) (.cells #[.int .i64 pid, .int .i64 pbase, .int .i64 psize, .bool pk, .slice Ai ni ci] 40)).alloc (by simp) (.cells #[.int .i64 0, .int .i64 0, .bool false, .int .u32 0, .int .u32 0, .int .u32 0, .int .u32 0, .int .u32 0, .int .u32 0, .int .u32 0, .int .u32 0, .int .u32 0, .int .u8 0, .slice none 0 0] 44))
  have hs2 : ((w.alloc (.cells #[.int .i64 pid, .int .i64 pbase, .int .i64 psize, .bool pk, .slice Ai ni ci] 40)).alloc (.cells #[.int .i64 0, .int .i64 0, .bool false, .int .u32 0, .int .u32 0, .int .u32 0, .int .u32 0, .int .u32 0, .int .u32 0, .int .u32 0, .int .u32 0, .int .u32 0, .int .u8 0, .slice none 0 0] 44)).heap.size = w.heap.size + 2 := by simp
  have G0 := Lib.hid (blk_alloc (blk_new w #[.int .i64 pid, .int .i64 pbase, .int .i64 psize, .bool pk, .slice Ai ni ci] 40) (.cells #[.int .i64 0, .int .i64 0, .bool false, .int .u32 0, .int .u32 0, .int .u32 0, .int .u32 0, .int .u32 0, .int .u32 0, .int .u32 0, .int .u32 0, .int .u32 0, .int .u8 0, .slice none 0 0] 44))
  have G1 := Lib.hid (show ((w.alloc (.cells #[.int .i64 pid, .int .i64 pbase, .int .i64 psize, .bool pk, .slice Ai ni ci] 40)).alloc (.cells #[.int .i64 0, .int .i64 0, .bool false, .int .u32 0, .int .u32 0, .int .u32 0, .int .u32 0, .int .u32 0, .int .u32 0, .int .u32 0, .int .u32 0, .int .u32 0, .int .u8 0, .slice none 0 0] 44)).heap[w.heap.size + 1]? = some (.cells #[.int .i64 0, .int .i64 0, .bool false, .int .u32 0, .int .u32 0, .int .u32 0, .int .u32 0, .int .u32 0, .int .u32 0, .int .u32 0, .int .u32 0, .int .u32 0, .int .u8 0, .slice none 0 0] 44 (0, 0)) by have := blk_new (w.alloc (.cells #[.int .i64 pid, .int .i64 pbase, .int .i64 psize, .bool pk, .slice Ai ni ci] 40)) #[.int .i64 0, .int .i64 0, .bool false, .int .u32 0, .int .u32 0, .int .u32 0, .int .u32 0, .int .u32 0, .int .u32 0, .int .u32 0, .int .u32 0, .int .u32 0, .int .u8 0, .slice none 0 0] 44; simpa using this)
  have hm : Sem.run Try.prog (Instr.makeSlice 38 (.int .i64 512) (.int .i64 512)) ((w.alloc (.cells #[.int .i64 pid, .int .i64 pbase, .int .i64 psize, .bool pk, .slice Ai ni ci] 40)).alloc (.cells #[.int .i64 0, .int .i64 0, .bool false, .int .u32 0, .int .u32 0, .int .u32 0, .int .u32 0, .int .u32 0, .int .u32 0, .int .u32 0, .int .u32 0, .int .u32 0, .int .u8 0, .slice none 0 0] 44)) = .ok (.slice (some ⟨w.heap.size + 2, 0, none⟩) 512 512) (((w.alloc (.cells #[.int .i64 pid, .int .i64 pbase, .int .i64 psize, .bool pk, .slice Ai ni ci] 40)).alloc (.cells #[.int .i64 0, .int .i64 0, .bool false, .int .u32 0, .int .u32 0, .int .u32 0, .int .u32 0, .int .u32 0, .int .u32 0, .int .u32 0, .int .u32 0, .int .u32 0, .int .u8 0, .slice none 0 0] 44)).alloc (.cells (bcs (zs 512)).toArray 5)) := by
    have := run_made 512 (by omega) ((w.alloc (.cells #[.int .i64 pid, .int .i64 pbase, .int .i64 psize, .bool pk, .slice Ai ni ci] 40)).alloc (.cells #[.int .i64 0, .int .i64 0, .bool false, .int .u32 0, .int .u32 0, .int .u32 0, .int .u32 0, .int .u32 0, .int .u32 0, .int .u32 0, .int .u32 0, .int .u32 0, .int .u8 0, .slice none 0 0] 44))
    rw [hs2] at this
    exact this
  have GM := Lib.hid (show (((w.alloc (.cells #[.int .i64 pid, .int .i64 pbase, .int .i64 psize, .bool pk, .slice Ai ni ci] 40)).alloc (.cells #[.int .i64 0, .int .i64 0, .bool false, .int .u32 0, .int .u32 0, .int .u32 0, .int .u32 0, .int .u32 0, .int .u32 0, .int .u32 0, .int .u32 0, .int .u32 0, .int .u8 0, .slice none 0 0] 44)).alloc (.cells (bcs (zs 512)).toArray 5)).heap[w.heap.size + 2]? = some (.cells (bcs (zs 512)).toArray 5 (0, 0)) by have := blk_new ((w.alloc (.cells #[.int .i64 pid, .int .i64 pbase, .int .i64 psize, .bool pk, .slice Ai ni ci] 40)).alloc (.cells #[.int .i64 0, .int .i64 0, .bool false, .int .u32 0, .int .u32 0, .int .u32 0, .int .u32 0, .int .u32 0, .int .u32 0, .int .u32 0, .int .u32 0, .int .u32 0, .int .u8 0, .slice none 0 0] 44)) (bcs (zs 512)).toArray 5; rwa [hs2] at this)
  have BA := Lib.hid ((Below.refl (w.heap.size + 2) ((w.alloc (.cells #[.int .i64 pid, .int .i64 pbase, .int .i64 psize, .bool pk, .slice Ai ni ci] 40)).alloc (.cells #[.int .i64 0, .int .i64 0, .bool false, .int .u32 0, .int .u32 0, .int .u32 0, .int .u32 0, .int .u32 0, .int .u32 0, .int .u32 0, .int .u32 0, .int .u32 0, .int .u8 0, .slice none 0 0] 44))).alloc (by rw [hs2]; exact Nat.le_refl _) (.cells (bcs (zs 512)).toArray 5))
  have BM := Lib.hid hB2
  have HRT := Lib.hid (show Rd (((w.alloc (.cells #[.int .i64 pid, .int .i64 pbase, .int .i64 psize, .bool pk, .slice Ai ni ci] 40)).alloc (.cells #[.int .i64 0, .int .i64 0, .bool false, .int .u32 0, .int .u32 0, .int .u32 0, .int .u32 0, .int .u32 0, .int .u32 0, .int .u32 0, .int .u32 0, .int .u32 0, .int .u8 0, .slice none 0 0] 44)).alloc (.cells (bcs (zs 512)).toArray 5)) Ai (bcs (img.take 512)) by rw [← bcs_take]; exact ((h.below hB2).alloc _).take 512)
  have HL := Lib.hid (show (bcs (img.take 512)).length = Nat.min ni 512 by rw [bcs_length, List.length_take, hni, Nat.min_comm])
  have HZ := Lib.hid (show (bcs (zs 512)).length = 512 by rw [bcs_length, zs_length])
  have HS := Lib.hid (fresh_splice 512 img)
  have HF := Lib.hid (freshM_length 512 img)
  have a2 : ∀ o, (((w.alloc (.cells #[.int .i64 pid, .int .i64 pbase, .int .i64 psize, .bool pk, .slice Ai ni ci] 40)).alloc (.cells #[.int .i64 0, .int .i64 0, .bool false, .int .u32 0, .int .u32 0, .int .u32 0, .int .u32 0, .int .u32 0, .int .u32 0, .int .u32 0, .int .u32 0, .int .u32 0, .int .u8 0, .slice none 0 0] 44)).alloc o).cell? ⟨w.heap.size, 4, none⟩ = some (.slice Ai ni ci) := fun o => Lib.cell?_alloc_marked o (blk_cell G0.out 4)
  obtain ⟨Z, hZ⟩ : ∃ Z, bcs (zs 512) = Z := ⟨_, rfl⟩
  obtain ⟨Y, hY⟩ : ∃ Y, bcs (img.take 512) = Y := ⟨_, rfl⟩
  rw [hZ] at hm GM BA HZ HS HRT
  rw [hY] at HL HS HRT
  have HY1 := Lib.hid (show ∀ u ∈ Y, u.oneCell' = true by rw [← hY]; exact bcs_one _)
  clear h hni hB2 hZ hY hs2
  go_enter Try.func25, Try.ntmps25
  go_wp2_with (refine wpList_copy_splice rfl (.tmp 10) (.tmp 12) 38 38 rfl 5 Try.underlying38 (by kernel_rfl) _ _ _ _ _ _ rfl rfl (w.heap.size + 2) 0 Z 5 GM.out Y HL.out ?k2 ?k3 HY1.out (w.heap.size + 2) ((w.alloc (.cells #[.int .i64 pid, .int .i64 pbase, .int .i64 psize, .bool pk, .slice Ai ni ci] 40)).alloc (.cells #[.int .i64 0, .int .i64 0, .bool false, .int .u32 0, .int .u32 0, .int .u32 0, .int .u32 0, .int .u32 0, .int .u32 0, .int .u32 0, .int .u32 0, .int .u32 0, .int .u8 0, .slice none 0 0] 44)) BA.out (Nat.le_refl _) ?_)
  case k2 =>
    intro h0
    first | exact ⟨rfl, rd_hpos HRT.out h0⟩ | exact rd_hpos HRT.out h0
  case k3 => rw [HL.out, HZ.out]; first | (simp; done) | (show 0 + min ni _ ≤ _; omega)
  intro w3 hg3 hb3
  have hg4 := hg3.out
  rw [HS.out] at hg4
  have GF := Lib.hid hg4
  have B3 := Lib.hid (BM.out.trans (hb3.mono (Nat.le_add_right _ _)))
  have G0 := Lib.hid (blk_below G0.out hb3 (by omega)); have G1 := Lib.hid (blk_below G1.out hb3 (by omega))
  have p0 := blk_cell G0.out 0; have p2 := blk_cell G0.out 2; have p3 := blk_cell G0.out 3
  clear hg3 hg4 hb3 hm a2
  go_wp2_with (refine wpList_store_at rfl 44 (.tmp 2) (.tmp 22) rfl (w.heap.size + 1) #[.int .i64 pid, .int .i64 psize, .bool pk, .int .u32 0, .int .u32 0, .int .u32 0, .int .u32 0, .int .u32 0, .int .u32 0, .int .u32 0, .int .u32 0, .int .u32 0, .int .u8 0, .slice (some ⟨w.heap.size + 2, 0, none⟩) 512 512] rfl rfl 44 _ G1.out info_pt rfl (by simp [Value.oneCell']) ?_)
  intro w6 hw6
  have B6 := Lib.hid (below_row B3.out (show w.heap.size ≤ w.heap.size + 1 by omega) #[.int .i64 pid, .int .i64 psize, .bool pk, .int .u32 0, .int .u32 0, .int .u32 0, .int .u32 0, .int .u32 0, .int .u32 0, .int .u32 0, .int .u32 0, .int .u32 0, .int .u8 0, .slice (some ⟨w.heap.size + 2, 0, none⟩) 512 512])
  have G6 := Lib.hid (blk_row G1.out #[.int .i64 pid, .int .i64 psize, .bool pk, .int .u32 0, .int .u32 0, .int .u32 0, .int .u32 0, .int .u32 0, .int .u32 0, .int .u32 0, .int .u32 0, .int .u32 0, .int .u8 0, .slice (some ⟨w.heap.size + 2, 0, none⟩) 512 512])
  have M6 := Lib.hid (blk_row_ne GF.out (show w.heap.size + 2 ≠ w.heap.size + 1 by omega) #[.int .i64 pid, .int .i64 psize, .bool pk, .int .u32 0, .int .u32 0, .int .u32 0, .int .u32 0, .int .u32 0, .int .u32 0, .int .u32 0, .int .u32 0, .int .u32 0, .int .u8 0, .slice (some ⟨w.heap.size + 2, 0, none⟩) 512 512])
  rw [← hw6.out] at B6 G6 M6
  clear hw6 p0 p2 p3
  go_wp2
  refine ret_row rfl (w.heap.size + 1) 44 _ _ rfl G6.out Try.underlying44 rfl info_pt rfl ?_
  refine ⟨B6.out, some ⟨w.heap.size + 2, 0, none⟩, 512, by simp only [HF.out], _, 512, rfl, by rw [HF.out]; exact Nat.le_refl _, (fun h => by cases h), .inl ⟨_, rfl⟩, .inr ⟨w.heap.size + 2, 0, _, rfl, by omega, blk_lt M6.out, M6.out, fun j u hu => ?_⟩⟩
  rw [Nat.zero_add]
  simpa using hu
set_option maxRecDepth 100000 in
set_option maxHeartbeats 4000000 in
theorem fresh_mid (pid pbase : Int) (pk : Bool) (img : Msg) (Ai : Option Addr) (ni ci : Nat) (hni : img.length = ni) (n : Nat) (hn5 : n ≤ 512) (w : World) (h : Rd w Ai (bcs img)) :
    Calls Try.prog 25 #[.agg #[.int .i64 pid, .int .i64 pbase, .int .i64 (n : Int), .bool pk, .slice Ai ni ci]] w (POutF ⟨pid, (n : Int), pk, 0, 0, 0, 0, 0, 0, 0, 0, 0, 0, freshM n img⟩ w) := by
  have hn0 : (0 : Int) ≤ (n : Int) := by omega
  have hn51 : (n : Int) ≤ 512 := by omega
  have hB2 := (((Below.refl w.heap.size w).alloc (Nat.le_refl _) (.cells #[.int .i64 pid, .int .i64 pbase, .int .i64 (n : Int), .bool pk, .slice Ai ni ci] 40)).alloc (by simp) (.cells #[.int .i64 0, .int .i64 0, .bool false, .int .u32 0, .int .u32 0, .int .u32 0, .int .u32 0, .int .u32 0, .int .u32 0, .int .u32 0, .int .u32 0, .int .u32 0, .int .u8 0, .slice none 0 0] 44))
  have hs2 : ((w.alloc (.cells #[.int .i64 pid, .int .i64 pbase, .int .i64 (n : Int), .bool pk, .slice Ai ni ci] 40)).alloc (.cells #[.int .i64 0, .int .i64 0, .bool false, .int .u32 0, .int .u32 0, .int .u32 0, .int .u32 0, .int .u32 0, .int .u32 0, .int .u32 0, .int .u32 0, .int .u32 0, .int .u8 0, .slice none 0 0] 44)).heap.size = w.heap.size + 2 := by simp
  have G0 := Lib.hid (blk_alloc (blk_new w #[.int .i64 pid, .int .i64 pbase, .int .i64 (n : Int), .bool pk, .slice Ai ni ci] 40) (.cells #[.int .i64 0, .int .i64 0, .bool false, .int .u32 0, .int .u32 0, .int .u32 0, .int .u32 0, .int .u32 0, .int .u32 0, .int .u32 0, .int .u32 0, .int .u32 0, .int .u8 0, .slice none 0 0] 44))
  have G1 := Lib.hid (show ((w.alloc (.cells #[.int .i64 pid, .int .i64 pbase, .int .i64 (n : Int), .bool pk, .slice Ai ni ci] 40)).alloc (.cells #[.int .i64 0, .int .i64 0, .bool false, .int .u32 0, .int .u32 0, .int .u32 0, .int .u32 0, .int .u32 0, .int .u32 0, .int .u32 0, .int .u32 0, .int .u32 0, .int .u8 0, .slice none 0 0] 44)).heap[w.heap.size + 1]? = some (.cells #[.int .i64 0, .int .i64 0, .bool false, .int .u32 0, .int .u32 0, .int .u32 0, .int .u32 0, .int .u32 0, .int .u32 0, .int .u32 0, .int .u32 0, .int .u32 0, .int .u8 0, .slice none 0 0] 44 (0, 0)) by have := blk_new (w.alloc (.cells #[.int .i64 pid, .int .i64 pbase, .int .i64 (n : Int), .bool pk, .slice Ai ni ci] 40)) #[.int .i64 0, .int .i64 0, .bool false, .int .u32 0, .int .u32 0, .int .u32 0, .int .u32 0, .int .u32 0, .int .u32 0, .int .u32 0, .int .u32 0, .int .u32 0, .int .u8 0, .slice none 0 0] 44; simpa using this)
  have hm : Sem.run Try.prog (Instr.makeSlice 38 (.int .i64 (n : Int)) (.int .i64 (n : Int))) ((w.alloc (.cells #[.int .i64 pid, .int .i64 pbase, .int .i64 (n : Int), .bool pk, .slice Ai ni ci] 40)).alloc (.cells #[.int .i64 0, .int .i64 0, .bool false, .int .u32 0, .int .u32 0, .int .u32 0, .int .u32 0, .int .u32 0, .int .u32 0, .int .u32 0, .int .u32 0, .int .u32 0, .int .u8 0, .slice none 0 0] 44)) = .ok (.slice (some ⟨w.heap.size + 2, 0, none⟩) n n) (((w.alloc (.cells #[.int .i64 pid, .int .i64 pbase, .int .i64 (n : Int), .bool pk, .slice Ai ni ci] 40)).alloc (.cells #[.int .i64 0, .int .i64 0, .bool false, .int .u32 0, .int .u32 0, .int .u32 0, .int .u32 0, .int .u32 0, .int .u32 0, .int .u32 0, .int .u32 0, .int .u32 0, .int .u8 0, .slice none 0 0] 44)).alloc (.cells (bcs (zs n)).toArray 5)) := by
    have := run_made n (by omega) ((w.alloc (.cells #[.int .i64 pid, .int .i64 pbase, .int .i64 (n : Int), .bool pk, .slice Ai ni ci] 40)).alloc (.cells #[.int .i64 0, .int .i64 0, .bool false, .int .u32 0, .int .u32 0, .int .u32 0, .int .u32 0, .int .u32 0, .int .u32 0, .int .u32 0, .int .u32 0, .int .u32 0, .int .u8 0, .slice none 0 0] 44))
    rw [hs2] at this
    exact this
  have GM := Lib.hid (show (((w.alloc (.cells #[.int .i64 pid, .int .i64 pbase, .int .i64 (n : Int), .bool pk, .slice Ai ni ci] 40)).alloc (.cells #[.int .i64 0, .int .i64 0, .bool false, .int .u32 0, .int .u32 0, .int .u32 0, .int .u32 0, .int .u32 0, .int .u32 0, .int .u32 0, .int .u32 0, .int .u32 0, .int .u8 0, .slice none 0 0] 44)).alloc (.cells (bcs (zs n)).toArray 5)).heap[w.heap.size + 2]? = some (.cells (bcs (zs n)).toArray 5 (0, 0)) by have := blk_new ((w.alloc (.cells #[.int .i64 pid, .int .i64 pbase, .int .i64 (n : Int), .bool pk, .slice Ai ni ci] 40)).alloc (.cells #[.int .i64 0, .int .i64 0, .bool false, .int .u32 0, .int .u32 0, .int .u32 0, .int .u32 0, .int .u32 0, .int .u32 0, .int .u32 0, .int .u32 0, .int .u32 0, .int .u8 0, .slice none 0 0] 44)) (bcs (zs n)).toArray 5; rwa [hs2] at this)
  have BA := Lib.hid ((Below.refl (w.heap.size + 2) ((w.alloc (.cells #[.int .i64 pid, .int .i64 pbase, .int .i64 (n : Int), .bool pk, .slice Ai ni ci] 40)).alloc (.cells #[.int .i64 0, .int .i64 0, .bool false, .int .u32 0, .int .u32 0, .int .u32 0, .int .u32 0, .int .u32 0, .int .u32 0, .int .u32 0, .int .u32 0, .int .u32 0, .int .u8 0, .slice none 0 0] 44))).alloc (by rw [hs2]; exact Nat.le_refl _) (.cells (bcs (zs n)).toArray 5))
  have BM := Lib.hid hB2
  have HRT := Lib.hid (show Rd (((w.alloc (.cells #[.int .i64 pid, .int .i64 pbase, .int .i64 (n : Int), .bool pk, .slice Ai ni ci] 40)).alloc (.cells #[.int .i64 0, .int .i64 0, .bool false, .int .u32 0, .int .u32 0, .int .u32 0, .int .u32 0, .int .u32 0, .int .u32 0, .int .u32 0, .int .u32 0, .int .u32 0, .int .u8 0, .slice none 0 0] 44)).alloc (.cells (bcs (zs n)).toArray 5)) Ai (bcs (img.take n)) by rw [← bcs_take]; exact ((h.below hB2).alloc _).take n)
  have HL := Lib.hid (show (bcs (img.take n)).length = Nat.min ni n by rw [bcs_length, List.length_take, hni, Nat.min_comm])
  have HZ := Lib.hid (show (bcs (zs n)).length = n by rw [bcs_length, zs_length])
  have HS := Lib.hid (fresh_splice n img)
  have HF := Lib.hid (freshM_length n img)
  have a2 : ∀ o, (((w.alloc (.cells #[.int .i64 pid, .int .i64 pbase, .int .i64 (n : Int), .bool pk, .slice Ai ni ci] 40)).alloc (.cells #[.int .i64 0, .int .i64 0, .bool false, .int .u32 0, .int .u32 0, .int .u32 0, .int .u32 0, .int .u32 0, .int .u32 0, .int .u32 0, .int .u32 0, .int .u32 0, .int .u8 0, .slice none 0 0] 44)).alloc o).cell? ⟨w.heap.size, 4, none⟩ = some (.slice Ai ni ci) := fun o => Lib.cell?_alloc_marked o (blk_cell G0.out 4)
  obtain ⟨Z, hZ⟩ : ∃ Z, bcs (zs n) = Z := ⟨_, rfl⟩
  obtain ⟨Y, hY⟩ : ∃ Y, bcs (img.take n) = Y := ⟨_, rfl⟩
  rw [hZ] at hm GM BA HZ HS HRT
  rw [hY] at HL HS HRT
  have HY1 := Lib.hid (show ∀ u ∈ Y, u.oneCell' = true by rw [← hY]; exact bcs_one _)
  clear h hni hB2 hZ hY hs2
  go_enter Try.func25, Try.ntmps25
  go_wp2_with (refine wpList_copy_splice rfl (.tmp 10) (.tmp 12) 38 38 rfl 5 Try.underlying38 (by kernel_rfl) _ _ _ _ _ _ rfl rfl (w.heap.size + 2) 0 Z 5 GM.out Y HL.out ?k2 ?k3 HY1.out (w.heap.size + 2) ((w.alloc (.cells #[.int .i64 pid, .int .i64 pbase, .int .i64 (n : Int), .bool pk, .slice Ai ni ci] 40)).alloc (.cells #[.int .i64 0, .int .i64 0, .bool false, .int .u32 0, .int .u32 0, .int .u32 0, .int .u32 0, .int .u32 0, .int .u32 0, .int .u32 0, .int .u32 0, .int .u32 0, .int .u8 0, .slice none 0 0] 44)) BA.out (Nat.le_refl _) ?_)
  case k2 =>
    intro h0
    first | exact ⟨rfl, rd_hpos HRT.out h0⟩ | exact rd_hpos HRT.out h0
  case k3 => rw [HL.out, HZ.out]; first | (simp; done) | (show 0 + min ni _ ≤ _; omega)
  intro w3 hg3 hb3
  have hg4 := hg3.out
  rw [HS.out] at hg4
  have GF := Lib.hid hg4
  have B3 := Lib.hid (BM.out.trans (hb3.mono (Nat.le_add_right _ _)))
  have G0 := Lib.hid (blk_below G0.out hb3 (by omega)); have G1 := Lib.hid (blk_below G1.out hb3 (by omega))
  have p0 := blk_cell G0.out 0; have p2 := blk_cell G0.out 2; have p3 := blk_cell G0.out 3
  clear hg3 hg4 hb3 hm a2
  go_wp2_with (refine wpList_store_at rfl 44 (.tmp 2) (.tmp 22) rfl (w.heap.size + 1) #[.int .i64 pid, .int .i64 (n : Int), .bool pk, .int .u32 0, .int .u32 0, .int .u32 0, .int .u32 0, .int .u32 0, .int .u32 0, .int .u32 0, .int .u32 0, .int .u32 0, .int .u8 0, .slice (some ⟨w.heap.size + 2, 0, none⟩) n n] rfl rfl 44 _ G1.out info_pt rfl (by simp [Value.oneCell']) ?_)
  intro w6 hw6
  have B6 := Lib.hid (below_row B3.out (show w.heap.size ≤ w.heap.size + 1 by omega) #[.int .i64 pid, .int .i64 (n : Int), .bool pk, .int .u32 0, .int .u32 0, .int .u32 0, .int .u32 0, .int .u32 0, .int .u32 0, .int .u32 0, .int .u32 0, .int .u32 0, .int .u8 0, .slice (some ⟨w.heap.size + 2, 0, none⟩) n n])
  have G6 := Lib.hid (blk_row G1.out #[.int .i64 pid, .int .i64 (n : Int), .bool pk, .int .u32 0, .int .u32 0, .int .u32 0, .int .u32 0, .int .u32 0, .int .u32 0, .int .u32 0, .int .u32 0, .int .u32 0, .int .u8 0, .slice (some ⟨w.heap.size + 2, 0, none⟩) n n])
  have M6 := Lib.hid (blk_row_ne GF.out (show w.heap.size + 2 ≠ w.heap.size + 1 by omega) #[.int .i64 pid, .int .i64 (n : Int), .bool pk, .int .u32 0, .int .u32 0, .int .u32 0, .int .u32 0, .int .u32 0, .int .u32 0, .int .u32 0, .int .u32 0, .int .u32 0, .int .u8 0, .slice (some ⟨w.heap.size + 2, 0, none⟩) n n])
  rw [← hw6.out] at B6 G6 M6
  clear hw6 p0 p2 p3
  go_wp2
  refine ret_row rfl (w.heap.size + 1) 44 _ _ rfl G6.out Try.underlying44 rfl info_pt rfl ?_
  refine ⟨B6.out, some ⟨w.heap.size + 2, 0, none⟩, n, by simp only [HF.out], _, n, rfl, by rw [HF.out]; exact Nat.le_refl _, (fun h => by cases h), .inl ⟨_, rfl⟩, .inr ⟨w.heap.size + 2, 0, _, rfl, by omega, blk_lt M6.out, M6.out, fun j u hu => ?_⟩⟩
  rw [Nat.zero_add]
  simpa using hu
theorem fresh (p : Pn) (Ai : Option Addr) (ni ci : Nat) (hni : p.img.length = ni) (w : World) (h : Rd w Ai (bcs p.img)) :
    Calls Try.prog 25 #[.agg #[.int .i64 p.id, .int .i64 p.base, .int .i64 p.size, .bool p.keep, .slice Ai ni ci]] w (POutF (freshP p) w) := by
  obtain ⟨pid, pbase, psize, pk, img⟩ := p
  unfold freshP freshN
  simp only at hni h ⊢
  by_cases h0 : psize < 0
  · rw [if_pos h0]; exact fresh_neg pid pbase psize pk img Ai ni ci hni h0 w h
  · rw [if_neg h0]
    by_cases h1 : 512 < psize
    · rw [if_pos h1]; exact fresh_big pid pbase psize pk img Ai ni ci hni h1 w h
    · rw [if_neg h1]
      obtain ⟨n, rfl⟩ : ∃ n : Nat, psize = (n : Int) := ⟨psize.toNat, by omega⟩
      rw [Int.toNat_natCast]
      exact fresh_mid pid pbase pk img Ai ni ci hni n (by omega) w h
end Go.Proofs.Ytnfjkpeifleogaa.mv
