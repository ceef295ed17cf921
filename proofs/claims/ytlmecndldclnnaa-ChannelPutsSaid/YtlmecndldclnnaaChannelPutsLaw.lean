/- The law ChannelPuts: a message more is put as the document says, and what was handed in stays; no condition. -/
import Derived.Test.YtlmecndldclnnaaRows
import Derived.Test.YtlmecndldclnnaaChP
import Derived.Test.YtlmecndldclnnaaChH
import Derived.Test.YtlmecndldclnnaaChJ
import Derived.Test.YtlmecndldclnnaaChK
import Derived.Test.YtlmecndldclnnaaChL
import Derived.Lib.SmallJoins
namespace Go.Proofs.Ytlmecndldclnnaa.chan
open Go Go.ChangeShapes Go.WideShapes Go.ChangeAt Go.RowKit Go.Proofs.Ytlmecndldclnnaa.rows
theorem sameQ_self (x : Ch) (ls : List Msg) : sameQ x ls x ls = true := by simp [sameQ]
theorem putR_bd {x y : Ch} {ls l2 : List Msg} {m : Msg} {E : Int} (h : putR x ls m = (y, l2, E)) (B : Nat) (hB : ∀ l ∈ ls, l.length ≤ B) (hm : m.length ≤ B) : l2.length ≤ ls.length + 1 ∧ ∀ l ∈ l2, l.length ≤ B := by
  unfold putR at h
  split at h
  · split at h
    · injection h with _ h; injection h with h _; subst h; simp
    · injection h with _ h; injection h with h _; subst h
      have hd : (room x ls).length ≤ ls.length ∧ ∀ l ∈ room x ls, l ∈ ls := by
        unfold room; split
        · exact ⟨by simp, fun l hl => List.mem_of_mem_drop hl⟩
        · exact ⟨Nat.le_refl _, fun l hl => hl⟩
      refine ⟨by simp; omega, fun l hl => ?_⟩
      rcases List.mem_append.1 hl with hl | hl
      · exact hB l (hd.2 l hl)
      · simp at hl; subst hl; exact hm
  · injection h with _ h; injection h with h _; subst h; simp
set_option maxHeartbeats 2000000 in
theorem puts_great (i f t cp s : Int) (A : Option Addr) (n c : Nat) (ls : List Msg) (hn : ls.length = n) (hL : ∀ l ∈ ls, l.length ≤ 140737488355328) (h1 : greatQ ls = true) (Am : Option Addr) (r cm : Nat) (w : World) (h : Rms w A ls) : Calls Try.prog 3 #[.agg #[.int .i64 i, .int .i64 f, .int .i64 t, .int .i64 cp, .int .i64 s, .slice (A) n c], .slice Am r cm] w fun e w' => e = .returned (.bool true) ∧ Below w.heap.size w w' := by
  have P0 := Lib.hid (blk_new w #[.int .i64 i, .int .i64 f, .int .i64 t, .int .i64 cp, .int .i64 s, .slice (A) n c] 26)
  have hX := Lib.hid ((Below.refl w.heap.size w).alloc (Nat.le_refl _) (.cells #[.int .i64 i, .int .i64 f, .int .i64 t, .int .i64 cp, .int .i64 s, .slice (A) n c] 26))
  have T1 := great ⟨i, f, t, cp, s⟩ A c ls hL (w.alloc (.cells #[.int .i64 i, .int .i64 f, .int .i64 t, .int .i64 cp, .int .i64 s, .slice (A) n c] 26)) (h.below hX.out)
  rw [hn, h1] at T1
  dsimp only [qcells] at T1
  have HT1 := Lib.hid T1
  clear T1 hL h h1 hn
  go_enter Try.func3, Try.ntmps3
  go_wp2_with fail
  refine HT1.out.mono ?_
  rintro e w1 ⟨rfl, b1⟩
  have D1 := Lib.hid (hX.out.trans (b1.mono hX.out.size))
  clear b1
  go_wp2
  go_ret
  exact ⟨rfl, D1.out⟩
set_option maxHeartbeats 2000000 in
theorem puts_long (i f t cp s : Int) (A : Option Addr) (n c : Nat) (ls : List Msg) (hn : ls.length = n) (hL : ∀ l ∈ ls, l.length ≤ 140737488355328) (h1 : greatQ ls = false) (Am : Option Addr) (r cm : Nat) (h0 : (100 : Int) < (r : Int)) (w : World) (h : Rms w A ls) : Calls Try.prog 3 #[.agg #[.int .i64 i, .int .i64 f, .int .i64 t, .int .i64 cp, .int .i64 s, .slice (A) n c], .slice Am r cm] w fun e w' => e = .returned (.bool true) ∧ Below w.heap.size w w' := by
  have P0 := Lib.hid (blk_new w #[.int .i64 i, .int .i64 f, .int .i64 t, .int .i64 cp, .int .i64 s, .slice (A) n c] 26)
  have hX := Lib.hid ((Below.refl w.heap.size w).alloc (Nat.le_refl _) (.cells #[.int .i64 i, .int .i64 f, .int .i64 t, .int .i64 cp, .int .i64 s, .slice (A) n c] 26))
  have T1 := great ⟨i, f, t, cp, s⟩ A c ls hL (w.alloc (.cells #[.int .i64 i, .int .i64 f, .int .i64 t, .int .i64 cp, .int .i64 s, .slice (A) n c] 26)) (h.below hX.out)
  rw [hn, h1] at T1
  dsimp only [qcells] at T1
  have HT1 := Lib.hid T1
  clear T1 hL h h1 hn
  go_enter Try.func3, Try.ntmps3
  go_wp2_with fail
  refine HT1.out.mono ?_
  rintro e w1 ⟨rfl, b1⟩
  have D1 := Lib.hid (hX.out.trans (b1.mono hX.out.size))
  clear b1
  go_wp2
  go_ret
  exact ⟨rfl, D1.out⟩
set_option maxRecDepth 100000 in
set_option maxHeartbeats 8000000 in
theorem puts_main (i f t cp s : Int) (A : Option Addr) (n c : Nat) (ls : List Msg) (hn : ls.length = n) (hL : ∀ l ∈ ls, l.length ≤ 140737488355328) (h1 : greatQ ls = false) (m : Msg) (Am : Option Addr) (r cm : Nat) (hr : m.length = r) (hmc : r ≤ cm) (h0 : (r : Int) ≤ 100) (w : World) (h : Rms w A ls) (hm : Rd w Am (bcs m)) : Calls Try.prog 3 #[.agg #[.int .i64 i, .int .i64 f, .int .i64 t, .int .i64 cp, .int .i64 s, .slice (A) n c], .slice Am r cm] w fun e w' => e = .returned (.bool true) ∧ Below w.heap.size w w' := by
  obtain ⟨i1, gi, gz0, gz1, gz2⟩ := info_parts info_byte
  have P0 := Lib.hid (blk_new w #[.int .i64 i, .int .i64 f, .int .i64 t, .int .i64 cp, .int .i64 s, .slice (A) n c] 26)
  have hX := Lib.hid ((Below.refl w.heap.size w).alloc (Nat.le_refl _) (.cells #[.int .i64 i, .int .i64 f, .int .i64 t, .int .i64 cp, .int .i64 s, .slice (A) n c] 26))
  have T1 := great ⟨i, f, t, cp, s⟩ A c ls hL (w.alloc (.cells #[.int .i64 i, .int .i64 f, .int .i64 t, .int .i64 cp, .int .i64 s, .slice (A) n c] 26)) (h.below hX.out)
  rw [hn, h1] at T1
  dsimp only [qcells] at T1
  have HT1 := Lib.hid T1
  have hgn := greatQ_no h1
  have hml : ∀ l ∈ ls, l.length ≤ 1000000 := fun l hl => by have := len_le hl; omega
  obtain ⟨⟨i2, f2, t2, cp2, s2⟩, l2, E, hp⟩ : ∃ y l2 E, putR ⟨i, f, t, cp, s⟩ ls m = (y, l2, E) := ⟨_, _, _, rfl⟩
  have hbd := putR_bd hp 1000000 hml (by rw [hr]; omega)
  obtain ⟨k2, hk2⟩ : ∃ k2, l2.length = k2 := ⟨_, rfl⟩
  have hk21 : k2 ≤ 21 := by rw [← hk2]; have := hbd.1; omega
  have TL := fun (W : World) (hh : Rms W A ls) => lcopied ⟨i, f, t, cp, s⟩ A c ls (by omega) hml W hh
  have TP := fun (g c1 : Nat) (hc : ls.length ≤ c1) (Am : Option Addr) (cm : Nat) (hA : Am = none → cm = 0) (hmc : m.length ≤ cm) (W : World) (hh : Rms W (some ⟨g, 0, none⟩) ls) (hh2 : Rd W Am (bcs m)) => put_to hp (some ⟨g, 0, none⟩) c1 (fun h => by cases h) hc (by omega) Am cm hA hmc W hh hh2
  have TR := fun (W : World) (hh : Rms W A ls) (hh2 : Rd W Am (bcs m)) => rput_to hp A c (by omega) Am cm (by rw [hr]; exact hmc) W hh hh2
  have TS := fun (A B : Option Addr) (c d : Nat) (W : World) (g1 : Rms W A l2) (g2 : Rms W B l2) => rsame ⟨i2, f2, t2, cp2, s2⟩ ⟨i2, f2, t2, cp2, s2⟩ l2 l2 A B c d (by omega) W g1 g2
  have TX := fun (lo hi c : Nat) (A : Option Addr) (W : World) (g1 : Own2 lo hi W A l2) (g2 : lo ≤ W.heap.size) (g3 : hi ≤ W.heap.size) => spoil ⟨i2, f2, t2, cp2, s2⟩ lo hi c A l2 (by omega) hbd.2 W g1 g2 g3
  have TY := fun (g0 lo hi c d : Nat) (B : Option Addr) (hc : ls.length + 1 ≤ c) (W : World) (g1 : Roomy lo hi W g0 ls) (g2 : hi ≤ W.heap.size) (g3 : Rms W B ls) => stays ⟨i, f, t, cp, s⟩ g0 lo hi c d B ls (by omega) hc hml W g1 g2 g3
  simp only [hn, hr, hk2, qcells, sameQ_self] at TL TP TR TS TX TY
  have HTL := Lib.hid TL; have HTP := Lib.hid TP; have HTR := Lib.hid TR; have HTS := Lib.hid TS; have HTX := Lib.hid TX; have HTY := Lib.hid TY
  have hlen := bcs_length m
  have hone := bcs_one m
  obtain ⟨xs, hxs⟩ : ∃ xs, bcs m = xs := ⟨_, rfl⟩
  rw [hxs, hr] at hlen
  rw [hxs] at hone
  have HLN := Lib.hid hlen; have HXS := Lib.hid hxs; have HONE := Lib.hid hone
  have HW := Lib.hid h; have HM := Lib.hid hm; have HR := Lib.hid hr; have HK2 := Lib.hid hk2; have HN := Lib.hid hn
  clear T1 TL TP TR TS TX TY hL h h1 hn hgn hml hbd hm hr hp hlen hone hxs hk2
  go_enter Try.func3, Try.ntmps3
  go_wp2_with fail
  refine HT1.out.mono ?_
  rintro e w1 ⟨rfl, b1⟩
  have D1 := Lib.hid (hX.out.trans (b1.mono hX.out.size))
  have b1x := Lib.hid b1; clear b1
  have P1 := Lib.hid (blk_below P0.out b1x.out (blk_lt P0.out))
  have a0 := blk_cell P1.out 0
  have a1 := blk_cell P1.out 1
  have a2 := blk_cell P1.out 2
  have a3 := blk_cell P1.out 3
  have a4 := blk_cell P1.out 4
  have a5 := blk_cell P1.out 5
  go_wp2_with fail
  refine (HTL.out _ (HW.out.below D1.out)).mono ?_
  rintro e w2 ⟨g0, c1, rfl, hc1, hro, b2⟩
  have D2 := Lib.hid (D1.out.trans (b2.mono D1.out.size))
  have P2 := Lib.hid (blk_below P1.out b2 (blk_lt P1.out))
  have I2 := Lib.hid (blk_new w2 #[.int .i64 i, .int .i64 f, .int .i64 t, .int .i64 cp, .int .i64 s, .slice (some ⟨g0, 0, none⟩) n c1] 26)
  have z1 := D1.out.size
  have z2 := D2.out.size
  have HRO := Lib.hid ((hro.below ((Below.refl w2.heap.size w2).alloc (Nat.le_refl _) (.cells #[.int .i64 i, .int .i64 f, .int .i64 t, .int .i64 cp, .int .i64 s, .slice (some ⟨g0, 0, none⟩) n c1] 26)) (Nat.le_refl _)).mono z1 (Nat.le_refl _))
  have DI := Lib.hid (D2.out.alloc z2 (.cells #[.int .i64 i, .int .i64 f, .int .i64 t, .int .i64 cp, .int .i64 s, .slice (some ⟨g0, 0, none⟩) n c1] 26))
  have PI := Lib.hid (blk_alloc P2.out (.cells #[.int .i64 i, .int .i64 f, .int .i64 t, .int .i64 cp, .int .i64 s, .slice (some ⟨g0, 0, none⟩) n c1] 26))
  clear a0 a1 a2 a3 a4 a5
  clear hro b2 b1x
  have hz3 : (w2.alloc (.cells #[.int .i64 i, .int .i64 f, .int .i64 t, .int .i64 cp, .int .i64 s, .slice (some ⟨g0, 0, none⟩) n c1] 26)).heap.size = w2.heap.size + 1 := by simp
  have HZ3 := Lib.hid hz3; clear hz3
  have hown : ((w2.alloc (.cells #[.int .i64 i, .int .i64 f, .int .i64 t, .int .i64 cp, .int .i64 s, .slice (some ⟨g0, 0, none⟩) n c1] 26)).alloc (.cells #[] 5)).ownsRow (w2.heap.size + 1) 5 1 (.slice (some ⟨w2.heap.size + 1, 0, none⟩) 0 0) 0 [] := by
    have h : ((w2.alloc (.cells #[.int .i64 i, .int .i64 f, .int .i64 t, .int .i64 cp, .int .i64 s, .slice (some ⟨g0, 0, none⟩) n c1] 26)).alloc (.cells #[] 5)).ownsRow (w2.alloc (.cells #[.int .i64 i, .int .i64 f, .int .i64 t, .int .i64 cp, .int .i64 s, .slice (some ⟨g0, 0, none⟩) n c1] 26)).heap.size 5 1 (.slice (some ⟨(w2.alloc (.cells #[.int .i64 i, .int .i64 f, .int .i64 t, .int .i64 cp, .int .i64 s, .slice (some ⟨g0, 0, none⟩) n c1] 26)).heap.size, 0, none⟩) 0 0) 0 [] := World.ownsRow_lit (w2.alloc (.cells #[.int .i64 i, .int .i64 f, .int .i64 t, .int .i64 cp, .int .i64 s, .slice (some ⟨g0, 0, none⟩) n c1] 26)) #[] 0 (Nat.le_refl _) (by decide) rfl
    rw [HZ3.out] at h
    exact h
  have HOWN := Lib.hid hown; have HRM := Lib.hid ((HM.out.below DI.out).alloc (.cells #[] 5))
  rw [HXS.out] at HRM
  have II := Lib.hid I2.out
  clear hown
  go_wp2_with (at_builtin; refine wpList_append_rd _ rfl (.tmp 21) (.tmp 22) 27 rfl (w2.heap.size + 1) 5 i1 (.int .u8 0) 1 1 Try.underlying27 gi gz0 gz1 gz2 rfl (by decide) _ 0 [] rfl HOWN.out _ r _ xs rfl (by rw [HLN.out]; omega) HRM.out HONE.out ?c3 ?c4 ?c5 ?_)
  case c3 => unfold maxLen; omega
  case c4 => omega
  case c5 => simp
  intro v3 w3 hown3 hg3
  obtain ⟨A4, c4, rfl, hc4, hA4, hf4, hr4⟩ := own_form3 hown3
  have b3 : Below (w2.heap.size + 1) (w2.alloc (.cells #[.int .i64 i, .int .i64 f, .int .i64 t, .int .i64 cp, .int .i64 s, .slice (some ⟨g0, 0, none⟩) n c1] 26)) w3 := below_own ((Below.refl _ _).alloc (by rw [HZ3.out]; exact Nat.le_refl _) _) HOWN.out hg3 (by simp)
  have D3 := Lib.hid (DI.out.trans (b3.mono (by omega)))
  have P3 := Lib.hid (blk_below PI.out b3 (by omega))
  have I3 := Lib.hid (blk_below II.out b3 (by omega))
  have HRO3 := Lib.hid (HRO.out.below b3 (by omega))
  have RD3 := Lib.hid (show Rd w3 A4 (bcs m) by rw [HXS.out]; exact hr4.rd)
  have HA4 := Lib.hid hA4
  have z3 : w2.heap.size + 1 ≤ w3.heap.size := by have := b3.size; rw [HZ3.out] at this; exact this
  clear hown3 hg3 b3 hr4 hf4 hA4 HOWN HRM
  have b0 := blk_cell I3.out 0
  have b1 := blk_cell I3.out 1
  have b2 := blk_cell I3.out 2
  have b3 := blk_cell I3.out 3
  have b4 := blk_cell I3.out 4
  have b5 := blk_cell I3.out 5
  go_wp2_with fail
  refine (HTP.out g0 c1 (by omega) A4 c4 HA4.out hc4 w3 HRO3.out.own2.rows RD3.out).mono ?_
  rintro e w4 ⟨A5, c5, rfl, hq5, b4⟩
  have z4 := b4.size
  have D4 := Lib.hid (D3.out.trans (b4.mono (by omega)))
  have P4 := Lib.hid (blk_below P3.out b4 (by omega))
  have I4 := Lib.hid (blk_below I3.out b4 (by omega))
  have HRO4 := Lib.hid (HRO3.out.below b4 (by omega))
  have RD4 := Lib.hid (RD3.out.below b4)
  have G4 := Lib.hid (blk_new w4 #[.int .i64 i2, .int .i64 f2, .int .i64 t2, .int .i64 cp2, .int .i64 s2, .slice (A5) k2 c5] 26)
  have HQ5 := Lib.hid hq5
  have DG := Lib.hid (D4.out.alloc (by omega) (.cells #[.int .i64 i2, .int .i64 f2, .int .i64 t2, .int .i64 cp2, .int .i64 s2, .slice (A5) k2 c5] 26))
  have hzG : (w4.alloc (.cells #[.int .i64 i2, .int .i64 f2, .int .i64 t2, .int .i64 cp2, .int .i64 s2, .slice (A5) k2 c5] 26)).heap.size = w4.heap.size + 1 := by simp
  have HZG := Lib.hid hzG; clear hzG hq5
  have HB4 := Lib.hid b4; clear b4
  clear b0 b1 b2 b3 b4 b5
  have a0 : ∀ o, (w4.alloc o).cell? ⟨w.heap.size, 0, none⟩ = some (.int .i64 i) := fun o => Lib.cell?_alloc_marked o (blk_cell P4.out 0)
  have a1 : ∀ o, (w4.alloc o).cell? ⟨w.heap.size, 1, none⟩ = some (.int .i64 f) := fun o => Lib.cell?_alloc_marked o (blk_cell P4.out 1)
  have a2 : ∀ o, (w4.alloc o).cell? ⟨w.heap.size, 2, none⟩ = some (.int .i64 t) := fun o => Lib.cell?_alloc_marked o (blk_cell P4.out 2)
  have a3 : ∀ o, (w4.alloc o).cell? ⟨w.heap.size, 3, none⟩ = some (.int .i64 cp) := fun o => Lib.cell?_alloc_marked o (blk_cell P4.out 3)
  have a4 : ∀ o, (w4.alloc o).cell? ⟨w.heap.size, 4, none⟩ = some (.int .i64 s) := fun o => Lib.cell?_alloc_marked o (blk_cell P4.out 4)
  have a5 : ∀ o, (w4.alloc o).cell? ⟨w.heap.size, 5, none⟩ = some (.slice A n c) := fun o => Lib.cell?_alloc_marked o (blk_cell P4.out 5)
  go_wp2_with fail
  refine (HTR.out _ (HW.out.below DG.out) (HM.out.below DG.out)).mono ?_
  rintro e w5 ⟨A6, c6, rfl, hq6, b5⟩
  have z5 : w4.heap.size + 1 ≤ w5.heap.size := by have := b5.size; rw [HZG.out] at this; exact this
  have B5 := Lib.hid ((show Below w4.heap.size w4 (w4.alloc (.cells #[.int .i64 i2, .int .i64 f2, .int .i64 t2, .int .i64 cp2, .int .i64 s2, .slice (A5) k2 c5] 26)) from (Below.refl _ _).alloc (Nat.le_refl _) _).trans (b5.mono (by rw [HZG.out]; omega)))
  have G5 := Lib.hid (blk_below G4.out b5 (by rw [HZG.out]; omega))
  have HQ6 := Lib.hid hq6
  have N5 := Lib.hid (blk_new w5 #[.int .i64 i2, .int .i64 f2, .int .i64 t2, .int .i64 cp2, .int .i64 s2, .slice (A6) k2 c6] 26)
  have DW5 := Lib.hid ((Below.refl w5.heap.size w5).alloc (Nat.le_refl _) (.cells #[.int .i64 i2, .int .i64 f2, .int .i64 t2, .int .i64 cp2, .int .i64 s2, .slice (A6) k2 c6] 26))
  have hzW : (w5.alloc (.cells #[.int .i64 i2, .int .i64 f2, .int .i64 t2, .int .i64 cp2, .int .i64 s2, .slice (A6) k2 c6] 26)).heap.size = w5.heap.size + 1 := by simp
  have HZW := Lib.hid hzW; clear hzW hq6 b5
  clear a0 a1 a2 a3 a4 a5
  have q0 : ∀ o, (w5.alloc o).cell? ⟨w4.heap.size, 0, none⟩ = some (.int .i64 i2) := fun o => Lib.cell?_alloc_marked o (blk_cell G5.out 0)
  have q1 : ∀ o, (w5.alloc o).cell? ⟨w4.heap.size, 1, none⟩ = some (.int .i64 f2) := fun o => Lib.cell?_alloc_marked o (blk_cell G5.out 1)
  have q2 : ∀ o, (w5.alloc o).cell? ⟨w4.heap.size, 2, none⟩ = some (.int .i64 t2) := fun o => Lib.cell?_alloc_marked o (blk_cell G5.out 2)
  have q3 : ∀ o, (w5.alloc o).cell? ⟨w4.heap.size, 3, none⟩ = some (.int .i64 cp2) := fun o => Lib.cell?_alloc_marked o (blk_cell G5.out 3)
  have q4 : ∀ o, (w5.alloc o).cell? ⟨w4.heap.size, 4, none⟩ = some (.int .i64 s2) := fun o => Lib.cell?_alloc_marked o (blk_cell G5.out 4)
  have q5 : ∀ o, (w5.alloc o).cell? ⟨w4.heap.size, 5, none⟩ = some (.slice A5 k2 c5) := fun o => Lib.cell?_alloc_marked o (blk_cell G5.out 5)
  have d0 := blk_cell N5.out 0
  have d1 := blk_cell N5.out 1
  have d2 := blk_cell N5.out 2
  have d3 := blk_cell N5.out 3
  have d4 := blk_cell N5.out 4
  have d5 := blk_cell N5.out 5
  go_wp2_with fail
  have hqg := ((HQ5.out.2.2.below B5.out (Nat.le_refl _)).below DW5.out (by omega)).rows
  have hqw := (HQ6.out.2.2.below DW5.out (Nat.le_refl _)).rows
  refine (HTS.out A5 A6 c5 c6 _ hqg hqw).mono ?_
  rintro e w6 ⟨rfl, b6⟩
  have z6 : w5.heap.size + 1 ≤ w6.heap.size := by have := b6.size; rw [HZW.out] at this; exact this
  have B6 := Lib.hid ((B5.out.trans (DW5.out.mono (by omega))).trans (b6.mono (by rw [HZW.out]; omega)))
  have G6 := Lib.hid (blk_below (blk_alloc G5.out (.cells #[.int .i64 i2, .int .i64 f2, .int .i64 t2, .int .i64 cp2, .int .i64 s2, .slice (A6) k2 c6] 26)) b6 (by rw [HZW.out]; omega))
  have OW6 := Lib.hid (HQ5.out.2.2.below B6.out (Nat.le_refl _))
  clear b6 hqg hqw
  clear q0 q1 q2 q3 q4 q5 d0 d1 d2 d3 d4 d5
  have q0 := blk_cell G6.out 0
  have q1 := blk_cell G6.out 1
  have q2 := blk_cell G6.out 2
  have q3 := blk_cell G6.out 3
  have q4 := blk_cell G6.out 4
  have q5 := blk_cell G6.out 5
  go_wp2_with fail
  refine (HTX.out w3.heap.size w4.heap.size c5 A5 w6 OW6.out (by omega) (by omega)).mono ?_
  rintro e w7 ⟨rfl, b7⟩
  have z7 := b7.size
  have B7 := Lib.hid ((B6.out.mono z4).trans b7)
  have P7 := Lib.hid (blk_below P4.out B7.out (by omega))
  have I7 := Lib.hid (blk_below I4.out B7.out (by omega))
  have D7 := Lib.hid (D4.out.trans (B7.out.mono (by omega)))
  have HRO7 := Lib.hid (HRO4.out.below B7.out (by omega))
  have RD7 := Lib.hid (show Rd w7 A4 (bcs m) from RD3.out.below (HB4.out.trans B7.out))
  clear q0 q1 q2 q3 q4 q5
  have a0 := blk_cell P7.out 0
  have a1 := blk_cell P7.out 1
  have a2 := blk_cell P7.out 2
  have a3 := blk_cell P7.out 3
  have a4 := blk_cell P7.out 4
  have a5 := blk_cell P7.out 5
  have b0 := blk_cell I7.out 0
  have b1 := blk_cell I7.out 1
  have b2 := blk_cell I7.out 2
  have b3 := blk_cell I7.out 3
  have b4 := blk_cell I7.out 4
  have b5 := blk_cell I7.out 5
  go_wp2_with fail
  refine (HTY.out g0 w.heap.size w2.heap.size c1 c A hc1 w7 HRO7.out (by omega) (HW.out.below D7.out)).mono ?_
  rintro e w8 ⟨rfl, b8⟩
  have D8 := Lib.hid (D7.out.trans (b8.mono D7.out.size))
  have s1 := str_rd m A4 r c4 HR.out w8 (RD7.out.below b8)
  have s2 := str_rd m Am r cm HR.out w8 (HM.out.below D8.out)
  clear b8 b7
  clear a0 a1 a2 a3 a4 a5 b0 b1 b2 b3 b4 b5
  go_wp2_with fail
  refine (awake _).mono ?_
  rintro e w9 ⟨rfl, b9⟩
  have D9 := Lib.hid (D8.out.trans (b9.mono D8.out.size))
  clear b9 s1 s2
  go_wp2
  go_ret
  exact ⟨rfl, D9.out⟩
theorem puts (x : Ch) (la : List Msg) (m : Msg) (A : Option Addr) (c : Nat) (Am : Option Addr) (cm : Nat) (_hA : A = none → c = 0) (_hc : la.length ≤ c) (_hmA : Am = none → cm = 0) (hmc : m.length ≤ cm) (hL : ∀ l ∈ la, l.length ≤ 140737488355328) (w : World) (h : Rms w A la) (hm : Rd w Am (bcs m)) :
    Calls Try.prog 3 #[.agg (qcells x A la.length c), .slice Am m.length cm] w fun e w' => e = .returned (.bool true) ∧ Below w.heap.size w w' := by
  obtain ⟨i, f, t, cp, s⟩ := x
  cases h1 : greatQ la with
  | true => exact puts_great i f t cp s A la.length c la rfl hL h1 Am m.length cm w h
  | false =>
    by_cases h0 : (100 : Int) < (m.length : Int)
    · exact puts_long i f t cp s A la.length c la rfl hL h1 Am m.length cm h0 w h
    · exact puts_main i f t cp s A la.length c la rfl hL h1 m Am m.length cm rfl hmc (by omega) w h hm
end Go.Proofs.Ytlmecndldclnnaa.chan
