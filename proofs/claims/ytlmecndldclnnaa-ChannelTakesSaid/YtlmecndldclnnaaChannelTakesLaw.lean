/- The law ChannelTakes: what is taken and what is left is as the document says, and what was handed in stays; no condition. -/
import Derived.Test.YtlmecndldclnnaaRows
import Derived.Test.YtlmecndldclnnaaChQ
import Derived.Test.YtlmecndldclnnaaChG
import Derived.Test.YtlmecndldclnnaaChH
import Derived.Test.YtlmecndldclnnaaChJ
import Derived.Test.YtlmecndldclnnaaChK
import Derived.Test.YtlmecndldclnnaaChR
import Derived.Lib.SmallJoins
namespace Go.Proofs.Ytlmecndldclnnaa.chan
open Go Go.ChangeShapes Go.WideShapes Go.ChangeAt Go.RowKit Go.Proofs.Ytlmecndldclnnaa.rows
theorem sameQ_self (x : Ch) (ls : List Msg) : sameQ x ls x ls = true := by simp [sameQ]
theorem takeR_bd {x y : Ch} {ls l2 : List Msg} {m : Msg} {E : Int} (h : takeR x ls = (m, y, l2, E)) (B : Nat) (hB : ∀ l ∈ ls, l.length ≤ B) : m.length ≤ B ∧ l2.length ≤ ls.length ∧ ∀ l ∈ l2, l.length ≤ B := by
  unfold takeR at h
  split at h
  · cases ls with
    | nil => injection h with h1 h; injection h with _ h; injection h with h _; subst h1; subst h; simp
    | cons a r =>
      injection h with h1 h; injection h with _ h; injection h with h _; subst h1; subst h
      exact ⟨hB _ (by simp), by simp, fun l hl => hB l (by simp [hl])⟩
  · injection h with h1 h; injection h with _ h; injection h with h _; subst h1; subst h; simp
set_option maxHeartbeats 2000000 in
theorem takes_great (i f t cp s : Int) (A : Option Addr) (n c : Nat) (ls : List Msg) (hn : ls.length = n) (hL : ∀ l ∈ ls, l.length ≤ 140737488355328) (h1 : greatQ ls = true) (w : World) (h : Rms w A ls) : Calls Try.prog 4 #[.agg #[.int .i64 i, .int .i64 f, .int .i64 t, .int .i64 cp, .int .i64 s, .slice (A) n c]] w fun e w' => e = .returned (.bool true) ∧ Below w.heap.size w w' := by
  have P0 := Lib.hid (blk_new w #[.int .i64 i, .int .i64 f, .int .i64 t, .int .i64 cp, .int .i64 s, .slice (A) n c] 26)
  have hX := Lib.hid ((Below.refl w.heap.size w).alloc (Nat.le_refl _) (.cells #[.int .i64 i, .int .i64 f, .int .i64 t, .int .i64 cp, .int .i64 s, .slice (A) n c] 26))
  have T1 := great ⟨i, f, t, cp, s⟩ A c ls hL (w.alloc (.cells #[.int .i64 i, .int .i64 f, .int .i64 t, .int .i64 cp, .int .i64 s, .slice (A) n c] 26)) (h.below hX.out)
  rw [hn, h1] at T1
  dsimp only [qcells] at T1
  have HT1 := Lib.hid T1
  clear T1 hL h h1 hn
  go_enter Try.func4, Try.ntmps4
  go_wp2_with fail
  refine HT1.out.mono ?_
  rintro e w1 ⟨rfl, b1⟩
  have D1 := Lib.hid (hX.out.trans (b1.mono hX.out.size))
  clear b1
  go_wp2
  go_ret
  exact ⟨rfl, D1.out⟩
set_option maxRecDepth 100000 in
set_option maxHeartbeats 8000000 in
theorem takes_main (i f t cp s : Int) (A : Option Addr) (n c : Nat) (ls : List Msg) (hn : ls.length = n) (hL : ∀ l ∈ ls, l.length ≤ 140737488355328) (h1 : greatQ ls = false) (w : World) (h : Rms w A ls) : Calls Try.prog 4 #[.agg #[.int .i64 i, .int .i64 f, .int .i64 t, .int .i64 cp, .int .i64 s, .slice (A) n c]] w fun e w' => e = .returned (.bool true) ∧ Below w.heap.size w w' := by
  have P0 := Lib.hid (blk_new w #[.int .i64 i, .int .i64 f, .int .i64 t, .int .i64 cp, .int .i64 s, .slice (A) n c] 26)
  have hX := Lib.hid ((Below.refl w.heap.size w).alloc (Nat.le_refl _) (.cells #[.int .i64 i, .int .i64 f, .int .i64 t, .int .i64 cp, .int .i64 s, .slice (A) n c] 26))
  have T1 := great ⟨i, f, t, cp, s⟩ A c ls hL (w.alloc (.cells #[.int .i64 i, .int .i64 f, .int .i64 t, .int .i64 cp, .int .i64 s, .slice (A) n c] 26)) (h.below hX.out)
  rw [hn, h1] at T1
  dsimp only [qcells] at T1
  have HT1 := Lib.hid T1
  have hgn := greatQ_no h1
  have hml : ∀ l ∈ ls, l.length ≤ 1000000 := fun l hl => by have := len_le hl; omega
  obtain ⟨m, ⟨i2, f2, t2, cp2, s2⟩, l2, E, hp⟩ : ∃ m y l2 E, takeR ⟨i, f, t, cp, s⟩ ls = (m, y, l2, E) := ⟨_, _, _, _, rfl⟩
  obtain ⟨hmb, hk2l, hbd⟩ := takeR_bd hp 1000000 hml
  obtain ⟨k2, hk2⟩ : ∃ k2, l2.length = k2 := ⟨_, rfl⟩
  obtain ⟨r, hr⟩ : ∃ r, m.length = r := ⟨_, rfl⟩
  have hk21 : k2 ≤ 20 := by rw [← hk2]; have := hgn.1; omega
  have hr6 : r ≤ 1000000 := by rw [← hr]; exact hmb
  have TL := fun (W : World) (hh : Rms W A ls) => lcopied ⟨i, f, t, cp, s⟩ A c ls (by omega) hml W hh
  have TP := fun (g c1 : Nat) (W : World) (hh : Rms W (some ⟨g, 0, none⟩) ls) => take_to hp (some ⟨g, 0, none⟩) c1 (by omega) W hh
  have TR := fun (W : World) (hh : Rms W A ls) => rtake_to hp A c (by omega) W hh
  have TS := fun (A B : Option Addr) (c d : Nat) (W : World) (g1 : Rms W A l2) (g2 : Rms W B l2) => rsame ⟨i2, f2, t2, cp2, s2⟩ ⟨i2, f2, t2, cp2, s2⟩ l2 l2 A B c d (by omega) W g1 g2
  have TX := fun (lo hi c : Nat) (A A9 : Option Addr) (W : World) (g1 : Own2 lo hi W A l2) (g9 : BysIn 5 lo hi W A9 r) (g2 : lo ≤ W.heap.size) (g3 : hi ≤ W.heap.size) => spoil2 ⟨i2, f2, t2, cp2, s2⟩ lo hi c A l2 (by omega) hbd A9 r W g1 g9 g2 g3
  have TY := fun (g0 lo hi c d : Nat) (B : Option Addr) (hc : ls.length + 1 ≤ c) (W : World) (g1 : Roomy lo hi W g0 ls) (g2 : hi ≤ W.heap.size) (g3 : Rms W B ls) => stays ⟨i, f, t, cp, s⟩ g0 lo hi c d B ls (by omega) hc hml W g1 g2 g3
  simp only [hn, hk2, qcells, sameQ_self] at TL TP TR TS TX TY
  have HTL := Lib.hid TL; have HTP := Lib.hid TP; have HTR := Lib.hid TR; have HTS := Lib.hid TS; have HTX := Lib.hid TX; have HTY := Lib.hid TY
  have HW := Lib.hid h; have HR := Lib.hid hr; have HK2 := Lib.hid hk2; have HN := Lib.hid hn
  clear T1 TL TP TR TS TX TY hL h h1 hn hgn hml hbd hr hp hk2 hmb hk2l
  go_enter Try.func4, Try.ntmps4
  go_wp2_with fail
  refine HT1.out.mono ?_
  rintro e w1 ⟨rfl, b1⟩
  have D1 := Lib.hid (hX.out.trans (b1.mono hX.out.size))
  have b1x := Lib.hid b1; clear b1
  have P1 := Lib.hid (blk_below P0.out b1x.out (blk_lt P0.out))
  have a0 := blk_cell P1.out 0
  have a1 := blk_cell P1.out 1
  have a2 := blk_cell P1.out 2
  have a3 := blk_cell P1.out 3
  have a4 := blk_cell P1.out 4
  have a5 := blk_cell P1.out 5
  go_wp2_with fail
  refine (HTL.out _ (HW.out.below D1.out)).mono ?_
  rintro e w2 ⟨g0, c1, rfl, hc1, hro, b2⟩
  have D2 := Lib.hid (D1.out.trans (b2.mono D1.out.size))
  have P2 := Lib.hid (blk_below P1.out b2 (blk_lt P1.out))
  have I2 := Lib.hid (blk_new w2 #[.int .i64 i, .int .i64 f, .int .i64 t, .int .i64 cp, .int .i64 s, .slice (some ⟨g0, 0, none⟩) n c1] 26)
  have z1 := D1.out.size
  have z2 := D2.out.size
  have HRO := Lib.hid ((hro.below ((Below.refl w2.heap.size w2).alloc (Nat.le_refl _) (.cells #[.int .i64 i, .int .i64 f, .int .i64 t, .int .i64 cp, .int .i64 s, .slice (some ⟨g0, 0, none⟩) n c1] 26)) (Nat.le_refl _)).mono z1 (Nat.le_refl _))
  have DI := Lib.hid (D2.out.alloc z2 (.cells #[.int .i64 i, .int .i64 f, .int .i64 t, .int .i64 cp, .int .i64 s, .slice (some ⟨g0, 0, none⟩) n c1] 26))
  have PI := Lib.hid (blk_alloc P2.out (.cells #[.int .i64 i, .int .i64 f, .int .i64 t, .int .i64 cp, .int .i64 s, .slice (some ⟨g0, 0, none⟩) n c1] 26))
  clear a0 a1 a2 a3 a4 a5
  clear hro b2 b1x
  have hz3 : (w2.alloc (.cells #[.int .i64 i, .int .i64 f, .int .i64 t, .int .i64 cp, .int .i64 s, .slice (some ⟨g0, 0, none⟩) n c1] 26)).heap.size = w2.heap.size + 1 := by simp
  have HZ3 := Lib.hid hz3; clear hz3
  have b0 := blk_cell I2.out 0
  have b1 := blk_cell I2.out 1
  have b2 := blk_cell I2.out 2
  have b3 := blk_cell I2.out 3
  have b4 := blk_cell I2.out 4
  have b5 := blk_cell I2.out 5
  go_wp2_with fail
  refine (HTP.out g0 c1 _ HRO.out.own2.rows).mono ?_
  rintro e w4 ⟨u4, A5, c5, rfl, hm4, hq5, b4⟩
  obtain ⟨A4, c4, rfl, hc4, hA4, hf4, hr4⟩ := hm4
  have z4 : w2.heap.size + 1 ≤ w4.heap.size := by have := b4.size; rw [HZ3.out] at this; exact this
  have D4 := Lib.hid (DI.out.trans (b4.mono (by rw [HZ3.out]; omega)))
  have P4 := Lib.hid (blk_below PI.out b4 (by rw [HZ3.out]; omega))
  have I4 := Lib.hid (blk_below I2.out b4 (by rw [HZ3.out]; omega))
  have HRO4 := Lib.hid (HRO.out.below b4 (by rw [HZ3.out]; omega))
  have G4 := Lib.hid (blk_new w4 #[.int .i64 i2, .int .i64 f2, .int .i64 t2, .int .i64 cp2, .int .i64 s2, .slice (A5) k2 c5] 26)
  have HQ5 := Lib.hid hq5
  have RW4 := Lib.hid hr4; have HF4 := Lib.hid hf4
  have DG := Lib.hid (D4.out.alloc (by omega) (.cells #[.int .i64 i2, .int .i64 f2, .int .i64 t2, .int .i64 cp2, .int .i64 s2, .slice (A5) k2 c5] 26))
  have hzG : (w4.alloc (.cells #[.int .i64 i2, .int .i64 f2, .int .i64 t2, .int .i64 cp2, .int .i64 s2, .slice (A5) k2 c5] 26)).heap.size = w4.heap.size + 1 := by simp
  have HZG := Lib.hid hzG; clear hzG hq5 hr4 hf4 b4
  have hc4' := HR.out ▸ hc4
  rw [HR.out]
  clear hc4 hA4
  clear b0 b1 b2 b3 b4 b5
  have a0 : ∀ o, (w4.alloc o).cell? ⟨w.heap.size, 0, none⟩ = some (.int .i64 i) := fun o => Lib.cell?_alloc_marked o (blk_cell P4.out 0)
  have a1 : ∀ o, (w4.alloc o).cell? ⟨w.heap.size, 1, none⟩ = some (.int .i64 f) := fun o => Lib.cell?_alloc_marked o (blk_cell P4.out 1)
  have a2 : ∀ o, (w4.alloc o).cell? ⟨w.heap.size, 2, none⟩ = some (.int .i64 t) := fun o => Lib.cell?_alloc_marked o (blk_cell P4.out 2)
  have a3 : ∀ o, (w4.alloc o).cell? ⟨w.heap.size, 3, none⟩ = some (.int .i64 cp) := fun o => Lib.cell?_alloc_marked o (blk_cell P4.out 3)
  have a4 : ∀ o, (w4.alloc o).cell? ⟨w.heap.size, 4, none⟩ = some (.int .i64 s) := fun o => Lib.cell?_alloc_marked o (blk_cell P4.out 4)
  have a5 : ∀ o, (w4.alloc o).cell? ⟨w.heap.size, 5, none⟩ = some (.slice A n c) := fun o => Lib.cell?_alloc_marked o (blk_cell P4.out 5)
  go_wp2_with fail
  refine (HTR.out _ (HW.out.below DG.out)).mono ?_
  rintro e w5 ⟨u5, A6, c6, rfl, hm5, hq6, b5⟩
  obtain ⟨A7, c7, rfl, hc7, hA7, hf7, hr7⟩ := hm5
  have z5 : w4.heap.size + 1 ≤ w5.heap.size := by have := b5.size; rw [HZG.out] at this; exact this
  have B5 := Lib.hid ((show Below w4.heap.size w4 (w4.alloc (.cells #[.int .i64 i2, .int .i64 f2, .int .i64 t2, .int .i64 cp2, .int .i64 s2, .slice (A5) k2 c5] 26)) from (Below.refl _ _).alloc (Nat.le_refl _) _).trans (b5.mono (by rw [HZG.out]; omega)))
  have G5 := Lib.hid (blk_below G4.out b5 (by rw [HZG.out]; omega))
  have HQ6 := Lib.hid hq6
  have RD7 := Lib.hid hr7.rd
  have N5 := Lib.hid (blk_new w5 #[.int .i64 i2, .int .i64 f2, .int .i64 t2, .int .i64 cp2, .int .i64 s2, .slice (A6) k2 c6] 26)
  have DW5 := Lib.hid ((Below.refl w5.heap.size w5).alloc (Nat.le_refl _) (.cells #[.int .i64 i2, .int .i64 f2, .int .i64 t2, .int .i64 cp2, .int .i64 s2, .slice (A6) k2 c6] 26))
  have hzW : (w5.alloc (.cells #[.int .i64 i2, .int .i64 f2, .int .i64 t2, .int .i64 cp2, .int .i64 s2, .slice (A6) k2 c6] 26)).heap.size = w5.heap.size + 1 := by simp
  have HZW := Lib.hid hzW; clear hzW hq6 b5 hr7 hf7 hc7 hA7
  rw [HR.out]
  clear a0 a1 a2 a3 a4 a5
  have q0 : ∀ o, (w5.alloc o).cell? ⟨w4.heap.size, 0, none⟩ = some (.int .i64 i2) := fun o => Lib.cell?_alloc_marked o (blk_cell G5.out 0)
  have q1 : ∀ o, (w5.alloc o).cell? ⟨w4.heap.size, 1, none⟩ = some (.int .i64 f2) := fun o => Lib.cell?_alloc_marked o (blk_cell G5.out 1)
  have q2 : ∀ o, (w5.alloc o).cell? ⟨w4.heap.size, 2, none⟩ = some (.int .i64 t2) := fun o => Lib.cell?_alloc_marked o (blk_cell G5.out 2)
  have q3 : ∀ o, (w5.alloc o).cell? ⟨w4.heap.size, 3, none⟩ = some (.int .i64 cp2) := fun o => Lib.cell?_alloc_marked o (blk_cell G5.out 3)
  have q4 : ∀ o, (w5.alloc o).cell? ⟨w4.heap.size, 4, none⟩ = some (.int .i64 s2) := fun o => Lib.cell?_alloc_marked o (blk_cell G5.out 4)
  have q5 : ∀ o, (w5.alloc o).cell? ⟨w4.heap.size, 5, none⟩ = some (.slice A5 k2 c5) := fun o => Lib.cell?_alloc_marked o (blk_cell G5.out 5)
  have d0 := blk_cell N5.out 0
  have d1 := blk_cell N5.out 1
  have d2 := blk_cell N5.out 2
  have d3 := blk_cell N5.out 3
  have d4 := blk_cell N5.out 4
  have d5 := blk_cell N5.out 5
  go_wp2_with fail
  have hqg := ((HQ5.out.2.2.below B5.out (Nat.le_refl _)).below DW5.out (by omega)).rows
  have hqw := (HQ6.out.2.2.below DW5.out (Nat.le_refl _)).rows
  refine (HTS.out A5 A6 c5 c6 _ hqg hqw).mono ?_
  rintro e w6 ⟨rfl, b6⟩
  have z6 : w5.heap.size + 1 ≤ w6.heap.size := by have := b6.size; rw [HZW.out] at this; exact this
  have B6 := Lib.hid ((B5.out.trans (DW5.out.mono (by omega))).trans (b6.mono (by rw [HZW.out]; omega)))
  have G6 := Lib.hid (blk_below (blk_alloc G5.out (.cells #[.int .i64 i2, .int .i64 f2, .int .i64 t2, .int .i64 cp2, .int .i64 s2, .slice (A6) k2 c6] 26)) b6 (by rw [HZW.out]; omega))
  have OW6 := Lib.hid (HQ5.out.2.2.below B6.out (Nat.le_refl _))
  have RW6 := Lib.hid (RW4.out.below B6.out (Nat.le_refl _))
  have s1 := str_rd m A4 r c4 HR.out w6 RW6.out.rd
  have s2 := str_rd m A7 r c7 HR.out w6 ((RD7.out.below DW5.out).below b6)
  have BY6 := Lib.hid (show BysIn 5 (w2.heap.size + 1) w4.heap.size w6 A4 r by
    rw [← HR.out, ← HZ3.out]
    rcases HF4.out with ⟨g, rfl⟩ | e
    · exact RW6.out.bys (g := g) (.inl rfl)
    · exact RW6.out.bys (g := 0) (.inr e))
  have OX6 := Lib.hid (show Own2 (w2.heap.size + 1) w4.heap.size w6 A5 l2 by rw [← HZ3.out]; exact OW6.out)
  clear b6 hqg hqw
  clear q0 q1 q2 q3 q4 q5 d0 d1 d2 d3 d4 d5
  have q0 := blk_cell G6.out 0
  have q1 := blk_cell G6.out 1
  have q2 := blk_cell G6.out 2
  have q3 := blk_cell G6.out 3
  have q4 := blk_cell G6.out 4
  have q5 := blk_cell G6.out 5
  go_wp2_with fail
  clear s1 s2
  refine (HTX.out (w2.heap.size + 1) w4.heap.size c5 A5 A4 w6 OX6.out BY6.out (by omega) (by omega)).mono ?_
  rintro e w7 ⟨rfl, hby7, b7⟩
  have z7 := b7.size
  have B7 := Lib.hid ((B6.out.mono z4).trans b7)
  have P7 := Lib.hid (blk_below P4.out B7.out (by omega))
  have I7 := Lib.hid (blk_below I4.out B7.out (by omega))
  have D7 := Lib.hid (D4.out.trans (B7.out.mono (by omega)))
  have HRO7 := Lib.hid (HRO4.out.below B7.out (by omega))
  have BY7 := Lib.hid hby7
  clear q0 q1 q2 q3 q4 q5
  clear b7 hby7
  go_wp2_with fail
  go_loopw [11] (fun iv wr => ∃ k : Nat, k ≤ r ∧ iv = .int .i64 k ∧ BysIn 5 (w2.heap.size + 1) w4.heap.size wr A4 r ∧ Below (w2.heap.size + 1) w7 wr) (fun iv _ => r - (intOf iv).toNat)
  case atStart => exact ⟨0, Nat.zero_le _, rfl, BY7.out, Below.refl _ _⟩
  case round =>
    obtain ⟨j, hj, rfl, h9, hb⟩ := hrel
    have hj0 : (0 : Int) ≤ (j : Int) := by omega
    have H9 := Lib.hid h9; have HB := Lib.hid hb
    clear h9 hb
    by_cases hjm : j < r
    · have hji : (j : Int) < (r : Int) := by omega
      obtain ⟨g, z, rfl, l1, l2, l3, l4⟩ := H9.out.at hjm
      go_wp2
      go_roundw
      case rel => exact ⟨j + 1, by omega, by go_num, H9.out.set g j _, HB.out.setCell (p := ⟨g, j, none⟩) l1 _⟩
      case measure => simp [intOf]; omega
    · obtain rfl : j = r := by omega
      have P8 := Lib.hid (blk_below P7.out HB.out (by omega))
      have I8 := Lib.hid (blk_below I7.out HB.out (by omega))
      have D8 := Lib.hid (D7.out.trans (HB.out.mono (by omega)))
      have HRO8 := Lib.hid (HRO7.out.below HB.out (by omega))
      have z8 := HB.out.size
      have a0 := blk_cell P8.out 0
      have a1 := blk_cell P8.out 1
      have a2 := blk_cell P8.out 2
      have a3 := blk_cell P8.out 3
      have a4 := blk_cell P8.out 4
      have a5 := blk_cell P8.out 5
      have b0 := blk_cell I8.out 0
      have b1 := blk_cell I8.out 1
      have b2 := blk_cell I8.out 2
      have b3 := blk_cell I8.out 3
      have b4 := blk_cell I8.out 4
      have b5 := blk_cell I8.out 5
      go_wp2_with fail
      refine (HTY.out g0 w.heap.size w2.heap.size c1 c A hc1 wr HRO8.out (by omega) (HW.out.below D8.out)).mono ?_
      rintro e w8 ⟨rfl, b8⟩
      have D9 := Lib.hid (D8.out.trans (b8.mono D8.out.size))
      clear b8
      clear a0 a1 a2 a3 a4 a5 b0 b1 b2 b3 b4 b5
      go_wp2_with fail
      refine (awake _).mono ?_
      rintro e w9 ⟨rfl, b9⟩
      have D10 := Lib.hid (D9.out.trans (b9.mono D9.out.size))
      clear b9
      go_wp2
      go_ret
      exact ⟨rfl, D10.out⟩
theorem takes (x : Ch) (la : List Msg) (A : Option Addr) (c : Nat) (_hA : A = none → c = 0) (_hc : la.length ≤ c) (hL : ∀ l ∈ la, l.length ≤ 140737488355328) (w : World) (h : Rms w A la) :
    Calls Try.prog 4 #[.agg (qcells x A la.length c)] w fun e w' => e = .returned (.bool true) ∧ Below w.heap.size w w' := by
  obtain ⟨i, f, t, cp, s⟩ := x
  cases h1 : greatQ la with
  | true => exact takes_great i f t cp s A la.length c la rfl hL h1 w h
  | false => exact takes_main i f t cp s A la.length c la rfl hL h1 w h
end Go.Proofs.Ytlmecndldclnnaa.chan
