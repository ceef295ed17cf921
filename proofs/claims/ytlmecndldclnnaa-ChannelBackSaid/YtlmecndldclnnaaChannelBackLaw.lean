/- The law ChannelBack: what is put into an empty queue is taken; no condition. -/
import Derived.Test.YtlmecndldclnnaaRows
import Derived.Test.YtlmecndldclnnaaChG
import Derived.Test.YtlmecndldclnnaaChF
namespace Go.Proofs.Ytlmecndldclnnaa.chan
open Go Go.ChangeShapes Go.WideShapes Go.ChangeAt Go.RowKit Go.Proofs.Ytlmecndldclnnaa.rows
set_option maxHeartbeats 1000000 in
theorem back_bad100 (i f t cp s : Int) (Am : Option Addr) (n cm : Nat) (hx : mayC ⟨i, f, t, cp, s⟩ = false) (h1 : (100 : Int) < (n : Int)) (w : World) : Calls Try.prog 7 #[.agg #[.int .i64 i, .int .i64 f, .int .i64 t, .int .i64 cp, .int .i64 s], .slice Am n cm] w fun e w' => e = .returned (.bool true) ∧ Below w.heap.size w w' := by
  have TN := fun w => new_any ⟨i, f, t, cp, s⟩ w
  rw [if_neg (by rw [hx]; decide)] at TN
  dsimp only [qcells, Ch.cells] at TN
  have HN := Lib.hid TN; clear TN
  have HX := Lib.hid hx; clear hx
  go_enter Try.func7, Try.ntmps7
  go_wp2_with fail
  refine (HN.out _).mono ?_
  rintro e w1 ⟨rfl, b1⟩
  have g0 := blk_below (blk_new w #[.int .i64 i, .int .i64 f, .int .i64 t, .int .i64 cp, .int .i64 s] 23) b1 (by simp)
  have s1 := b1.size
  have z1 : w.heap.size + 1 ≤ w1.heap.size := by simpa using s1
  have B1 := ((Below.refl w.heap.size w).alloc (Nat.le_refl _) (.cells #[.int .i64 i, .int .i64 f, .int .i64 t, .int .i64 cp, .int .i64 s] 23)).trans (b1.mono (by simp))
  have a4 : ∀ o, (w1.alloc o).cell? ⟨w.heap.size, 4, none⟩ = some (.int .i64 s) := fun o => Lib.cell?_alloc_marked o (blk_cell g0 4)
  have B2 := Lib.hid (B1.alloc (by omega) (.cells #[.int .i64 0, .int .i64 0, .int .i64 0, .int .i64 0, .int .i64 0, .slice (none) 0 0] 26))
  clear b1 s1 B1 g0
  go_wp2_with fail
  refine (awake _).mono ?_
  rintro e w2 ⟨rfl, b2⟩
  have B3 := Lib.hid (B2.out.trans (b2.mono B2.out.size)); clear b2
  go_wp2
  go_ret
  exact ⟨rfl, B3.out⟩
set_option maxHeartbeats 1000000 in
theorem back_bad (i f t cp s : Int) (Am : Option Addr) (n cm : Nat) (hx : mayC ⟨i, f, t, cp, s⟩ = false) (h1 : (n : Int) ≤ 100) (w : World) : Calls Try.prog 7 #[.agg #[.int .i64 i, .int .i64 f, .int .i64 t, .int .i64 cp, .int .i64 s], .slice Am n cm] w fun e w' => e = .returned (.bool true) ∧ Below w.heap.size w w' := by
  have TN := fun w => new_any ⟨i, f, t, cp, s⟩ w
  rw [if_neg (by rw [hx]; decide)] at TN
  dsimp only [qcells, Ch.cells] at TN
  have HN := Lib.hid TN; clear TN
  have HX := Lib.hid hx; clear hx
  go_enter Try.func7, Try.ntmps7
  go_wp2_with fail
  refine (HN.out _).mono ?_
  rintro e w1 ⟨rfl, b1⟩
  have g0 := blk_below (blk_new w #[.int .i64 i, .int .i64 f, .int .i64 t, .int .i64 cp, .int .i64 s] 23) b1 (by simp)
  have s1 := b1.size
  have z1 : w.heap.size + 1 ≤ w1.heap.size := by simpa using s1
  have B1 := ((Below.refl w.heap.size w).alloc (Nat.le_refl _) (.cells #[.int .i64 i, .int .i64 f, .int .i64 t, .int .i64 cp, .int .i64 s] 23)).trans (b1.mono (by simp))
  have a4 : ∀ o, (w1.alloc o).cell? ⟨w.heap.size, 4, none⟩ = some (.int .i64 s) := fun o => Lib.cell?_alloc_marked o (blk_cell g0 4)
  have B2 := Lib.hid (B1.alloc (by omega) (.cells #[.int .i64 0, .int .i64 0, .int .i64 0, .int .i64 0, .int .i64 0, .slice (none) 0 0] 26))
  clear b1 s1 B1 g0
  go_wp2_with fail
  refine (awake _).mono ?_
  rintro e w2 ⟨rfl, b2⟩
  have B3 := Lib.hid (B2.out.trans (b2.mono B2.out.size)); clear b2
  go_wp2
  go_ret
  exact ⟨rfl, B3.out⟩
set_option maxHeartbeats 1000000 in
theorem back_100 (i f t cp s : Int) (Am : Option Addr) (n cm : Nat) (hx : mayC ⟨i, f, t, cp, s⟩ = true) (h1 : (100 : Int) < (n : Int)) (w : World) : Calls Try.prog 7 #[.agg #[.int .i64 i, .int .i64 f, .int .i64 t, .int .i64 cp, .int .i64 s], .slice Am n cm] w fun e w' => e = .returned (.bool true) ∧ Below w.heap.size w w' := by
  have TN := fun w => new_any ⟨i, f, t, cp, s⟩ w
  rw [if_pos hx] at TN
  dsimp only [qcells, Ch.cells] at TN
  have HN := Lib.hid TN; clear TN
  have HX := Lib.hid hx; clear hx
  go_enter Try.func7, Try.ntmps7
  go_wp2_with fail
  refine (HN.out _).mono ?_
  rintro e w1 ⟨rfl, b1⟩
  have g0 := blk_below (blk_new w #[.int .i64 i, .int .i64 f, .int .i64 t, .int .i64 cp, .int .i64 s] 23) b1 (by simp)
  have s1 := b1.size
  have z1 : w.heap.size + 1 ≤ w1.heap.size := by simpa using s1
  have B1 := ((Below.refl w.heap.size w).alloc (Nat.le_refl _) (.cells #[.int .i64 i, .int .i64 f, .int .i64 t, .int .i64 cp, .int .i64 s] 23)).trans (b1.mono (by simp))
  have a4 : ∀ o, (w1.alloc o).cell? ⟨w.heap.size, 4, none⟩ = some (.int .i64 s) := fun o => Lib.cell?_alloc_marked o (blk_cell g0 4)
  have B2 := Lib.hid (B1.alloc (by omega) (.cells #[.int .i64 i, .int .i64 f, .int .i64 t, .int .i64 cp, .int .i64 s, .slice (none) 0 0] 26))
  clear b1 s1 B1 g0
  go_wp2_with fail
  refine (awake _).mono ?_
  rintro e w2 ⟨rfl, b2⟩
  have B3 := Lib.hid (B2.out.trans (b2.mono B2.out.size)); clear b2
  go_wp2
  go_ret
  exact ⟨rfl, B3.out⟩
set_option maxHeartbeats 1000000 in
theorem back_sz (i f t cp s : Int) (Am : Option Addr) (n cm : Nat) (hx : mayC ⟨i, f, t, cp, s⟩ = true) (h1 : (n : Int) ≤ 100) (h2 : s < (n : Int)) (w : World) : Calls Try.prog 7 #[.agg #[.int .i64 i, .int .i64 f, .int .i64 t, .int .i64 cp, .int .i64 s], .slice Am n cm] w fun e w' => e = .returned (.bool true) ∧ Below w.heap.size w w' := by
  have TN := fun w => new_any ⟨i, f, t, cp, s⟩ w
  rw [if_pos hx] at TN
  dsimp only [qcells, Ch.cells] at TN
  have HN := Lib.hid TN; clear TN
  have HX := Lib.hid hx; clear hx
  go_enter Try.func7, Try.ntmps7
  go_wp2_with fail
  refine (HN.out _).mono ?_
  rintro e w1 ⟨rfl, b1⟩
  have g0 := blk_below (blk_new w #[.int .i64 i, .int .i64 f, .int .i64 t, .int .i64 cp, .int .i64 s] 23) b1 (by simp)
  have s1 := b1.size
  have z1 : w.heap.size + 1 ≤ w1.heap.size := by simpa using s1
  have B1 := ((Below.refl w.heap.size w).alloc (Nat.le_refl _) (.cells #[.int .i64 i, .int .i64 f, .int .i64 t, .int .i64 cp, .int .i64 s] 23)).trans (b1.mono (by simp))
  have a4 : ∀ o, (w1.alloc o).cell? ⟨w.heap.size, 4, none⟩ = some (.int .i64 s) := fun o => Lib.cell?_alloc_marked o (blk_cell g0 4)
  have B2 := Lib.hid (B1.alloc (by omega) (.cells #[.int .i64 i, .int .i64 f, .int .i64 t, .int .i64 cp, .int .i64 s, .slice (none) 0 0] 26))
  clear b1 s1 B1 g0
  go_wp2_with fail
  refine (awake _).mono ?_
  rintro e w2 ⟨rfl, b2⟩
  have B3 := Lib.hid (B2.out.trans (b2.mono B2.out.size)); clear b2
  go_wp2
  go_ret
  exact ⟨rfl, B3.out⟩
set_option maxHeartbeats 4000000 in
theorem back_go (i f t cp s : Int) (m : Msg) (Am : Option Addr) (n cm : Nat) (hn : m.length = n) (hmA : Am = none → cm = 0) (hmc : n ≤ cm) (hx : mayC ⟨i, f, t, cp, s⟩ = true) (h1 : (n : Int) ≤ 100) (h2 : (n : Int) ≤ s) (w : World) (hm : Rd w Am (bcs m)) : Calls Try.prog 7 #[.agg #[.int .i64 i, .int .i64 f, .int .i64 t, .int .i64 cp, .int .i64 s], .slice Am n cm] w fun e w' => e = .returned (.bool true) ∧ Below w.heap.size w w' := by
  have hy := mayC_iff.1 hx
  simp only at hy
  have hq0 : mayQ ⟨i, f, t, cp, s⟩ [] = true := mayQ_good hx (by show ((0 : Nat) : Int) ≤ cp; omega) (fun k l hk => by simp at hk)
  have hq1 : mayQ ⟨i, f, t, cp, s⟩ [m] = true := mayQ_good hx (by show ((1 : Nat) : Int) ≤ cp; omega) (fun k l hk he => by
    have : k = 0 := by simpa using hk
    subst this; injection he with he; subst he; show (m.length : Int) ≤ s; omega)
  have hp : putR ⟨i, f, t, cp, s⟩ [] m = (⟨i, f, t, cp, s⟩, [m], 0) := by
    unfold putR room
    rw [if_pos hq0, if_neg (by show ¬ s < (m.length : Int); omega), if_neg (by show ¬ ((0 : Nat) : Int) = cp; omega)]; rfl
  have ht : takeR ⟨i, f, t, cp, s⟩ [m] = (m, ⟨i, f, t, cp, s⟩, [], 0) := by unfold takeR; rw [if_pos hq1]
  have TP : ∀ w', Below w.heap.size w w' → Calls Try.prog 11 #[.agg #[.int .i64 i, .int .i64 f, .int .i64 t, .int .i64 cp, .int .i64 s, .slice (none) 0 0], .slice Am n cm] w' fun e w'' => ∃ A c, e = .returned (.tuple #[.agg #[.int .i64 i, .int .i64 f, .int .i64 t, .int .i64 cp, .int .i64 s, .slice (A) 1 c], .int .i64 0]) ∧ QAt w'.heap.size w''.heap.size w'' A c [m] ∧ Below w'.heap.size w' w'' := fun w' hb => by
    have T := put_to hp none 0 (fun _ => rfl) (Nat.le_refl _) (Nat.zero_le _) Am cm hmA (by rw [hn]; exact hmc) w' Rms.nil (hm.below hb)
    rw [hn] at T; exact T
  have TT : ∀ w' A c, QAt 0 w'.heap.size w' A c [m] → Calls Try.prog 17 #[.agg #[.int .i64 i, .int .i64 f, .int .i64 t, .int .i64 cp, .int .i64 s, .slice (A) 1 c]] w' fun e w'' => ∃ u A c, e = .returned (.tuple #[u, .agg #[.int .i64 i, .int .i64 f, .int .i64 t, .int .i64 cp, .int .i64 s, .slice (A) 0 c], .int .i64 0]) ∧ MsgAt w'.heap.size w''.heap.size w'' u m ∧ QAt w'.heap.size w''.heap.size w'' A c [] ∧ Below w'.heap.size w' w'' := fun w' A c hq => take_to ht A c (by simp) w' hq.2.2.rows
  have TS : ∀ w' A c, Calls Try.prog 21 #[.agg #[.int .i64 i, .int .i64 f, .int .i64 t, .int .i64 cp, .int .i64 s, .slice (A) 0 c], .agg #[.int .i64 i, .int .i64 f, .int .i64 t, .int .i64 cp, .int .i64 s, .slice (none) 0 0]] w' fun e w'' => e = .returned (.bool true) ∧ Below w'.heap.size w' w'' := fun w' A c => by
    have T := same ⟨i, f, t, cp, s⟩ ⟨i, f, t, cp, s⟩ [] [] A none c 0 (Nat.zero_le _) w' Rms.nil Rms.nil
    rw [show sameQ ⟨i, f, t, cp, s⟩ [] ⟨i, f, t, cp, s⟩ [] = true by unfold sameQ; simp] at T
    exact T
  have HTP := Lib.hid TP; have HTT := Lib.hid TT; have HTS := Lib.hid TS; have HM := Lib.hid hm; have HNN := Lib.hid hn
  clear TP TT TS hp ht hq0 hq1 hy hm hmA hmc hn
  have TN := fun w => new_any ⟨i, f, t, cp, s⟩ w
  rw [if_pos hx] at TN
  dsimp only [qcells, Ch.cells] at TN
  have HN := Lib.hid TN; clear TN
  have HX := Lib.hid hx; clear hx
  go_enter Try.func7, Try.ntmps7
  go_wp2_with fail
  refine (HN.out _).mono ?_
  rintro e w1 ⟨rfl, b1⟩
  have g0 := blk_below (blk_new w #[.int .i64 i, .int .i64 f, .int .i64 t, .int .i64 cp, .int .i64 s] 23) b1 (by simp)
  have s1 := b1.size
  have z1 : w.heap.size + 1 ≤ w1.heap.size := by simpa using s1
  have B1 := ((Below.refl w.heap.size w).alloc (Nat.le_refl _) (.cells #[.int .i64 i, .int .i64 f, .int .i64 t, .int .i64 cp, .int .i64 s] 23)).trans (b1.mono (by simp))
  have a4 : ∀ o, (w1.alloc o).cell? ⟨w.heap.size, 4, none⟩ = some (.int .i64 s) := fun o => Lib.cell?_alloc_marked o (blk_cell g0 4)
  have B2 := Lib.hid (B1.alloc (by omega) (.cells #[.int .i64 i, .int .i64 f, .int .i64 t, .int .i64 cp, .int .i64 s, .slice (none) 0 0] 26))
  clear b1 s1 B1 g0
  have q2 := Lib.hid (blk_new w1 #[.int .i64 i, .int .i64 f, .int .i64 t, .int .i64 cp, .int .i64 s, .slice (none) 0 0] 26)
  go_wp2_with fail
  refine (HTP.out _ B2.out).mono ?_
  rintro e w3 ⟨A3, c3, rfl, hq3, b3⟩
  clear a4
  have q3 := blk_below q2.out b3 (by simp)
  have s3 : w1.heap.size + 1 ≤ w3.heap.size := by have := b3.size; simpa using this
  have B3 := B2.out.trans (b3.mono B2.out.size)
  have B4 := B3.alloc B3.size (.cells #[.int .i64 i, .int .i64 f, .int .i64 t, .int .i64 cp, .int .i64 s, .slice (A3) 1 c3] 26)
  have q4 := Lib.hid (blk_alloc q3 (.cells #[.int .i64 i, .int .i64 f, .int .i64 t, .int .i64 cp, .int .i64 s, .slice (A3) 1 c3] 26))
  have hq4 : QAt 0 (w3.alloc (.cells #[.int .i64 i, .int .i64 f, .int .i64 t, .int .i64 cp, .int .i64 s, .slice (A3) 1 c3] 26)).heap.size (w3.alloc (.cells #[.int .i64 i, .int .i64 f, .int .i64 t, .int .i64 cp, .int .i64 s, .slice (A3) 1 c3] 26)) A3 c3 [m] := ⟨hq3.1, hq3.2.1, (hq3.2.2.below ((Below.refl _ _).alloc (Nat.le_refl _) _) (Nat.le_refl _)).mono (Nat.zero_le _) (by simp)⟩
  have HB4 := Lib.hid B4; have HQ4 := Lib.hid hq4
  clear b3 hq3 B3 B4 hq4 q3 q2
  go_wp2_with fail
  refine (HTT.out _ _ _ HQ4.out).mono ?_
  rintro e w5 ⟨u5, A5, c5, rfl, hm5, hq5, b5⟩
  have s5 : w3.heap.size + 1 ≤ w5.heap.size := by have := b5.size; simpa using this
  have q5 := blk_below q4.out b5 (by simp; omega)
  have B5 := HB4.out.trans (b5.mono HB4.out.size)
  have B6 := B5.alloc B5.size (.cells #[.int .i64 i, .int .i64 f, .int .i64 t, .int .i64 cp, .int .i64 s, .slice (A5) 0 c5] 26)
  have HM5 := Lib.hid (hm5.below ((Below.refl w5.heap.size w5).alloc (Nat.le_refl _) (.cells #[.int .i64 i, .int .i64 f, .int .i64 t, .int .i64 cp, .int .i64 s, .slice (A5) 0 c5] 26)) (Nat.le_refl _))
  obtain ⟨Am5, cm5, rfl, _⟩ := hm5
  have HNL := HNN.out
  rw [HNL]
  have k1 : Sem.run Try.prog (convert 27 9 (.slice Am5 n cm5)) (w5.alloc (.cells #[.int .i64 i, .int .i64 f, .int .i64 t, .int .i64 cp, .int .i64 s, .slice (A5) 0 c5] 26)) = .ok (.string ⟨m.toArray⟩) (w5.alloc (.cells #[.int .i64 i, .int .i64 f, .int .i64 t, .int .i64 cp, .int .i64 s, .slice (A5) 0 c5] 26)) := by
    obtain ⟨_, _, ea, _, _, _, ra⟩ := HM5.out
    injection ea with ea1 _ ea3
    subst ea1; subst ea3
    exact str_rd m Am5 n cm5 HNL _ ra.rd
  have k2 := str_rd m Am n cm HNL _ (HM.out.below B6)
  have n0 : ∀ o, (w5.alloc o).cell? ⟨w1.heap.size, 0, none⟩ = some (.int .i64 i) := fun o => Lib.cell?_alloc_marked o (blk_cell q5 0)
  have n1 : ∀ o, (w5.alloc o).cell? ⟨w1.heap.size, 1, none⟩ = some (.int .i64 f) := fun o => Lib.cell?_alloc_marked o (blk_cell q5 1)
  have n2 : ∀ o, (w5.alloc o).cell? ⟨w1.heap.size, 2, none⟩ = some (.int .i64 t) := fun o => Lib.cell?_alloc_marked o (blk_cell q5 2)
  have n3 : ∀ o, (w5.alloc o).cell? ⟨w1.heap.size, 3, none⟩ = some (.int .i64 cp) := fun o => Lib.cell?_alloc_marked o (blk_cell q5 3)
  have n4 : ∀ o, (w5.alloc o).cell? ⟨w1.heap.size, 4, none⟩ = some (.int .i64 s) := fun o => Lib.cell?_alloc_marked o (blk_cell q5 4)
  have n5 : ∀ o, (w5.alloc o).cell? ⟨w1.heap.size, 5, none⟩ = some (.slice none 0 0) := fun o => Lib.cell?_alloc_marked o (blk_cell q5 5)
  have HB6 := Lib.hid B6
  clear B5 B6 b5 hq5 q5 HNL
  generalize (ByteArray.mk m.toArray) = S at *
  go_wp2_with fail
  refine (HTS.out _ _ _).mono ?_
  rintro e w7 ⟨rfl, b7⟩
  have HB7 := Lib.hid (HB6.out.trans (b7.mono HB6.out.size)); clear b7 k1 k2 n0 n1 n2 n3 n4 n5
  go_wp2_with fail
  refine (awake _).mono ?_
  rintro e w8 ⟨rfl, b8⟩
  have HB8 := Lib.hid (HB7.out.trans (b8.mono HB7.out.size)); clear b8
  go_wp2
  go_ret
  exact ⟨rfl, HB8.out⟩
theorem back (x : Ch) (m : Msg) (Am : Option Addr) (cm : Nat) (hmA : Am = none → cm = 0) (hmc : m.length ≤ cm) (w : World) (hm : Rd w Am (bcs m)) : Calls Try.prog 7 #[.agg x.cells.toArray, .slice Am m.length cm] w fun e w' => e = .returned (.bool true) ∧ Below w.heap.size w w' := by
  obtain ⟨i, f, t, cp, s⟩ := x
  cases hx : mayC ⟨i, f, t, cp, s⟩ with
  | false =>
    by_cases h1 : (100 : Int) < (m.length : Int)
    · exact back_bad100 i f t cp s Am m.length cm hx h1 w
    · exact back_bad i f t cp s Am m.length cm hx (by omega) w
  | true =>
    by_cases h1 : (100 : Int) < (m.length : Int)
    · exact back_100 i f t cp s Am m.length cm hx h1 w
    · by_cases h2 : s < (m.length : Int)
      · exact back_sz i f t cp s Am m.length cm hx (by omega) h2 w
      · exact back_go i f t cp s m Am m.length cm rfl hmA hmc hx (by omega) (by omega) w hm
end Go.Proofs.Ytlmecndldclnnaa.chan
