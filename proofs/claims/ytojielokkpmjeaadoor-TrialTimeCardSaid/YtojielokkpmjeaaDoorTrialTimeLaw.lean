/- The law TrialTime, walked. -/
import Derived.Test.YtojielokkpmjeaaDoorRows
import Derived.Test.YtojielokkpmjeaaDoorTrialF
import Derived.Test.YtojielokkpmjeaaDoorTrialOpen
import Derived.Deep.RegionWith
namespace Go.Proofs.YtojielokkpmjeaaDoor.trialTime
open Go Go.ChangeShapes Go.WideShapes Go.ChangeAt Go.RowKit Go.Proofs.YtojielokkpmjeaaDoor.tr
theorem cm_start {k : Int} (h : 1 ≤ k) (h2 : k ≤ 8) : cmR 0 0 k = (1, k, 0) := by
  simp [cmR, frB_true h h2, show mayB 0 0 = true by decide]
theorem may_on {b : Int} (a : Int) (ha : a = 1 ∨ a = 2) (h : 1 ≤ b) (h2 : b ≤ 8) : mayB a b = true := decide_eq_true (by omega)
theorem bd_start {k : Int} (g : Bool) (h : 1 ≤ k) (h2 : k ≤ 8) : bdR 1 k g = (2, k, 1) := by simp [bdR, may_on 1 (.inl rfl) h h2]
theorem bd_rest (g : Bool) : bdR 0 0 g = (0, 0, 0) := by simp [bdR]
theorem bd_back {b : Int} (h : 1 ≤ b) (h2 : b ≤ 8) : bdR 2 b false = (0, 0, 4) := by simp [bdR, may_on 2 (.inr rfl) h h2]
theorem bd_last : bdR 2 1 true = (0, 0, 3) := by simp [bdR, may_on 2 (.inr rfl) (Int.le_refl 1) (by decide)]
theorem bd_on {b : Int} (h : 1 < b) (h2 : b ≤ 8) : bdR 2 b true = (2, b - 1, 2) := by simp [bdR, may_on 2 (.inr rfl) (show 1 ≤ b by omega) h2]; omega
set_option maxRecDepth 100000 in
set_option maxHeartbeats 4000000 in
theorem law0 (k : Int) (g : Bool) (l : List Bool) (h : k < 1 ∨ 8 < k ∨ 30 < l.length) (A : Option Addr) (c : Nat) (w : World) : Calls Tryd.prog 6 #[.int .i64 k, .bool g, .slice A l.length c] w fun e w' => e = .returned (.bool true) ∧ Below w.heap.size w w' := by
  by_cases h1 : k < 1
  · go_enter Tryd.func6, Tryd.ntmps6
    go_wp2_with fail
    refine (awake _).mono ?_
    rintro e w1 ⟨rfl, b1⟩
    go_wp2
    go_ret
    exact ⟨rfl, b1⟩
  by_cases h2 : 8 < k
  · go_enter Tryd.func6, Tryd.ntmps6
    go_wp2_with fail
    refine (awake _).mono ?_
    rintro e w1 ⟨rfl, b1⟩
    go_wp2
    go_ret
    exact ⟨rfl, b1⟩
  have h5 : (30 : Int) < (l.length : Int) := by omega
  go_enter Tryd.func6, Tryd.ntmps6
  go_wp2_with fail
  refine (awake _).mono ?_
  rintro e w1 ⟨rfl, b1⟩
  go_wp2
  go_ret
  exact ⟨rfl, b1⟩
set_option maxRecDepth 100000 in
set_option maxHeartbeats 4000000 in
theorem law1 (k : Int) (g : Bool) (l : List Bool) (h1 : ¬ k < 1) (h2 : ¬ 8 < k) (h5 : ¬ (30 : Int) < (l.length : Int)) (A : Option Addr) (c : Nat) (w : World) (hr : Rd w A (bools l)) : Calls Tryd.prog 6 #[.int .i64 k, .bool g, .slice A l.length c] w fun e w' => e = .returned (.bool true) ∧ Below w.heap.size w w' := by
  have C0 : cmR 0 0 k = (1, k, 0) := cm_start (by omega) (by omega)
  have C1 : bdR 1 k g = (2, k, 1) := bd_start g (by omega) (by omega)
  have H0 := Lib.hid C0; have H1 := Lib.hid C1; clear C0 C1
  go_enter Tryd.func6, Tryd.ntmps6
  go_wp2_with fail
  refine (awake _).mono ?_
  rintro e w1 ⟨rfl, b1⟩
  go_wp2_with fail
  refine (com_c 0 0 k 1 k 0 H0.out _).mono ?_
  rintro e w2 ⟨rfl, b2⟩
  have z2 : w.heap.size ≤ w2.heap.size := by have := b1.size; have := b2.size; omega
  have B2 := Lib.hid ((b1.trans (b2.mono b1.size)).alloc z2 (.cells #[.int .u8 1, .int .i64 k] 25)); clear b1 b2
  have K2 := Lib.hid (blk_new w2 #[.int .u8 1, .int .i64 k] 25)
  go_wp2_with fail
  refine (bd_c 1 k g 2 k 1 H1.out _).mono ?_
  rintro e w3 ⟨rfl, b3⟩
  have K3 := Lib.hid (blk_step K2.out b3)
  have f0 : w3.frozen? ⟨w2.heap.size, 0, none⟩ = false := blk_frozen K3.out 0
  have f1 : w3.frozen? ⟨w2.heap.size, 1, none⟩ = false := blk_frozen K3.out 1
  have k0 : w3.cell? ⟨w2.heap.size, 0, none⟩ = some (.int .u8 1) := blk_cell K3.out 0
  have k1 : w3.cell? ⟨w2.heap.size, 1, none⟩ = some (.int .i64 k) := blk_cell K3.out 1
  have B3 := Lib.hid (B2.out.trans (b3.mono (by simp; omega))); clear b3
  go_wp2_with fail
  go_loopw [10, 11] (fun ov i wr => ∃ (j : Nat) (o : Bool) (a b : Int), j ≤ l.length ∧ ov = .bool o ∧ i = .int .i64 j ∧ ((o = true ∧ a = 0 ∧ b = 0) ∨ (o = false ∧ a = 2 ∧ b = k - j ∧ (j : Int) < k)) ∧ wr.heap[w2.heap.size]? = some (.cells #[.int .u8 a, .int .i64 b] 25 (0, 0)) ∧ Below w.heap.size w wr) (fun _ i _ => l.length - (intOf i).toNat)
  case atStart => exact ⟨0, false, 2, k, Nat.zero_le _, rfl, rfl, .inr ⟨rfl, rfl, by omega, by omega⟩, blk_eq (blk_set (blk_set K3.out _ _) _ _) rfl, (B3.out.setCell (by exact z2) _).setCell (by exact z2) _⟩
  case round =>
    obtain ⟨j, o, a, b, hj, rfl, rfl, hs, hc, hb⟩ := hrel
    have HC := Lib.hid hc; have HB := Lib.hid hb
    have c0 : wr.cell? ⟨w2.heap.size, 0, none⟩ = some (.int .u8 a) := blk_cell hc 0
    have c1 : wr.cell? ⟨w2.heap.size, 1, none⟩ = some (.int .i64 b) := blk_cell hc 1
    clear hc hb k0 k1 f0 f1
    by_cases hjl : j < l.length
    · have hji : (j : Int) < (l.length : Int) := by omega
      obtain ⟨x, hx⟩ : ∃ x, l[j]? = some x := ⟨l[j], List.getElem?_eq_getElem hjl⟩
      obtain ⟨hbk, ho, rfl, hlt⟩ := hr.addr (by rw [bools_length]; omega)
      have hc0 := (hr.below HB.out).cell (bools_at hx)
      have hne : hbk ≠ w2.heap.size := by omega
      rcases hs with ⟨rfl, rfl, rfl⟩ | ⟨rfl, rfl, hbv, hk⟩
      · have HBD := Lib.hid (bd_c 0 0 x (0) (0) 0 (bd_rest x))
        have HM := Lib.hid (show mayB (0) (0) = true from (by decide))
        go_wp2_with fail
        go_region_with (go_at_call 9; refine (HBD.out _).mono ?_; rintro e w4 ⟨rfl, b4⟩; have G4 := Lib.hid (blk_step (w0 := wr.drew) HC.out b4); have f0 : w4.frozen? ⟨w2.heap.size, 0, none⟩ = false := blk_frozen G4.out 0; have f1 : w4.frozen? ⟨w2.heap.size, 1, none⟩ = false := blk_frozen G4.out 1; have k0 : w4.cell? ⟨w2.heap.size, 0, none⟩ = some (.int .u8 0) := blk_cell G4.out 0; have k1 : w4.cell? ⟨w2.heap.size, 1, none⟩ = some (.int .i64 0) := blk_cell G4.out 1; have B4 := Lib.hid (HB.out.drew.trans (b4.mono HB.out.size)); have G5 := Lib.hid (blk_eq (blk_set (blk_set G4.out 0 (.int .u8 (0))) 1 (.int .i64 (0))) (cs' := #[.int .u8 (0), .int .i64 (0)]) rfl); have B5 := Lib.hid ((B4.out.setCell (p := ⟨w2.heap.size, 0, none⟩) (by exact z2) (.int .u8 (0))).setCell (p := ⟨w2.heap.size, 1, none⟩) (by exact z2) (.int .i64 (0))); have hc5 := (hr.below B5.out).cell (bools_at hx); have hc4 := (hr.below B4.out).cell (bools_at hx); clear b4)
        all_goals go_wp2_with fail
        all_goals (refine (may _ _ _).mono ?_)
        all_goals (rintro e w6 ⟨rfl, b6⟩)
        all_goals (rw [HM.out])
        all_goals go_wp2_with fail
        all_goals go_roundw
        all_goals first | exact ⟨j + 1, true, 0, 0, by omega, rfl, by go_num, .inl ⟨rfl, rfl, rfl⟩, blk_step G5.out b6, B5.out.trans (b6.mono B5.out.size)⟩ | (simp [intOf] <;> omega)
      · have hkj : 1 ≤ b ∧ b ≤ 8 := by omega
        have HBV := Lib.hid hbv; have HKJ := Lib.hid hkj; have HK := Lib.hid hk; clear hbv hkj hk
        cases x
        · skip
          have HBD := Lib.hid (bd_c 2 b false (0) (0) 4 (bd_back HKJ.out.1 HKJ.out.2))
          have HM := Lib.hid (show mayB (0) (0) = true from (by decide))
          go_wp2_with fail
          go_region_with (go_at_call 9; refine (HBD.out _).mono ?_; rintro e w4 ⟨rfl, b4⟩; have G4 := Lib.hid (blk_step (w0 := wr.drew) HC.out b4); have f0 : w4.frozen? ⟨w2.heap.size, 0, none⟩ = false := blk_frozen G4.out 0; have f1 : w4.frozen? ⟨w2.heap.size, 1, none⟩ = false := blk_frozen G4.out 1; have k0 : w4.cell? ⟨w2.heap.size, 0, none⟩ = some (.int .u8 2) := blk_cell G4.out 0; have k1 : w4.cell? ⟨w2.heap.size, 1, none⟩ = some (.int .i64 b) := blk_cell G4.out 1; have B4 := Lib.hid (HB.out.drew.trans (b4.mono HB.out.size)); have G5 := Lib.hid (blk_eq (blk_set (blk_set G4.out 0 (.int .u8 (0))) 1 (.int .i64 (0))) (cs' := #[.int .u8 (0), .int .i64 (0)]) rfl); have B5 := Lib.hid ((B4.out.setCell (p := ⟨w2.heap.size, 0, none⟩) (by exact z2) (.int .u8 (0))).setCell (p := ⟨w2.heap.size, 1, none⟩) (by exact z2) (.int .i64 (0))); have hc5 := (hr.below B5.out).cell (bools_at hx); have hc4 := (hr.below B4.out).cell (bools_at hx); clear b4)
          all_goals go_wp2_with fail
          all_goals (refine (may _ _ _).mono ?_)
          all_goals (rintro e w6 ⟨rfl, b6⟩)
          all_goals (rw [HM.out])
          all_goals go_wp2_with fail
          all_goals go_roundw
          all_goals first | exact ⟨j + 1, true, 0, 0, by omega, rfl, by go_num, .inl ⟨rfl, rfl, rfl⟩, blk_step G5.out b6, B5.out.trans (b6.mono B5.out.size)⟩ | (simp [intOf] <;> omega)
        · by_cases hl : (j : Int) = k - 1
          · have hlb : ((j : Int) == k - 1) = true := by simpa using hl
            obtain rfl : b = 1 := by have := HBV.out; omega
            clear hl
            have HBD := Lib.hid (bd_c 2 1 true (0) (0) 3 bd_last)
            have HM := Lib.hid (show mayB (0) (0) = true from (by decide))
            go_wp2_with fail
            go_region_with (go_at_call 9; refine (HBD.out _).mono ?_; rintro e w4 ⟨rfl, b4⟩; have G4 := Lib.hid (blk_step (w0 := wr.drew) HC.out b4); have f0 : w4.frozen? ⟨w2.heap.size, 0, none⟩ = false := blk_frozen G4.out 0; have f1 : w4.frozen? ⟨w2.heap.size, 1, none⟩ = false := blk_frozen G4.out 1; have k0 : w4.cell? ⟨w2.heap.size, 0, none⟩ = some (.int .u8 2) := blk_cell G4.out 0; have k1 : w4.cell? ⟨w2.heap.size, 1, none⟩ = some (.int .i64 1) := blk_cell G4.out 1; have B4 := Lib.hid (HB.out.drew.trans (b4.mono HB.out.size)); have G5 := Lib.hid (blk_eq (blk_set (blk_set G4.out 0 (.int .u8 (0))) 1 (.int .i64 (0))) (cs' := #[.int .u8 (0), .int .i64 (0)]) rfl); have B5 := Lib.hid ((B4.out.setCell (p := ⟨w2.heap.size, 0, none⟩) (by exact z2) (.int .u8 (0))).setCell (p := ⟨w2.heap.size, 1, none⟩) (by exact z2) (.int .i64 (0))); have hc5 := (hr.below B5.out).cell (bools_at hx); have hc4 := (hr.below B4.out).cell (bools_at hx); clear b4)
            all_goals go_wp2_with fail
            all_goals (refine (may _ _ _).mono ?_)
            all_goals (rintro e w6 ⟨rfl, b6⟩)
            all_goals (rw [HM.out])
            all_goals go_wp2_with fail
            all_goals go_roundw
            all_goals first | exact ⟨j + 1, true, 0, 0, by omega, rfl, by go_num, .inl ⟨rfl, rfl, rfl⟩, blk_step G5.out b6, B5.out.trans (b6.mono B5.out.size)⟩ | (simp [intOf] <;> omega)
          · have hlb : ((j : Int) == k - 1) = false := by simpa using hl
            have HL := Lib.hid hl
            clear hl
            have HBD := Lib.hid (bd_c 2 b true (2) (b - 1) 2 (bd_on (by have := HBV.out; have := HKJ.out; have := HL.out; omega) HKJ.out.2))
            have HM := Lib.hid (show mayB (2) (b - 1) = true from (may_on 2 (.inr rfl) (by have := HBV.out; have := HKJ.out; have := HL.out; omega) (by have := HKJ.out; omega)))
            go_wp2_with fail
            go_region_with (go_at_call 9; refine (HBD.out _).mono ?_; rintro e w4 ⟨rfl, b4⟩; have G4 := Lib.hid (blk_step (w0 := wr.drew) HC.out b4); have f0 : w4.frozen? ⟨w2.heap.size, 0, none⟩ = false := blk_frozen G4.out 0; have f1 : w4.frozen? ⟨w2.heap.size, 1, none⟩ = false := blk_frozen G4.out 1; have k0 : w4.cell? ⟨w2.heap.size, 0, none⟩ = some (.int .u8 2) := blk_cell G4.out 0; have k1 : w4.cell? ⟨w2.heap.size, 1, none⟩ = some (.int .i64 b) := blk_cell G4.out 1; have B4 := Lib.hid (HB.out.drew.trans (b4.mono HB.out.size)); have G5 := Lib.hid (blk_eq (blk_set (blk_set G4.out 0 (.int .u8 (2))) 1 (.int .i64 (b - 1))) (cs' := #[.int .u8 (2), .int .i64 (b - 1)]) rfl); have B5 := Lib.hid ((B4.out.setCell (p := ⟨w2.heap.size, 0, none⟩) (by exact z2) (.int .u8 (2))).setCell (p := ⟨w2.heap.size, 1, none⟩) (by exact z2) (.int .i64 (b - 1))); have hc5 := (hr.below B5.out).cell (bools_at hx); have hc4 := (hr.below B4.out).cell (bools_at hx); clear b4)
            all_goals go_wp2_with fail
            all_goals (refine (may _ _ _).mono ?_)
            all_goals (rintro e w6 ⟨rfl, b6⟩)
            all_goals (rw [HM.out])
            all_goals go_wp2_with fail
            all_goals go_roundw
            all_goals first | exact ⟨j + 1, false, 2, b - 1, by omega, rfl, by go_num, .inr ⟨rfl, rfl, by have := HBV.out; push_cast; omega, by have := HBV.out; have := HKJ.out; have := HK.out; have := HL.out; push_cast; omega⟩, blk_step G5.out b6, B5.out.trans (b6.mono B5.out.size)⟩ | (simp [intOf] <;> omega)
    · obtain rfl : j = l.length := by omega
      go_wp2_with fail
      go_ret
      exact ⟨rfl, HB.out⟩
theorem law (k : Int) (g : Bool) (l : List Bool) (A : Option Addr) (c : Nat) (w : World) (hr : Rd w A (bools l)) : Calls Tryd.prog 6 #[.int .i64 k, .bool g, .slice A l.length c] w fun e w' => e = .returned (.bool true) ∧ Below w.heap.size w w' := by
  by_cases h : k < 1 ∨ 8 < k ∨ 30 < l.length
  · exact law0 k g l h A c w
  · exact law1 k g l (by omega) (by omega) (by omega) A c w hr
end Go.Proofs.YtojielokkpmjeaaDoor.trialTime
