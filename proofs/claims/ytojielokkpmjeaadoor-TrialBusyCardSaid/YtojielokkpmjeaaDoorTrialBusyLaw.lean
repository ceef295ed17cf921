/- The law TrialBusy, walked. -/
import Derived.Test.YtojielokkpmjeaaDoorRows
import Derived.Test.YtojielokkpmjeaaDoorTrialF
import Derived.Test.YtojielokkpmjeaaDoorTrialOpen
import Derived.Deep.RegionWith
namespace Go.Proofs.YtojielokkpmjeaaDoor.trialBusy
open Go Go.ChangeShapes Go.WideShapes Go.ChangeAt Go.RowKit Go.Proofs.YtojielokkpmjeaaDoor.tr
theorem cm_start {k : Int} (h : 1 ≤ k) (h2 : k ≤ 8) : cmR 0 0 k = (1, k, 0) := by
  simp [cmR, frB_true h h2, show mayB 0 0 = true by decide]
theorem cm_rest {n : Int} (h : 1 ≤ n) (h2 : n ≤ 8) : cmR 0 0 n = (1, n, 0) := cm_start h h2
theorem cm_busy {k l n : Int} (hm : mayB k l = true) (hk : k ≠ 0) (h : 1 ≤ n) (h2 : n ≤ 8) : cmR k l n = (0, 0, 270) := by
  simp [cmR, frB_true h h2, hm, hk]
theorem bd_may {k l : Int} (g : Bool) (hm : mayB k l = true) : mayB (bdR k l g).1 (bdR k l g).2.1 = true := by
  rcases may_kind hm with ⟨rfl, rfl⟩ | ⟨rfl | rfl, hl⟩
  · rw [show bdR 0 0 g = (0, 0, 0) by simp [bdR]]; rfl
  · rw [show bdR 1 l g = (2, l, 1) by simp [bdR, hm]]
    have := of_decide_eq_true hl
    exact decide_eq_true (by simp; omega)
  · have := of_decide_eq_true hl
    cases g
    · rw [show bdR 2 l false = (0, 0, 4) by simp [bdR, hm]]; rfl
    · by_cases e : l = 1
      · subst e; rw [show bdR 2 1 true = (0, 0, 3) by simp [bdR, hm]]; rfl
      · rw [show bdR 2 l true = (2, l - 1, 2) by simp [bdR, hm, e]]
        exact decide_eq_true (by simp; omega)
set_option maxRecDepth 100000 in
set_option maxHeartbeats 4000000 in
theorem law0 (k n : Int) (l : List Bool) (h : k < 1 ∨ 8 < k ∨ n < 1 ∨ 8 < n ∨ 30 < l.length) (A : Option Addr) (c : Nat) (w : World) : Calls Tryd.prog 3 #[.int .i64 k, .int .i64 n, .slice A l.length c] w fun e w' => e = .returned (.bool true) ∧ Below w.heap.size w w' := by
  have hlen : (30 : Int) < (l.length : Int) ↔ 30 < l.length := by omega
  by_cases h1 : k < 1
  · go_enter Tryd.func3, Tryd.ntmps3
    go_wp2_with fail
    refine (awake _).mono ?_
    rintro e w1 ⟨rfl, b1⟩
    go_wp2
    go_ret
    exact ⟨rfl, b1⟩
  by_cases h2 : 8 < k
  · go_enter Tryd.func3, Tryd.ntmps3
    go_wp2_with fail
    refine (awake _).mono ?_
    rintro e w1 ⟨rfl, b1⟩
    go_wp2
    go_ret
    exact ⟨rfl, b1⟩
  by_cases h3 : n < 1
  · go_enter Tryd.func3, Tryd.ntmps3
    go_wp2_with fail
    refine (awake _).mono ?_
    rintro e w1 ⟨rfl, b1⟩
    go_wp2
    go_ret
    exact ⟨rfl, b1⟩
  by_cases h4 : 8 < n
  · go_enter Tryd.func3, Tryd.ntmps3
    go_wp2_with fail
    refine (awake _).mono ?_
    rintro e w1 ⟨rfl, b1⟩
    go_wp2
    go_ret
    exact ⟨rfl, b1⟩
  have h5 : (30 : Int) < (l.length : Int) := by omega
  go_enter Tryd.func3, Tryd.ntmps3
  go_wp2_with fail
  refine (awake _).mono ?_
  rintro e w1 ⟨rfl, b1⟩
  go_wp2
  go_ret
  exact ⟨rfl, b1⟩
set_option maxRecDepth 100000 in
set_option maxHeartbeats 4000000 in
theorem law1 (k n : Int) (l : List Bool) (h1 : ¬ k < 1) (h2 : ¬ 8 < k) (h3 : ¬ n < 1) (h4 : ¬ 8 < n) (h5 : ¬ (30 : Int) < (l.length : Int)) (A : Option Addr) (c : Nat) (w : World) (hr : Rd w A (bools l)) : Calls Tryd.prog 3 #[.int .i64 k, .int .i64 n, .slice A l.length c] w fun e w' => e = .returned (.bool true) ∧ Below w.heap.size w w' := by
  have C0 : cmR 0 0 k = (1, k, 0) := cm_start (by omega) (by omega)
  have C1 : cmR 0 0 n = (1, n, 0) := cm_start (by omega) (by omega)
  have C2 : ∀ a b, mayB a b = true → a ≠ 0 → cmR a b n = (0, 0, 270) := fun a b hm ha => cm_busy hm ha (by omega) (by omega)
  have H0 := Lib.hid C0; have H1 := Lib.hid C1; have H2 := Lib.hid C2; clear C0 C1 C2
  have M0 := Lib.hid (show mayB 1 k = true from decide_eq_true (by omega))
  go_enter Tryd.func3, Tryd.ntmps3
  go_wp2_with fail
  refine (awake _).mono ?_
  rintro e w1 ⟨rfl, b1⟩
  go_wp2_with fail
  refine (com_c 0 0 k 1 k 0 H0.out _).mono ?_
  rintro e w2 ⟨rfl, b2⟩
  have b3 : Below w.heap.size w (w2.alloc (.cells #[.int .u8 1, .int .i64 k] 25)) := (b1.trans (b2.mono b1.size)).alloc (by have := b1.size; have := b2.size; omega) _
  have K2 := Lib.hid (blk_new w2 #[.int .u8 1, .int .i64 k] 25)
  have z2 : w.heap.size ≤ w2.heap.size := by have := b1.size; have := b2.size; omega
  have B3 := Lib.hid b3; clear b1 b2 b3
  obtain ⟨g, hg⟩ : ∃ g, g = w2.heap.size := ⟨_, rfl⟩
  have zg : w.heap.size ≤ g := by omega
  go_wp2_with fail
  go_loopw [9] (fun i wr => ∃ (j : Nat) (a b : Int), j ≤ l.length + 1 ∧ i = .int .i64 j ∧ mayB a b = true ∧ wr.heap[w2.heap.size]? = some (.cells #[.int .u8 a, .int .i64 b] 25 (0, 0)) ∧ Below w.heap.size w wr) (fun i _ => l.length + 1 - (intOf i).toNat)
  case atStart => exact ⟨0, 1, k, Nat.zero_le _, rfl, M0.out, K2.out, B3.out⟩
  case round =>
    obtain ⟨j, a, b, hj, rfl, hm, hc, hb⟩ := hrel
    have HM := Lib.hid hm; have HC := Lib.hid hc; have HB := Lib.hid hb
    have c0 : wr.cell? ⟨w2.heap.size, 0, none⟩ = some (.int .u8 a) := blk_cell hc 0
    have c1 : wr.cell? ⟨w2.heap.size, 1, none⟩ = some (.int .i64 b) := blk_cell hc 1
    clear hm hc hb
    by_cases hjl : j ≤ l.length
    · have hji : (j : Int) ≤ (l.length : Int) := by omega
      by_cases ha : a = 0
      · obtain rfl : b = 0 := by
          rcases may_kind HM.out with ⟨_, h⟩ | ⟨h, _⟩
          · exact h
          · omega
        subst ha
        by_cases hjk : j < l.length
        · have hjm : (j : Int) < (l.length : Int) := by omega
          obtain ⟨x, hx⟩ : ∃ x, l[j]? = some x := ⟨l[j], List.getElem?_eq_getElem hjk⟩
          obtain ⟨hbk, ho, rfl, _⟩ := hr.addr (by rw [bools_length]; omega)
          have BD := boundary 0 0 x
          have bm := bd_may x HM.out
          generalize bdR 0 0 x = r at BD bm
          obtain ⟨r0, r1, r2⟩ := r
          simp only at BD bm
          have HBD := Lib.hid BD; have HM2 := Lib.hid bm; clear BD bm
          go_wp2_with fail
          refine (com_c 0 0 n 1 n 0 H1.out _).mono ?_
          rintro e w3 ⟨rfl, b3⟩
          have G3 := Lib.hid (blk_step HC.out b3)
          have BX : Below w.heap.size w (w3.alloc (.cells #[.int .u8 1, .int .i64 n] 25)) := (HB.out.trans (b3.mono HB.out.size)).alloc (by have := HB.out.size; have := b3.size; omega) _
          have GX : (w3.alloc (.cells #[.int .u8 1, .int .i64 n] 25)).heap[w2.heap.size]? = some (.cells #[.int .u8 0, .int .i64 0] 25 (0, 0)) := blk_alloc G3.out _
          have d0 : (w3.alloc (.cells #[.int .u8 1, .int .i64 n] 25)).cell? ⟨w2.heap.size, 0, none⟩ = some (.int .u8 0) := blk_cell GX 0
          have d1 : (w3.alloc (.cells #[.int .u8 1, .int .i64 n] 25)).cell? ⟨w2.heap.size, 1, none⟩ = some (.int .i64 0) := blk_cell GX 1
          have hc0 := (hr.below BX).cell (bools_at hx)
          have HBX := Lib.hid BX; have HGX := Lib.hid GX; clear BX GX hx
          go_wp2_with fail
          go_region_with (go_at_call 9; refine (HBD.out _).mono ?_; rintro e w4 ⟨rfl, b4⟩; have G4 := Lib.hid (blk_step (w0 := (w3.alloc (.cells #[.int .u8 1, .int .i64 n] 25)).drew) HGX.out b4); have f0 : w4.frozen? ⟨w2.heap.size, 0, none⟩ = false := blk_frozen G4.out 0; have f1 : w4.frozen? ⟨w2.heap.size, 1, none⟩ = false := blk_frozen G4.out 1; have k0 : w4.cell? ⟨w2.heap.size, 0, none⟩ = some (.int .u8 0) := blk_cell G4.out 0; have k1 : w4.cell? ⟨w2.heap.size, 1, none⟩ = some (.int .i64 0) := blk_cell G4.out 1; have B4 := Lib.hid (HBX.out.drew.trans (b4.mono HBX.out.size)); clear b4)
          all_goals (try go_wp2_with fail)
          all_goals go_roundw
          all_goals first | exact ⟨j + 1, r0, r1, by omega, by go_num, HM2.out, blk_eq (blk_set (blk_set G4.out _ _) _ _) rfl, (B4.out.setCell (by exact z2) _).setCell (by exact z2) _⟩ | (simp [intOf] <;> omega)
        · obtain rfl : j = l.length := by omega
          go_wp2_with fail
          refine (com_c 0 0 n 1 n 0 H1.out _).mono ?_
          rintro e w3 ⟨rfl, b3⟩
          have G3 := Lib.hid (blk_step HC.out b3)
          have BX : Below w.heap.size w (w3.alloc (.cells #[.int .u8 1, .int .i64 n] 25)) := (HB.out.trans (b3.mono HB.out.size)).alloc (by have := HB.out.size; have := b3.size; omega) _
          have GX : (w3.alloc (.cells #[.int .u8 1, .int .i64 n] 25)).heap[w2.heap.size]? = some (.cells #[.int .u8 0, .int .i64 0] 25 (0, 0)) := blk_alloc G3.out _
          have d0 : (w3.alloc (.cells #[.int .u8 1, .int .i64 n] 25)).cell? ⟨w2.heap.size, 0, none⟩ = some (.int .u8 0) := blk_cell GX 0
          have d1 : (w3.alloc (.cells #[.int .u8 1, .int .i64 n] 25)).cell? ⟨w2.heap.size, 1, none⟩ = some (.int .i64 0) := blk_cell GX 1
          have HBX := Lib.hid BX; have HGX := Lib.hid GX; clear BX GX
          go_wp2_with fail
          go_roundw
          case rel => exact ⟨l.length + 1, 0, 0, by omega, by go_num, HM.out, HGX.out, HBX.out⟩
          case measure => simp [intOf] <;> omega
      · have ha0 : (a == 0) = false := by simpa using ha
        by_cases hjk : j < l.length
        · have hjm : (j : Int) < (l.length : Int) := by omega
          obtain ⟨x, hx⟩ : ∃ x, l[j]? = some x := ⟨l[j], List.getElem?_eq_getElem hjk⟩
          obtain ⟨hbk, ho, rfl, _⟩ := hr.addr (by rw [bools_length]; omega)
          have BD := boundary a b x
          have bm := bd_may x HM.out
          generalize bdR a b x = r at BD bm
          obtain ⟨r0, r1, r2⟩ := r
          simp only at BD bm
          have HBD := Lib.hid BD; have HM2 := Lib.hid bm; clear BD bm
          go_wp2_with fail
          refine (com_c a b n 0 0 270 (H2.out a b HM.out ha) _).mono ?_
          rintro e w3 ⟨rfl, b3⟩
          have G3 := Lib.hid (blk_step HC.out b3)
          have BX : Below w.heap.size w (w3.alloc (.cells #[.int .u8 0, .int .i64 0] 25)) := (HB.out.trans (b3.mono HB.out.size)).alloc (by have := HB.out.size; have := b3.size; omega) _
          have GX : (w3.alloc (.cells #[.int .u8 0, .int .i64 0] 25)).heap[w2.heap.size]? = some (.cells #[.int .u8 a, .int .i64 b] 25 (0, 0)) := blk_alloc G3.out _
          have d0 : (w3.alloc (.cells #[.int .u8 0, .int .i64 0] 25)).cell? ⟨w2.heap.size, 0, none⟩ = some (.int .u8 a) := blk_cell GX 0
          have d1 : (w3.alloc (.cells #[.int .u8 0, .int .i64 0] 25)).cell? ⟨w2.heap.size, 1, none⟩ = some (.int .i64 b) := blk_cell GX 1
          have hc0 := (hr.below BX).cell (bools_at hx)
          have HBX := Lib.hid BX; have HGX := Lib.hid GX; clear BX GX hx
          go_wp2_with fail
          go_region_with (go_at_call 9; refine (HBD.out _).mono ?_; rintro e w4 ⟨rfl, b4⟩; have G4 := Lib.hid (blk_step (w0 := (w3.alloc (.cells #[.int .u8 0, .int .i64 0] 25)).drew) HGX.out b4); have f0 : w4.frozen? ⟨w2.heap.size, 0, none⟩ = false := blk_frozen G4.out 0; have f1 : w4.frozen? ⟨w2.heap.size, 1, none⟩ = false := blk_frozen G4.out 1; have k0 : w4.cell? ⟨w2.heap.size, 0, none⟩ = some (.int .u8 a) := blk_cell G4.out 0; have k1 : w4.cell? ⟨w2.heap.size, 1, none⟩ = some (.int .i64 b) := blk_cell G4.out 1; have B4 := Lib.hid (HBX.out.drew.trans (b4.mono HBX.out.size)); clear b4)
          all_goals (try go_wp2_with fail)
          all_goals go_roundw
          all_goals first | exact ⟨j + 1, r0, r1, by omega, by go_num, HM2.out, blk_eq (blk_set (blk_set G4.out _ _) _ _) rfl, (B4.out.setCell (by exact z2) _).setCell (by exact z2) _⟩ | (simp [intOf] <;> omega)
        · obtain rfl : j = l.length := by omega
          go_wp2_with fail
          refine (com_c a b n 0 0 270 (H2.out a b HM.out ha) _).mono ?_
          rintro e w3 ⟨rfl, b3⟩
          have G3 := Lib.hid (blk_step HC.out b3)
          have BX : Below w.heap.size w (w3.alloc (.cells #[.int .u8 0, .int .i64 0] 25)) := (HB.out.trans (b3.mono HB.out.size)).alloc (by have := HB.out.size; have := b3.size; omega) _
          have GX : (w3.alloc (.cells #[.int .u8 0, .int .i64 0] 25)).heap[w2.heap.size]? = some (.cells #[.int .u8 a, .int .i64 b] 25 (0, 0)) := blk_alloc G3.out _
          have d0 : (w3.alloc (.cells #[.int .u8 0, .int .i64 0] 25)).cell? ⟨w2.heap.size, 0, none⟩ = some (.int .u8 a) := blk_cell GX 0
          have d1 : (w3.alloc (.cells #[.int .u8 0, .int .i64 0] 25)).cell? ⟨w2.heap.size, 1, none⟩ = some (.int .i64 b) := blk_cell GX 1
          have HBX := Lib.hid BX; have HGX := Lib.hid GX; clear BX GX
          go_wp2_with fail
          go_roundw
          case rel => exact ⟨l.length + 1, a, b, by omega, by go_num, HM.out, HGX.out, HBX.out⟩
          case measure => simp [intOf] <;> omega
    · obtain rfl : j = l.length + 1 := by omega
      have hji : ¬ ((l.length : Int) + 1 ≤ (l.length : Int)) := by omega
      go_wp2_with fail
      go_ret
      exact ⟨rfl, HB.out⟩
theorem law (k n : Int) (l : List Bool) (A : Option Addr) (c : Nat) (w : World) (hr : Rd w A (bools l)) : Calls Tryd.prog 3 #[.int .i64 k, .int .i64 n, .slice A l.length c] w fun e w' => e = .returned (.bool true) ∧ Below w.heap.size w w' := by
  by_cases h : k < 1 ∨ 8 < k ∨ n < 1 ∨ 8 < n ∨ 30 < l.length
  · exact law0 k n l h A c w
  · exact law1 k n l (by omega) (by omega) (by omega) (by omega) (by omega) A c w hr
end Go.Proofs.YtojielokkpmjeaaDoor.trialBusy
