/- Regions: may one be, its end, has it a byte; no condition. -/
import Derived.Test.YtjliaojanmbicaaRows
import Derived.Test.YtjliaojanmbicaaLibOpen
namespace Go.Proofs.Ytjliaojanmbicaa.reg
open Go Go.ChangeShapes Go.WideShapes Go.ChangeAt Go.RowKit
abbrev Reg := Int × Int
def mayR (b s : Int) : Bool := decide (0 ≤ b ∧ b ≤ 4096 ∧ b % 4 = 0 ∧ s % 4 = 0 ∧ 16 ≤ s ∧ s ≤ 512 ∧ b + s ≤ 4096)
theorem mayR_iff {b s : Int} : mayR b s = true ↔ (0 ≤ b ∧ b ≤ 4096 ∧ b % 4 = 0 ∧ s % 4 = 0 ∧ 16 ≤ s ∧ s ≤ 512 ∧ b + s ≤ 4096) := by simp [mayR]
theorem mayR_no {b s : Int} (h : ¬ (0 ≤ b ∧ b ≤ 4096 ∧ b % 4 = 0 ∧ s % 4 = 0 ∧ 16 ≤ s ∧ s ≤ 512 ∧ b + s ≤ 4096)) : mayR b s = false := by simp only [mayR, decide_eq_false_iff_not]; exact h
def endR (b s : Int) : Int := if mayR b s = true then b + s else 0
def hasR (b s x : Int) : Bool := mayR b s && decide (b ≤ x ∧ x < b + s)
theorem tmod4 {s : Int} : (s.tmod 4 = 0) = (s % 4 = 0) := by
  have h1 := Int.dvd_iff_tmod_eq_zero (a := 4) (b := s)
  have h2 := Int.dvd_iff_emod_eq_zero (a := 4) (b := s)
  exact propext (h1.symm.trans h2)
theorem may_no0 (b s : Int) (h0 : ¬ 0 ≤ b) (w : World) : Calls Try.prog 37 #[.agg #[.int .i64 b, .int .i64 s]] w fun e w' => e = .returned (.bool false) ∧ Below w.heap.size w w' := by
  go_enter Try.func37, Try.ntmps37
  go_wp2
  go_ret
  exact ⟨rfl, (Below.refl _ _).alloc (Nat.le_refl _) _⟩
theorem may_no1 (b s : Int) (h0 : 0 ≤ b) (h1 : ¬ b ≤ 4096) (w : World) : Calls Try.prog 37 #[.agg #[.int .i64 b, .int .i64 s]] w fun e w' => e = .returned (.bool false) ∧ Below w.heap.size w w' := by
  go_enter Try.func37, Try.ntmps37
  go_wp2
  go_ret
  exact ⟨rfl, (Below.refl _ _).alloc (Nat.le_refl _) _⟩
theorem may_no2 (b s : Int) (h0 : 0 ≤ b) (h1 : b ≤ 4096) (h2 : ¬ b % 4 = 0) (w : World) : Calls Try.prog 37 #[.agg #[.int .i64 b, .int .i64 s]] w fun e w' => e = .returned (.bool false) ∧ Below w.heap.size w w' := by
  go_enter Try.func37, Try.ntmps37
  go_wp2
  go_ret
  exact ⟨rfl, (Below.refl _ _).alloc (Nat.le_refl _) _⟩
theorem may_no3 (b s : Int) (h0 : 0 ≤ b) (h1 : b ≤ 4096) (h2 : b % 4 = 0) (h3 : ¬ s % 4 = 0) (w : World) : Calls Try.prog 37 #[.agg #[.int .i64 b, .int .i64 s]] w fun e w' => e = .returned (.bool false) ∧ Below w.heap.size w w' := by
  have m4 : ¬ s.tmod 4 = 0 := by rw [tmod4]; exact h3
  go_enter Try.func37, Try.ntmps37
  go_wp2
  go_ret
  exact ⟨rfl, (Below.refl _ _).alloc (Nat.le_refl _) _⟩
theorem may_no4 (b s : Int) (h0 : 0 ≤ b) (h1 : b ≤ 4096) (h2 : b % 4 = 0) (h3 : s % 4 = 0) (h4 : ¬ 16 ≤ s) (w : World) : Calls Try.prog 37 #[.agg #[.int .i64 b, .int .i64 s]] w fun e w' => e = .returned (.bool false) ∧ Below w.heap.size w w' := by
  have m4 : s.tmod 4 = 0 := by rw [tmod4]; exact h3
  go_enter Try.func37, Try.ntmps37
  go_wp2
  go_ret
  exact ⟨rfl, (Below.refl _ _).alloc (Nat.le_refl _) _⟩
theorem may_no5 (b s : Int) (h0 : 0 ≤ b) (h1 : b ≤ 4096) (h2 : b % 4 = 0) (h3 : s % 4 = 0) (h4 : 16 ≤ s) (h5 : ¬ s ≤ 512) (w : World) : Calls Try.prog 37 #[.agg #[.int .i64 b, .int .i64 s]] w fun e w' => e = .returned (.bool false) ∧ Below w.heap.size w w' := by
  have m4 : s.tmod 4 = 0 := by rw [tmod4]; exact h3
  go_enter Try.func37, Try.ntmps37
  go_wp2
  go_ret
  exact ⟨rfl, (Below.refl _ _).alloc (Nat.le_refl _) _⟩
theorem may_no6 (b s : Int) (h0 : 0 ≤ b) (h1 : b ≤ 4096) (h2 : b % 4 = 0) (h3 : s % 4 = 0) (h4 : 16 ≤ s) (h5 : s ≤ 512) (h6 : ¬ b + s ≤ 4096) (w : World) : Calls Try.prog 37 #[.agg #[.int .i64 b, .int .i64 s]] w fun e w' => e = .returned (.bool false) ∧ Below w.heap.size w w' := by
  have m4 : s.tmod 4 = 0 := by rw [tmod4]; exact h3
  go_enter Try.func37, Try.ntmps37
  go_wp2
  go_ret
  exact ⟨rfl, (Below.refl _ _).alloc (Nat.le_refl _) _⟩
theorem may_yes (b s : Int) (h0 : 0 ≤ b) (h1 : b ≤ 4096) (h2 : b % 4 = 0) (h3 : s % 4 = 0) (h4 : 16 ≤ s) (h5 : s ≤ 512) (h6 : b + s ≤ 4096) (w : World) : Calls Try.prog 37 #[.agg #[.int .i64 b, .int .i64 s]] w fun e w' => e = .returned (.bool true) ∧ Below w.heap.size w w' := by
  have m4 : s.tmod 4 = 0 := by rw [tmod4]; exact h3
  go_enter Try.func37, Try.ntmps37
  go_wp2
  go_ret
  exact ⟨rfl, (Below.refl _ _).alloc (Nat.le_refl _) _⟩
theorem may (b s : Int) (w : World) : Calls Try.prog 37 #[.agg #[.int .i64 b, .int .i64 s]] w fun e w' => e = .returned (.bool (mayR b s)) ∧ Below w.heap.size w w' := by
  by_cases g0 : 0 ≤ b
  case neg => rw [mayR_no (by omega)]; exact may_no0 b s g0 w
  by_cases g1 : b ≤ 4096
  case neg => rw [mayR_no (by omega)]; exact may_no1 b s g0 g1 w
  by_cases g2 : b % 4 = 0
  case neg => rw [mayR_no (by omega)]; exact may_no2 b s g0 g1 g2 w
  by_cases g3 : s % 4 = 0
  case neg => rw [mayR_no (by omega)]; exact may_no3 b s g0 g1 g2 g3 w
  by_cases g4 : 16 ≤ s
  case neg => rw [mayR_no (by omega)]; exact may_no4 b s g0 g1 g2 g3 g4 w
  by_cases g5 : s ≤ 512
  case neg => rw [mayR_no (by omega)]; exact may_no5 b s g0 g1 g2 g3 g4 g5 w
  by_cases g6 : b + s ≤ 4096
  case neg => rw [mayR_no (by omega)]; exact may_no6 b s g0 g1 g2 g3 g4 g5 g6 w
  rw [mayR_iff.2 ⟨g0, g1, g2, g3, g4, g5, g6⟩]; exact may_yes b s g0 g1 g2 g3 g4 g5 g6 w
theorem rmay_no0 (b s : Int) (h0 : ¬ 16 ≤ s) (w : World) : Calls Try.prog 38 #[.agg #[.int .i64 b, .int .i64 s]] w fun e w' => e = .returned (.bool false) ∧ Below w.heap.size w w' := by
  go_enter Try.func38, Try.ntmps38
  go_wp2
  go_ret
  exact ⟨rfl, (Below.refl _ _).alloc (Nat.le_refl _) _⟩
theorem rmay_no1 (b s : Int) (h0 : 16 ≤ s) (h1 : ¬ s ≤ 512) (w : World) : Calls Try.prog 38 #[.agg #[.int .i64 b, .int .i64 s]] w fun e w' => e = .returned (.bool false) ∧ Below w.heap.size w w' := by
  go_enter Try.func38, Try.ntmps38
  go_wp2
  go_ret
  exact ⟨rfl, (Below.refl _ _).alloc (Nat.le_refl _) _⟩
theorem rmay_no2 (b s : Int) (h0 : 16 ≤ s) (h1 : s ≤ 512) (h2 : ¬ s % 4 = 0) (w : World) : Calls Try.prog 38 #[.agg #[.int .i64 b, .int .i64 s]] w fun e w' => e = .returned (.bool false) ∧ Below w.heap.size w w' := by
  go_enter Try.func38, Try.ntmps38
  go_wp2
  go_ret
  exact ⟨rfl, (Below.refl _ _).alloc (Nat.le_refl _) _⟩
theorem rmay_no3 (b s : Int) (h0 : 16 ≤ s) (h1 : s ≤ 512) (h2 : s % 4 = 0) (h3 : ¬ 0 ≤ b) (w : World) : Calls Try.prog 38 #[.agg #[.int .i64 b, .int .i64 s]] w fun e w' => e = .returned (.bool false) ∧ Below w.heap.size w w' := by
  go_enter Try.func38, Try.ntmps38
  go_wp2
  go_ret
  exact ⟨rfl, (Below.refl _ _).alloc (Nat.le_refl _) _⟩
theorem rmay_no4 (b s : Int) (h0 : 16 ≤ s) (h1 : s ≤ 512) (h2 : s % 4 = 0) (h3 : 0 ≤ b) (h4 : ¬ b % 4 = 0) (w : World) : Calls Try.prog 38 #[.agg #[.int .i64 b, .int .i64 s]] w fun e w' => e = .returned (.bool false) ∧ Below w.heap.size w w' := by
  go_enter Try.func38, Try.ntmps38
  go_wp2
  go_ret
  exact ⟨rfl, (Below.refl _ _).alloc (Nat.le_refl _) _⟩
theorem rmay_no5 (b s : Int) (h0 : 16 ≤ s) (h1 : s ≤ 512) (h2 : s % 4 = 0) (h3 : 0 ≤ b) (h4 : b % 4 = 0) (h5 : ¬ b ≤ 4096 - s) (w : World) : Calls Try.prog 38 #[.agg #[.int .i64 b, .int .i64 s]] w fun e w' => e = .returned (.bool false) ∧ Below w.heap.size w w' := by
  go_enter Try.func38, Try.ntmps38
  go_wp2
  go_ret
  exact ⟨rfl, (Below.refl _ _).alloc (Nat.le_refl _) _⟩
theorem rmay_yes (b s : Int) (h0 : 16 ≤ s) (h1 : s ≤ 512) (h2 : s % 4 = 0) (h3 : 0 ≤ b) (h4 : b % 4 = 0) (h5 : b ≤ 4096 - s) (w : World) : Calls Try.prog 38 #[.agg #[.int .i64 b, .int .i64 s]] w fun e w' => e = .returned (.bool true) ∧ Below w.heap.size w w' := by
  go_enter Try.func38, Try.ntmps38
  go_wp2
  go_ret
  exact ⟨rfl, (Below.refl _ _).alloc (Nat.le_refl _) _⟩
theorem rmay (b s : Int) (w : World) : Calls Try.prog 38 #[.agg #[.int .i64 b, .int .i64 s]] w fun e w' => e = .returned (.bool (mayR b s)) ∧ Below w.heap.size w w' := by
  by_cases g0 : 16 ≤ s
  case neg => rw [mayR_no (by omega)]; exact rmay_no0 b s g0 w
  by_cases g1 : s ≤ 512
  case neg => rw [mayR_no (by omega)]; exact rmay_no1 b s g0 g1 w
  by_cases g2 : s % 4 = 0
  case neg => rw [mayR_no (by omega)]; exact rmay_no2 b s g0 g1 g2 w
  by_cases g3 : 0 ≤ b
  case neg => rw [mayR_no (by omega)]; exact rmay_no3 b s g0 g1 g2 g3 w
  by_cases g4 : b % 4 = 0
  case neg => rw [mayR_no (by omega)]; exact rmay_no4 b s g0 g1 g2 g3 g4 w
  by_cases g5 : b ≤ 4096 - s
  case neg => rw [mayR_no (by omega)]; exact rmay_no5 b s g0 g1 g2 g3 g4 g5 w
  rw [mayR_iff.2 (by omega)]; exact rmay_yes b s g0 g1 g2 g3 g4 g5 w
theorem cell2 (w : World) (u v : Value) (T : TypeId) : (w.alloc (.cells #[u, v] T)).heap[w.heap.size]? = some (.cells #[u, v] T (0, 0)) := blk_new w _ _
theorem below_alloc {w w' : World} {o : Obj} (h : Below (w.alloc o).heap.size (w.alloc o) w') : Below w.heap.size w w' :=
  ((Below.refl _ _).alloc (Nat.le_refl _) o).trans (h.mono (by simp))
theorem end_no (b s : Int) (hm : mayR b s = false) (w : World) : Calls Try.prog 48 #[.agg #[.int .i64 b, .int .i64 s]] w fun e w' => e = .returned (.int .i64 0) ∧ Below w.heap.size w w' := by
  have T := Lib.hid (may b s); rw [hm] at T; clear hm
  go_enter Try.func48, Try.ntmps48
  go_wp2_with fail
  refine (T.out _).mono ?_
  rintro e w1 ⟨rfl, b1⟩
  have B1 := Lib.hid (below_alloc b1); clear b1
  go_wp2
  go_ret
  exact ⟨rfl, B1.out⟩
theorem end_yes (b s : Int) (hm : mayR b s = true) (w : World) : Calls Try.prog 48 #[.agg #[.int .i64 b, .int .i64 s]] w fun e w' => e = .returned (.int .i64 (b + s)) ∧ Below w.heap.size w w' := by
  have T := Lib.hid (may b s); rw [hm] at T
  obtain ⟨h0, h1, _, _, h4, h5, h6⟩ := mayR_iff.1 hm
  clear hm
  go_enter Try.func48, Try.ntmps48
  go_wp2_with fail
  refine (T.out _).mono ?_
  rintro e w1 ⟨rfl, b1⟩
  have hb := blk_below (cell2 w (.int .i64 b) (.int .i64 s) 52) b1 (by simp)
  have c0 := blk_cell hb 0; have c1 := blk_cell hb 1
  have B1 := Lib.hid (below_alloc b1); clear b1 hb
  go_wp2
  go_ret
  exact ⟨rfl, B1.out⟩
theorem endd (b s : Int) (w : World) : Calls Try.prog 48 #[.agg #[.int .i64 b, .int .i64 s]] w fun e w' => e = .returned (.int .i64 (endR b s)) ∧ Below w.heap.size w w' := by
  unfold endR
  by_cases h : mayR b s = true
  · rw [if_pos h]; exact end_yes b s h w
  · rw [if_neg h]; exact end_no b s (by simpa using h) w
theorem has_no (b s x : Int) (hm : mayR b s = false) (w : World) : Calls Try.prog 44 #[.agg #[.int .i64 b, .int .i64 s], .int .i64 x] w fun e w' => e = .returned (.bool false) ∧ Below w.heap.size w w' := by
  have T := Lib.hid (may b s); rw [hm] at T; clear hm
  go_enter Try.func44, Try.ntmps44
  go_wp2_with fail
  refine (T.out _).mono ?_
  rintro e w1 ⟨rfl, b1⟩
  have B1 := Lib.hid (below_alloc b1); clear b1
  go_wp2
  go_ret
  exact ⟨rfl, B1.out⟩
theorem has_low (b s x : Int) (hm : mayR b s = true) (hx : ¬ b ≤ x) (w : World) : Calls Try.prog 44 #[.agg #[.int .i64 b, .int .i64 s], .int .i64 x] w fun e w' => e = .returned (.bool false) ∧ Below w.heap.size w w' := by
  have T := Lib.hid (may b s); rw [hm] at T; clear hm
  go_enter Try.func44, Try.ntmps44
  go_wp2_with fail
  refine (T.out _).mono ?_
  rintro e w1 ⟨rfl, b1⟩
  have hb := blk_below (cell2 w (.int .i64 b) (.int .i64 s) 52) b1 (by simp)
  have c0 := blk_cell hb 0; have c1 := blk_cell hb 1
  have B1 := Lib.hid (below_alloc b1); clear b1 hb
  go_wp2
  go_ret
  exact ⟨rfl, B1.out⟩
theorem has_yes (b s x : Int) (hm : mayR b s = true) (hx : b ≤ x) (w : World) : Calls Try.prog 44 #[.agg #[.int .i64 b, .int .i64 s], .int .i64 x] w fun e w' => e = .returned (.bool (decide (x < b + s))) ∧ Below w.heap.size w w' := by
  have T := Lib.hid (may b s); rw [hm] at T
  have T2 := Lib.hid (end_yes b s hm)
  generalize b + s = z at *
  clear hm
  go_enter Try.func44, Try.ntmps44
  go_wp2_with fail
  refine (T.out _).mono ?_
  rintro e w1 ⟨rfl, b1⟩
  have hb := blk_below (cell2 w (.int .i64 b) (.int .i64 s) 52) b1 (by simp)
  have c0 := blk_cell hb 0; have c1 := blk_cell hb 1
  have B1 := Lib.hid (below_alloc b1); clear b1 hb
  go_wp2_with fail
  refine (T2.out _).mono ?_
  rintro e w2 ⟨rfl, b2⟩
  have B2 := Lib.hid (B1.out.trans (b2.mono B1.out.size)); clear b2
  go_wp2
  go_ret
  exact ⟨rfl, B2.out⟩
theorem has (b s x : Int) (w : World) : Calls Try.prog 44 #[.agg #[.int .i64 b, .int .i64 s], .int .i64 x] w fun e w' => e = .returned (.bool (hasR b s x)) ∧ Below w.heap.size w w' := by
  unfold hasR
  by_cases h : mayR b s = true
  · by_cases hx : b ≤ x
    · rw [h, show (true && decide (b ≤ x ∧ x < b + s)) = decide (x < b + s) by simp [hx]]; exact has_yes b s x h hx w
    · rw [h, show (true && decide (b ≤ x ∧ x < b + s)) = false by simp; omega]; exact has_low b s x h hx w
  · have h' : mayR b s = false := by simpa using h
    rw [h', Bool.false_and]; exact has_no b s x h' w
theorem rhas_no (b s x : Int) (hm : mayR b s = false) (w : World) : Calls Try.prog 50 #[.agg #[.int .i64 b, .int .i64 s], .int .i64 x] w fun e w' => e = .returned (.bool false) ∧ Below w.heap.size w w' := by
  have T := Lib.hid (rmay b s); rw [hm] at T; clear hm
  go_enter Try.func50, Try.ntmps50
  go_wp2_with fail
  refine (T.out _).mono ?_
  rintro e w1 ⟨rfl, b1⟩
  have B1 := Lib.hid (below_alloc b1); clear b1
  go_wp2
  go_ret
  exact ⟨rfl, B1.out⟩
theorem rhas_low (b s x : Int) (hm : mayR b s = true) (hx : ¬ b ≤ x) (w : World) : Calls Try.prog 50 #[.agg #[.int .i64 b, .int .i64 s], .int .i64 x] w fun e w' => e = .returned (.bool false) ∧ Below w.heap.size w w' := by
  have T := Lib.hid (rmay b s); rw [hm] at T; clear hm
  go_enter Try.func50, Try.ntmps50
  go_wp2_with fail
  refine (T.out _).mono ?_
  rintro e w1 ⟨rfl, b1⟩
  have hb := blk_below (cell2 w (.int .i64 b) (.int .i64 s) 52) b1 (by simp)
  have c0 := blk_cell hb 0; have c1 := blk_cell hb 1
  have B1 := Lib.hid (below_alloc b1); clear b1 hb
  go_wp2
  go_ret
  exact ⟨rfl, B1.out⟩
theorem rhas_yes (b s x : Int) (hm : mayR b s = true) (hx : b ≤ x) (hx2 : x ≤ 9223372036854775807) (w : World) : Calls Try.prog 50 #[.agg #[.int .i64 b, .int .i64 s], .int .i64 x] w fun e w' => e = .returned (.bool (decide (x < b + s))) ∧ Below w.heap.size w w' := by
  have T := Lib.hid (rmay b s); rw [hm] at T
  obtain ⟨h0, h1, _, _, h4, h5, h6⟩ := mayR_iff.1 hm
  have hd : (decide (x < b + s)) = decide (x - b < s) := by rw [decide_eq_decide]; omega
  rw [hd]
  clear hm hd
  go_enter Try.func50, Try.ntmps50
  go_wp2_with fail
  refine (T.out _).mono ?_
  rintro e w1 ⟨rfl, b1⟩
  have hb := blk_below (cell2 w (.int .i64 b) (.int .i64 s) 52) b1 (by simp)
  have c0 := blk_cell hb 0; have c1 := blk_cell hb 1
  have B1 := Lib.hid (below_alloc b1); clear b1 hb
  go_wp2
  go_ret
  exact ⟨rfl, B1.out⟩
theorem rhas (b s x : Int) (hx2 : x ≤ 9223372036854775807) (w : World) : Calls Try.prog 50 #[.agg #[.int .i64 b, .int .i64 s], .int .i64 x] w fun e w' => e = .returned (.bool (hasR b s x)) ∧ Below w.heap.size w w' := by
  unfold hasR
  by_cases h : mayR b s = true
  · by_cases hx : b ≤ x
    · rw [h, show (true && decide (b ≤ x ∧ x < b + s)) = decide (x < b + s) by simp [hx]]; exact rhas_yes b s x h hx hx2 w
    · rw [h, show (true && decide (b ≤ x ∧ x < b + s)) = false by simp; omega]; exact rhas_low b s x h hx w
  · have h' : mayR b s = false := by simpa using h
    rw [h', Bool.false_and]; exact rhas_no b s x h' w
end Go.Proofs.Ytjliaojanmbicaa.reg
