/- Channels: may one be; no condition. -/
import Derived.Test.YtlmecndldclnnaaRows
import Derived.Test.YtlmecndldclnnaaLibOpen
namespace Go.Proofs.Ytlmecndldclnnaa.chan
open Go Go.ChangeShapes Go.WideShapes Go.ChangeAt Go.RowKit
structure Ch where
  id : Int
  fr : Int
  to : Int
  cap : Int
  sz : Int
deriving DecidableEq
def Ch.cells (c : Ch) : List Value := [.int .i64 c.id, .int .i64 c.fr, .int .i64 c.to, .int .i64 c.cap, .int .i64 c.sz]
def mayC (c : Ch) : Bool := decide (1 ≤ c.id ∧ c.id ≤ 8 ∧ (1 ≤ c.fr ∧ c.fr ≤ 6) ∧ (1 ≤ c.to ∧ c.to ≤ 6) ∧ ¬ c.fr = c.to ∧ 1 ≤ c.cap ∧ c.cap ≤ 4 ∧ 1 ≤ c.sz ∧ c.sz ≤ 16)
theorem mayC_iff {c : Ch} : mayC c = true ↔ (1 ≤ c.id ∧ c.id ≤ 8 ∧ (1 ≤ c.fr ∧ c.fr ≤ 6) ∧ (1 ≤ c.to ∧ c.to ≤ 6) ∧ ¬ c.fr = c.to ∧ 1 ≤ c.cap ∧ c.cap ≤ 4 ∧ 1 ≤ c.sz ∧ c.sz ≤ 16) := by simp [mayC]
theorem mayC_no {c : Ch} (h : ¬ (1 ≤ c.id ∧ c.id ≤ 8 ∧ (1 ≤ c.fr ∧ c.fr ≤ 6) ∧ (1 ≤ c.to ∧ c.to ≤ 6) ∧ ¬ c.fr = c.to ∧ 1 ≤ c.cap ∧ c.cap ≤ 4 ∧ 1 ≤ c.sz ∧ c.sz ≤ 16)) : mayC c = false := by simp only [mayC, decide_eq_false_iff_not]; exact h
theorem part_y (n : Int) (h0 : 1 ≤ n) (h1 : n ≤ 6) (w : World) : Calls Try.prog 34 #[.int .i64 n] w fun e w' => e = .returned (.bool true) ∧ w = w' := by
  go_enter Try.func34, Try.ntmps34
  go_wp2
  go_ret
  exact ⟨rfl, rfl⟩
theorem part_n0 (n : Int) (h0 : ¬ 1 ≤ n) (w : World) : Calls Try.prog 34 #[.int .i64 n] w fun e w' => e = .returned (.bool false) ∧ w = w' := by
  go_enter Try.func34, Try.ntmps34
  go_wp2
  go_ret
  exact ⟨rfl, rfl⟩
theorem part_n1 (n : Int) (h0 : 1 ≤ n) (h1 : ¬ n ≤ 6) (w : World) : Calls Try.prog 34 #[.int .i64 n] w fun e w' => e = .returned (.bool false) ∧ w = w' := by
  go_enter Try.func34, Try.ntmps34
  go_wp2
  go_ret
  exact ⟨rfl, rfl⟩
theorem part (n : Int) (v : Bool) (h : decide (1 ≤ n ∧ n ≤ 6) = v) (w : World) : Calls Try.prog 34 #[.int .i64 n] w fun e w' => e = .returned (.bool v) ∧ w = w' := by
  subst h
  by_cases h0 : 1 ≤ n
  · by_cases h1 : n ≤ 6
    · rw [decide_eq_true ⟨h0, h1⟩]; exact part_y n h0 h1 w
    · rw [decide_eq_false (fun h => h1 h.2)]; exact part_n1 n h0 h1 w
  · rw [decide_eq_false (fun h => h0 h.1)]; exact part_n0 n h0 w
theorem in_y (n a b : Int) (h0 : a ≤ n) (h1 : n ≤ b) (w : World) : Calls Try.prog 33 #[.int .i64 n, .int .i64 a, .int .i64 b] w fun e w' => e = .returned (.bool true) ∧ w = w' := by
  go_enter Try.func33, Try.ntmps33
  go_wp2
  go_ret
  exact ⟨rfl, rfl⟩
theorem in_n0 (n a b : Int) (h0 : ¬ a ≤ n) (w : World) : Calls Try.prog 33 #[.int .i64 n, .int .i64 a, .int .i64 b] w fun e w' => e = .returned (.bool false) ∧ w = w' := by
  go_enter Try.func33, Try.ntmps33
  go_wp2
  go_ret
  exact ⟨rfl, rfl⟩
theorem in_n1 (n a b : Int) (h0 : a ≤ n) (h1 : ¬ n ≤ b) (w : World) : Calls Try.prog 33 #[.int .i64 n, .int .i64 a, .int .i64 b] w fun e w' => e = .returned (.bool false) ∧ w = w' := by
  go_enter Try.func33, Try.ntmps33
  go_wp2
  go_ret
  exact ⟨rfl, rfl⟩
theorem inn (n a b : Int) (v : Bool) (h : decide (a ≤ n ∧ n ≤ b) = v) (w : World) : Calls Try.prog 33 #[.int .i64 n, .int .i64 a, .int .i64 b] w fun e w' => e = .returned (.bool v) ∧ w = w' := by
  subst h
  by_cases h0 : a ≤ n
  · by_cases h1 : n ≤ b
    · rw [decide_eq_true ⟨h0, h1⟩]; exact in_y n a b h0 h1 w
    · rw [decide_eq_false (fun h => h1 h.2)]; exact in_n1 n a b h0 h1 w
  · rw [decide_eq_false (fun h => h0 h.1)]; exact in_n0 n a b h0 w
theorem may_no0 (i f t c s : Int) (h0 : ¬ 1 ≤ i) (w : World) : Calls Try.prog 25 #[.agg #[.int .i64 i, .int .i64 f, .int .i64 t, .int .i64 c, .int .i64 s]] w fun e w' => e = .returned (.bool false) ∧ Below w.heap.size w w' := by
  go_enter Try.func25, Try.ntmps25
  go_wp2
  go_ret
  exact ⟨rfl, (Below.refl _ _).alloc (Nat.le_refl _) _⟩
theorem may_no1 (i f t c s : Int) (h0 : 1 ≤ i) (h1 : ¬ i ≤ 8) (w : World) : Calls Try.prog 25 #[.agg #[.int .i64 i, .int .i64 f, .int .i64 t, .int .i64 c, .int .i64 s]] w fun e w' => e = .returned (.bool false) ∧ Below w.heap.size w w' := by
  go_enter Try.func25, Try.ntmps25
  go_wp2
  go_ret
  exact ⟨rfl, (Below.refl _ _).alloc (Nat.le_refl _) _⟩
theorem may_no2 (i f t c s : Int) (h0 : 1 ≤ i) (h1 : i ≤ 8) (h2 : ¬ (1 ≤ f ∧ f ≤ 6)) (w : World) : Calls Try.prog 25 #[.agg #[.int .i64 i, .int .i64 f, .int .i64 t, .int .i64 c, .int .i64 s]] w fun e w' => e = .returned (.bool false) ∧ Below w.heap.size w w' := by
  have H2 := Lib.hid h2; clear h2
  go_enter Try.func25, Try.ntmps25
  go_wp2_with fail
  refine (part f false (by first | exact decide_eq_true H2.out | exact decide_eq_false H2.out) _).mono ?_
  rintro e w' ⟨rfl, rfl⟩
  go_wp2
  go_ret
  exact ⟨rfl, (Below.refl _ _).alloc (Nat.le_refl _) _⟩
theorem may_no3 (i f t c s : Int) (h0 : 1 ≤ i) (h1 : i ≤ 8) (h2 : 1 ≤ f ∧ f ≤ 6) (h3 : ¬ (1 ≤ t ∧ t ≤ 6)) (w : World) : Calls Try.prog 25 #[.agg #[.int .i64 i, .int .i64 f, .int .i64 t, .int .i64 c, .int .i64 s]] w fun e w' => e = .returned (.bool false) ∧ Below w.heap.size w w' := by
  have H2 := Lib.hid h2; clear h2
  have H3 := Lib.hid h3; clear h3
  go_enter Try.func25, Try.ntmps25
  go_wp2_with fail
  refine (part f true (by first | exact decide_eq_true H2.out | exact decide_eq_false H2.out) _).mono ?_
  rintro e w' ⟨rfl, rfl⟩
  go_wp2_with fail
  refine (part t false (by first | exact decide_eq_true H3.out | exact decide_eq_false H3.out) _).mono ?_
  rintro e w' ⟨rfl, rfl⟩
  go_wp2
  go_ret
  exact ⟨rfl, (Below.refl _ _).alloc (Nat.le_refl _) _⟩
theorem may_no4 (i f t c s : Int) (h0 : 1 ≤ i) (h1 : i ≤ 8) (h2 : 1 ≤ f ∧ f ≤ 6) (h3 : 1 ≤ t ∧ t ≤ 6) (h4 : ¬ (¬ f = t)) (w : World) : Calls Try.prog 25 #[.agg #[.int .i64 i, .int .i64 f, .int .i64 t, .int .i64 c, .int .i64 s]] w fun e w' => e = .returned (.bool false) ∧ Below w.heap.size w w' := by
  have hb4 : (f == t) = true := by simpa using h4
  have hc4 : (f != t) = false := by simpa using h4
  have H2 := Lib.hid h2; clear h2
  have H3 := Lib.hid h3; clear h3
  go_enter Try.func25, Try.ntmps25
  go_wp2_with fail
  refine (part f true (by first | exact decide_eq_true H2.out | exact decide_eq_false H2.out) _).mono ?_
  rintro e w' ⟨rfl, rfl⟩
  go_wp2_with fail
  refine (part t true (by first | exact decide_eq_true H3.out | exact decide_eq_false H3.out) _).mono ?_
  rintro e w' ⟨rfl, rfl⟩
  go_wp2
  go_ret
  exact ⟨rfl, (Below.refl _ _).alloc (Nat.le_refl _) _⟩
theorem may_no5 (i f t c s : Int) (h0 : 1 ≤ i) (h1 : i ≤ 8) (h2 : 1 ≤ f ∧ f ≤ 6) (h3 : 1 ≤ t ∧ t ≤ 6) (h4 : ¬ f = t) (h5 : ¬ 1 ≤ c) (w : World) : Calls Try.prog 25 #[.agg #[.int .i64 i, .int .i64 f, .int .i64 t, .int .i64 c, .int .i64 s]] w fun e w' => e = .returned (.bool false) ∧ Below w.heap.size w w' := by
  have hb4 : (f == t) = false := by simpa using h4
  have hc4 : (f != t) = true := by simpa using h4
  have H2 := Lib.hid h2; clear h2
  have H3 := Lib.hid h3; clear h3
  go_enter Try.func25, Try.ntmps25
  go_wp2_with fail
  refine (part f true (by first | exact decide_eq_true H2.out | exact decide_eq_false H2.out) _).mono ?_
  rintro e w' ⟨rfl, rfl⟩
  go_wp2_with fail
  refine (part t true (by first | exact decide_eq_true H3.out | exact decide_eq_false H3.out) _).mono ?_
  rintro e w' ⟨rfl, rfl⟩
  go_wp2
  go_ret
  exact ⟨rfl, (Below.refl _ _).alloc (Nat.le_refl _) _⟩
theorem may_no6 (i f t c s : Int) (h0 : 1 ≤ i) (h1 : i ≤ 8) (h2 : 1 ≤ f ∧ f ≤ 6) (h3 : 1 ≤ t ∧ t ≤ 6) (h4 : ¬ f = t) (h5 : 1 ≤ c) (h6 : ¬ c ≤ 4) (w : World) : Calls Try.prog 25 #[.agg #[.int .i64 i, .int .i64 f, .int .i64 t, .int .i64 c, .int .i64 s]] w fun e w' => e = .returned (.bool false) ∧ Below w.heap.size w w' := by
  have hb4 : (f == t) = false := by simpa using h4
  have hc4 : (f != t) = true := by simpa using h4
  have H2 := Lib.hid h2; clear h2
  have H3 := Lib.hid h3; clear h3
  go_enter Try.func25, Try.ntmps25
  go_wp2_with fail
  refine (part f true (by first | exact decide_eq_true H2.out | exact decide_eq_false H2.out) _).mono ?_
  rintro e w' ⟨rfl, rfl⟩
  go_wp2_with fail
  refine (part t true (by first | exact decide_eq_true H3.out | exact decide_eq_false H3.out) _).mono ?_
  rintro e w' ⟨rfl, rfl⟩
  go_wp2
  go_ret
  exact ⟨rfl, (Below.refl _ _).alloc (Nat.le_refl _) _⟩
theorem may_no7 (i f t c s : Int) (h0 : 1 ≤ i) (h1 : i ≤ 8) (h2 : 1 ≤ f ∧ f ≤ 6) (h3 : 1 ≤ t ∧ t ≤ 6) (h4 : ¬ f = t) (h5 : 1 ≤ c) (h6 : c ≤ 4) (h7 : ¬ 1 ≤ s) (w : World) : Calls Try.prog 25 #[.agg #[.int .i64 i, .int .i64 f, .int .i64 t, .int .i64 c, .int .i64 s]] w fun e w' => e = .returned (.bool false) ∧ Below w.heap.size w w' := by
  have hb4 : (f == t) = false := by simpa using h4
  have hc4 : (f != t) = true := by simpa using h4
  have H2 := Lib.hid h2; clear h2
  have H3 := Lib.hid h3; clear h3
  go_enter Try.func25, Try.ntmps25
  go_wp2_with fail
  refine (part f true (by first | exact decide_eq_true H2.out | exact decide_eq_false H2.out) _).mono ?_
  rintro e w' ⟨rfl, rfl⟩
  go_wp2_with fail
  refine (part t true (by first | exact decide_eq_true H3.out | exact decide_eq_false H3.out) _).mono ?_
  rintro e w' ⟨rfl, rfl⟩
  go_wp2
  go_ret
  exact ⟨rfl, (Below.refl _ _).alloc (Nat.le_refl _) _⟩
theorem may_no8 (i f t c s : Int) (h0 : 1 ≤ i) (h1 : i ≤ 8) (h2 : 1 ≤ f ∧ f ≤ 6) (h3 : 1 ≤ t ∧ t ≤ 6) (h4 : ¬ f = t) (h5 : 1 ≤ c) (h6 : c ≤ 4) (h7 : 1 ≤ s) (h8 : ¬ s ≤ 16) (w : World) : Calls Try.prog 25 #[.agg #[.int .i64 i, .int .i64 f, .int .i64 t, .int .i64 c, .int .i64 s]] w fun e w' => e = .returned (.bool false) ∧ Below w.heap.size w w' := by
  have hb4 : (f == t) = false := by simpa using h4
  have hc4 : (f != t) = true := by simpa using h4
  have hd : decide (s ≤ 16) = false := decide_eq_false h8
  have H2 := Lib.hid h2; clear h2
  have H3 := Lib.hid h3; clear h3
  go_enter Try.func25, Try.ntmps25
  go_wp2_with fail
  refine (part f true (by first | exact decide_eq_true H2.out | exact decide_eq_false H2.out) _).mono ?_
  rintro e w' ⟨rfl, rfl⟩
  go_wp2_with fail
  refine (part t true (by first | exact decide_eq_true H3.out | exact decide_eq_false H3.out) _).mono ?_
  rintro e w' ⟨rfl, rfl⟩
  go_wp2
  go_ret
  exact ⟨rfl, (Below.refl _ _).alloc (Nat.le_refl _) _⟩
theorem may_yes (i f t c s : Int) (h0 : 1 ≤ i) (h1 : i ≤ 8) (h2 : 1 ≤ f ∧ f ≤ 6) (h3 : 1 ≤ t ∧ t ≤ 6) (h4 : ¬ f = t) (h5 : 1 ≤ c) (h6 : c ≤ 4) (h7 : 1 ≤ s) (h8 : s ≤ 16) (w : World) : Calls Try.prog 25 #[.agg #[.int .i64 i, .int .i64 f, .int .i64 t, .int .i64 c, .int .i64 s]] w fun e w' => e = .returned (.bool true) ∧ Below w.heap.size w w' := by
  have hb4 : (f == t) = false := by simpa using h4
  have hc4 : (f != t) = true := by simpa using h4
  have H2 := Lib.hid h2; clear h2
  have H3 := Lib.hid h3; clear h3
  go_enter Try.func25, Try.ntmps25
  go_wp2_with fail
  refine (part f true (by first | exact decide_eq_true H2.out | exact decide_eq_false H2.out) _).mono ?_
  rintro e w' ⟨rfl, rfl⟩
  go_wp2_with fail
  refine (part t true (by first | exact decide_eq_true H3.out | exact decide_eq_false H3.out) _).mono ?_
  rintro e w' ⟨rfl, rfl⟩
  go_wp2
  go_ret
  exact ⟨rfl, (Below.refl _ _).alloc (Nat.le_refl _) _⟩
theorem may (x : Ch) (w : World) : Calls Try.prog 25 #[.agg x.cells.toArray] w fun e w' => e = .returned (.bool (mayC x)) ∧ Below w.heap.size w w' := by
  obtain ⟨i, f, t, c, s⟩ := x
  show Calls Try.prog 25 #[.agg #[.int .i64 i, .int .i64 f, .int .i64 t, .int .i64 c, .int .i64 s]] w _
  by_cases g0 : 1 ≤ i
  case neg => rw [mayC_no (by simp only; omega)]; exact may_no0 i f t c s g0 w
  by_cases g1 : i ≤ 8
  case neg => rw [mayC_no (by simp only; omega)]; exact may_no1 i f t c s g0 g1 w
  by_cases g2 : 1 ≤ f ∧ f ≤ 6
  case neg => rw [mayC_no (by simp only; omega)]; exact may_no2 i f t c s g0 g1 g2 w
  by_cases g3 : 1 ≤ t ∧ t ≤ 6
  case neg => rw [mayC_no (by simp only; omega)]; exact may_no3 i f t c s g0 g1 g2 g3 w
  by_cases g4 : ¬ f = t
  case neg => rw [mayC_no (by simp only; omega)]; exact may_no4 i f t c s g0 g1 g2 g3 g4 w
  by_cases g5 : 1 ≤ c
  case neg => rw [mayC_no (by simp only; omega)]; exact may_no5 i f t c s g0 g1 g2 g3 g4 g5 w
  by_cases g6 : c ≤ 4
  case neg => rw [mayC_no (by simp only; omega)]; exact may_no6 i f t c s g0 g1 g2 g3 g4 g5 g6 w
  by_cases g7 : 1 ≤ s
  case neg => rw [mayC_no (by simp only; omega)]; exact may_no7 i f t c s g0 g1 g2 g3 g4 g5 g6 g7 w
  by_cases g8 : s ≤ 16
  case neg => rw [mayC_no (by simp only; omega)]; exact may_no8 i f t c s g0 g1 g2 g3 g4 g5 g6 g7 g8 w
  rw [mayC_iff.2 (by simp only; omega)]; exact may_yes i f t c s g0 g1 g2 g3 g4 g5 g6 g7 g8 w
theorem rmay_no0 (i f t c s : Int) (h0 : ¬ (1 ≤ i ∧ i ≤ 8)) (w : World) : Calls Try.prog 22 #[.agg #[.int .i64 i, .int .i64 f, .int .i64 t, .int .i64 c, .int .i64 s]] w fun e w' => e = .returned (.bool false) ∧ Below w.heap.size w w' := by
  have H0 := Lib.hid h0; clear h0
  go_enter Try.func22, Try.ntmps22
  go_wp2_with fail
  refine (inn i 1 8 false (by first | exact decide_eq_true H0.out | exact decide_eq_false H0.out) _).mono ?_
  rintro e w' ⟨rfl, rfl⟩
  go_wp2
  go_ret
  exact ⟨rfl, (Below.refl _ _).alloc (Nat.le_refl _) _⟩
theorem rmay_no1 (i f t c s : Int) (h0 : 1 ≤ i ∧ i ≤ 8) (h1 : ¬ (1 ≤ f ∧ f ≤ 6)) (w : World) : Calls Try.prog 22 #[.agg #[.int .i64 i, .int .i64 f, .int .i64 t, .int .i64 c, .int .i64 s]] w fun e w' => e = .returned (.bool false) ∧ Below w.heap.size w w' := by
  have H0 := Lib.hid h0; clear h0
  have H1 := Lib.hid h1; clear h1
  go_enter Try.func22, Try.ntmps22
  go_wp2_with fail
  refine (inn i 1 8 true (by first | exact decide_eq_true H0.out | exact decide_eq_false H0.out) _).mono ?_
  rintro e w' ⟨rfl, rfl⟩
  go_wp2_with fail
  refine (inn f 1 6 false (by first | exact decide_eq_true H1.out | exact decide_eq_false H1.out) _).mono ?_
  rintro e w' ⟨rfl, rfl⟩
  go_wp2
  go_ret
  exact ⟨rfl, (Below.refl _ _).alloc (Nat.le_refl _) _⟩
theorem rmay_no2 (i f t c s : Int) (h0 : 1 ≤ i ∧ i ≤ 8) (h1 : 1 ≤ f ∧ f ≤ 6) (h2 : ¬ (1 ≤ t ∧ t ≤ 6)) (w : World) : Calls Try.prog 22 #[.agg #[.int .i64 i, .int .i64 f, .int .i64 t, .int .i64 c, .int .i64 s]] w fun e w' => e = .returned (.bool false) ∧ Below w.heap.size w w' := by
  have H0 := Lib.hid h0; clear h0
  have H1 := Lib.hid h1; clear h1
  have H2 := Lib.hid h2; clear h2
  go_enter Try.func22, Try.ntmps22
  go_wp2_with fail
  refine (inn i 1 8 true (by first | exact decide_eq_true H0.out | exact decide_eq_false H0.out) _).mono ?_
  rintro e w' ⟨rfl, rfl⟩
  go_wp2_with fail
  refine (inn f 1 6 true (by first | exact decide_eq_true H1.out | exact decide_eq_false H1.out) _).mono ?_
  rintro e w' ⟨rfl, rfl⟩
  go_wp2_with fail
  refine (inn t 1 6 false (by first | exact decide_eq_true H2.out | exact decide_eq_false H2.out) _).mono ?_
  rintro e w' ⟨rfl, rfl⟩
  go_wp2
  go_ret
  exact ⟨rfl, (Below.refl _ _).alloc (Nat.le_refl _) _⟩
theorem rmay_no3 (i f t c s : Int) (h0 : 1 ≤ i ∧ i ≤ 8) (h1 : 1 ≤ f ∧ f ≤ 6) (h2 : 1 ≤ t ∧ t ≤ 6) (h3 : ¬ (¬ f = t)) (w : World) : Calls Try.prog 22 #[.agg #[.int .i64 i, .int .i64 f, .int .i64 t, .int .i64 c, .int .i64 s]] w fun e w' => e = .returned (.bool false) ∧ Below w.heap.size w w' := by
  have hb3 : (f == t) = true := by simpa using h3
  have hc3 : (f != t) = false := by simpa using h3
  have H0 := Lib.hid h0; clear h0
  have H1 := Lib.hid h1; clear h1
  have H2 := Lib.hid h2; clear h2
  go_enter Try.func22, Try.ntmps22
  go_wp2_with fail
  refine (inn i 1 8 true (by first | exact decide_eq_true H0.out | exact decide_eq_false H0.out) _).mono ?_
  rintro e w' ⟨rfl, rfl⟩
  go_wp2_with fail
  refine (inn f 1 6 true (by first | exact decide_eq_true H1.out | exact decide_eq_false H1.out) _).mono ?_
  rintro e w' ⟨rfl, rfl⟩
  go_wp2_with fail
  refine (inn t 1 6 true (by first | exact decide_eq_true H2.out | exact decide_eq_false H2.out) _).mono ?_
  rintro e w' ⟨rfl, rfl⟩
  go_wp2
  go_ret
  exact ⟨rfl, (Below.refl _ _).alloc (Nat.le_refl _) _⟩
theorem rmay_no4 (i f t c s : Int) (h0 : 1 ≤ i ∧ i ≤ 8) (h1 : 1 ≤ f ∧ f ≤ 6) (h2 : 1 ≤ t ∧ t ≤ 6) (h3 : ¬ f = t) (h4 : ¬ (1 ≤ c ∧ c ≤ 4)) (w : World) : Calls Try.prog 22 #[.agg #[.int .i64 i, .int .i64 f, .int .i64 t, .int .i64 c, .int .i64 s]] w fun e w' => e = .returned (.bool false) ∧ Below w.heap.size w w' := by
  have hb3 : (f == t) = false := by simpa using h3
  have hc3 : (f != t) = true := by simpa using h3
  have H0 := Lib.hid h0; clear h0
  have H1 := Lib.hid h1; clear h1
  have H2 := Lib.hid h2; clear h2
  have H4 := Lib.hid h4; clear h4
  go_enter Try.func22, Try.ntmps22
  go_wp2_with fail
  refine (inn i 1 8 true (by first | exact decide_eq_true H0.out | exact decide_eq_false H0.out) _).mono ?_
  rintro e w' ⟨rfl, rfl⟩
  go_wp2_with fail
  refine (inn f 1 6 true (by first | exact decide_eq_true H1.out | exact decide_eq_false H1.out) _).mono ?_
  rintro e w' ⟨rfl, rfl⟩
  go_wp2_with fail
  refine (inn t 1 6 true (by first | exact decide_eq_true H2.out | exact decide_eq_false H2.out) _).mono ?_
  rintro e w' ⟨rfl, rfl⟩
  go_wp2_with fail
  refine (inn c 1 4 false (by first | exact decide_eq_true H4.out | exact decide_eq_false H4.out) _).mono ?_
  rintro e w' ⟨rfl, rfl⟩
  go_wp2
  go_ret
  exact ⟨rfl, (Below.refl _ _).alloc (Nat.le_refl _) _⟩
theorem rmay_no5 (i f t c s : Int) (h0 : 1 ≤ i ∧ i ≤ 8) (h1 : 1 ≤ f ∧ f ≤ 6) (h2 : 1 ≤ t ∧ t ≤ 6) (h3 : ¬ f = t) (h4 : 1 ≤ c ∧ c ≤ 4) (h5 : ¬ (1 ≤ s ∧ s ≤ 16)) (w : World) : Calls Try.prog 22 #[.agg #[.int .i64 i, .int .i64 f, .int .i64 t, .int .i64 c, .int .i64 s]] w fun e w' => e = .returned (.bool false) ∧ Below w.heap.size w w' := by
  have hb3 : (f == t) = false := by simpa using h3
  have hc3 : (f != t) = true := by simpa using h3
  have H0 := Lib.hid h0; clear h0
  have H1 := Lib.hid h1; clear h1
  have H2 := Lib.hid h2; clear h2
  have H4 := Lib.hid h4; clear h4
  have H5 := Lib.hid h5; clear h5
  go_enter Try.func22, Try.ntmps22
  go_wp2_with fail
  refine (inn i 1 8 true (by first | exact decide_eq_true H0.out | exact decide_eq_false H0.out) _).mono ?_
  rintro e w' ⟨rfl, rfl⟩
  go_wp2_with fail
  refine (inn f 1 6 true (by first | exact decide_eq_true H1.out | exact decide_eq_false H1.out) _).mono ?_
  rintro e w' ⟨rfl, rfl⟩
  go_wp2_with fail
  refine (inn t 1 6 true (by first | exact decide_eq_true H2.out | exact decide_eq_false H2.out) _).mono ?_
  rintro e w' ⟨rfl, rfl⟩
  go_wp2_with fail
  refine (inn c 1 4 true (by first | exact decide_eq_true H4.out | exact decide_eq_false H4.out) _).mono ?_
  rintro e w' ⟨rfl, rfl⟩
  go_wp2_with fail
  refine (inn s 1 16 false (by first | exact decide_eq_true H5.out | exact decide_eq_false H5.out) _).mono ?_
  rintro e w' ⟨rfl, rfl⟩
  go_wp2
  go_ret
  exact ⟨rfl, (Below.refl _ _).alloc (Nat.le_refl _) _⟩
theorem rmay_yes (i f t c s : Int) (h0 : 1 ≤ i ∧ i ≤ 8) (h1 : 1 ≤ f ∧ f ≤ 6) (h2 : 1 ≤ t ∧ t ≤ 6) (h3 : ¬ f = t) (h4 : 1 ≤ c ∧ c ≤ 4) (h5 : 1 ≤ s ∧ s ≤ 16) (w : World) : Calls Try.prog 22 #[.agg #[.int .i64 i, .int .i64 f, .int .i64 t, .int .i64 c, .int .i64 s]] w fun e w' => e = .returned (.bool true) ∧ Below w.heap.size w w' := by
  have hb3 : (f == t) = false := by simpa using h3
  have hc3 : (f != t) = true := by simpa using h3
  have H0 := Lib.hid h0; clear h0
  have H1 := Lib.hid h1; clear h1
  have H2 := Lib.hid h2; clear h2
  have H4 := Lib.hid h4; clear h4
  have H5 := Lib.hid h5; clear h5
  go_enter Try.func22, Try.ntmps22
  go_wp2_with fail
  refine (inn i 1 8 true (by first | exact decide_eq_true H0.out | exact decide_eq_false H0.out) _).mono ?_
  rintro e w' ⟨rfl, rfl⟩
  go_wp2_with fail
  refine (inn f 1 6 true (by first | exact decide_eq_true H1.out | exact decide_eq_false H1.out) _).mono ?_
  rintro e w' ⟨rfl, rfl⟩
  go_wp2_with fail
  refine (inn t 1 6 true (by first | exact decide_eq_true H2.out | exact decide_eq_false H2.out) _).mono ?_
  rintro e w' ⟨rfl, rfl⟩
  go_wp2_with fail
  refine (inn c 1 4 true (by first | exact decide_eq_true H4.out | exact decide_eq_false H4.out) _).mono ?_
  rintro e w' ⟨rfl, rfl⟩
  go_wp2_with fail
  refine (inn s 1 16 true (by first | exact decide_eq_true H5.out | exact decide_eq_false H5.out) _).mono ?_
  rintro e w' ⟨rfl, rfl⟩
  go_wp2
  go_ret
  exact ⟨rfl, (Below.refl _ _).alloc (Nat.le_refl _) _⟩
theorem rmay (x : Ch) (w : World) : Calls Try.prog 22 #[.agg x.cells.toArray] w fun e w' => e = .returned (.bool (mayC x)) ∧ Below w.heap.size w w' := by
  obtain ⟨i, f, t, c, s⟩ := x
  show Calls Try.prog 22 #[.agg #[.int .i64 i, .int .i64 f, .int .i64 t, .int .i64 c, .int .i64 s]] w _
  by_cases g0 : 1 ≤ i ∧ i ≤ 8
  case neg => rw [mayC_no (by simp only; omega)]; exact rmay_no0 i f t c s g0 w
  by_cases g1 : 1 ≤ f ∧ f ≤ 6
  case neg => rw [mayC_no (by simp only; omega)]; exact rmay_no1 i f t c s g0 g1 w
  by_cases g2 : 1 ≤ t ∧ t ≤ 6
  case neg => rw [mayC_no (by simp only; omega)]; exact rmay_no2 i f t c s g0 g1 g2 w
  by_cases g3 : ¬ f = t
  case neg => rw [mayC_no (by simp only; omega)]; exact rmay_no3 i f t c s g0 g1 g2 g3 w
  by_cases g4 : 1 ≤ c ∧ c ≤ 4
  case neg => rw [mayC_no (by simp only; omega)]; exact rmay_no4 i f t c s g0 g1 g2 g3 g4 w
  by_cases g5 : 1 ≤ s ∧ s ≤ 16
  case neg => rw [mayC_no (by simp only; omega)]; exact rmay_no5 i f t c s g0 g1 g2 g3 g4 g5 w
  rw [mayC_iff.2 (by simp only; omega)]; exact rmay_yes i f t c s g0 g1 g2 g3 g4 g5 w
end Go.Proofs.Ytlmecndldclnnaa.chan
