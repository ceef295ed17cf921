/- Channels: may one be; no condition and what belongs to it. -/
import Derived.Test.YthkkmnckidfmkaaRows
import Derived.Test.YthkkmnckidfmkaaLibOpen
import Derived.Test.YthkkmnckidfmkaaLibS
import Derived.Test.YthkkmnckidfmkaaLibI
namespace Go.Proofs.Ythkkmnckidfmkaa.chan
open Go Go.ChangeShapes Go.WideShapes Go.ChangeAt Go.RowKit
structure Ch where
  id : Int
  fr : Int
  to : Int
  cap : Int
  sz : Int
deriving DecidableEq
def Ch.cells (c : Ch) : List Value := [.int .i64 c.id, .int .i64 c.fr, .int .i64 c.to, .int .i64 c.cap, .int .i64 c.sz]
def mayC (c : Ch) : Bool := decide (1 ≤ c.id ∧ c.id ≤ 8 ∧ (1 ≤ c.fr ∧ c.fr ≤ 6) ∧ (1 ≤ c.to ∧ c.to ≤ 6) ∧ ¬ c.fr = c.to ∧ 1 ≤ c.cap ∧ c.cap ≤ 4 ∧ 1 ≤ c.sz ∧ c.sz ≤ 16)
theorem mayC_iff {c : Ch} : mayC c = true ↔ (1 ≤ c.id ∧ c.id ≤ 8 ∧ (1 ≤ c.fr ∧ c.fr ≤ 6) ∧ (1 ≤ c.to ∧ c.to ≤ 6) ∧ ¬ c.fr = c.to ∧ 1 ≤ c.cap ∧ c.cap ≤ 4 ∧ 1 ≤ c.sz ∧ c.sz ≤ 16) := by simp [mayC]
theorem mayC_no {c : Ch} (h : ¬ (1 ≤ c.id ∧ c.id ≤ 8 ∧ (1 ≤ c.fr ∧ c.fr ≤ 6) ∧ (1 ≤ c.to ∧ c.to ≤ 6) ∧ ¬ c.fr = c.to ∧ 1 ≤ c.cap ∧ c.cap ≤ 4 ∧ 1 ≤ c.sz ∧ c.sz ≤ 16)) : mayC c = false := by simp only [mayC, decide_eq_false_iff_not]; exact h
theorem part_y (n : Int) (h0 : 1 ≤ n) (h1 : n ≤ 6) (w : World) : Calls Try.prog 43 #[.int .i64 n] w fun e w' => e = .returned (.bool true) ∧ w = w' := by
  go_enter Try.func43, Try.ntmps43
  go_wp2
  go_ret
  exact ⟨rfl, rfl⟩
theorem part_n0 (n : Int) (h0 : ¬ 1 ≤ n) (w : World) : Calls Try.prog 43 #[.int .i64 n] w fun e w' => e = .returned (.bool false) ∧ w = w' := by
  go_enter Try.func43, Try.ntmps43
  go_wp2
  go_ret
  exact ⟨rfl, rfl⟩
theorem part_n1 (n : Int) (h0 : 1 ≤ n) (h1 : ¬ n ≤ 6) (w : World) : Calls Try.prog 43 #[.int .i64 n] w fun e w' => e = .returned (.bool false) ∧ w = w' := by
  go_enter Try.func43, Try.ntmps43
  go_wp2
  go_ret
  exact ⟨rfl, rfl⟩
theorem part (n : Int) (v : Bool) (h : decide (1 ≤ n ∧ n ≤ 6) = v) (w : World) : Calls Try.prog 43 #[.int .i64 n] w fun e w' => e = .returned (.bool v) ∧ w = w' := by
  subst h
  by_cases h0 : 1 ≤ n
  · by_cases h1 : n ≤ 6
    · rw [decide_eq_true ⟨h0, h1⟩]; exact part_y n h0 h1 w
    · rw [decide_eq_false (fun h => h1 h.2)]; exact part_n1 n h0 h1 w
  · rw [decide_eq_false (fun h => h0 h.1)]; exact part_n0 n h0 w
theorem may_no0 (i f t c s : Int) (h0 : ¬ 1 ≤ i) (w : World) : Calls Try.prog 33 #[.agg #[.int .i64 i, .int .i64 f, .int .i64 t, .int .i64 c, .int .i64 s]] w fun e w' => e = .returned (.bool false) ∧ Below w.heap.size w w' := by
  go_enter Try.func33, Try.ntmps33
  go_wp2
  go_ret
  exact ⟨rfl, (Below.refl _ _).alloc (Nat.le_refl _) _⟩
theorem may_no1 (i f t c s : Int) (h0 : 1 ≤ i) (h1 : ¬ i ≤ 8) (w : World) : Calls Try.prog 33 #[.agg #[.int .i64 i, .int .i64 f, .int .i64 t, .int .i64 c, .int .i64 s]] w fun e w' => e = .returned (.bool false) ∧ Below w.heap.size w w' := by
  go_enter Try.func33, Try.ntmps33
  go_wp2
  go_ret
  exact ⟨rfl, (Below.refl _ _).alloc (Nat.le_refl _) _⟩
theorem may_no2 (i f t c s : Int) (h0 : 1 ≤ i) (h1 : i ≤ 8) (h2 : ¬ (1 ≤ f ∧ f ≤ 6)) (w : World) : Calls Try.prog 33 #[.agg #[.int .i64 i, .int .i64 f, .int .i64 t, .int .i64 c, .int .i64 s]] w fun e w' => e = .returned (.bool false) ∧ Below w.heap.size w w' := by
  have H2 := Lib.hid h2; clear h2
  go_enter Try.func33, Try.ntmps33
  go_wp2_with fail
  refine (part f false (by first | exact decide_eq_true H2.out | exact decide_eq_false H2.out) _).mono ?_
  rintro e w' ⟨rfl, rfl⟩
  go_wp2
  go_ret
  exact ⟨rfl, (Below.refl _ _).alloc (Nat.le_refl _) _⟩
theorem may_no3 (i f t c s : Int) (h0 : 1 ≤ i) (h1 : i ≤ 8) (h2 : 1 ≤ f ∧ f ≤ 6) (h3 : ¬ (1 ≤ t ∧ t ≤ 6)) (w : World) : Calls Try.prog 33 #[.agg #[.int .i64 i, .int .i64 f, .int .i64 t, .int .i64 c, .int .i64 s]] w fun e w' => e = .returned (.bool false) ∧ Below w.heap.size w w' := by
  have H2 := Lib.hid h2; clear h2
  have H3 := Lib.hid h3; clear h3
  go_enter Try.func33, Try.ntmps33
  go_wp2_with fail
  refine (part f true (by first | exact decide_eq_true H2.out | exact decide_eq_false H2.out) _).mono ?_
  rintro e w' ⟨rfl, rfl⟩
  go_wp2_with fail
  refine (part t false (by first | exact decide_eq_true H3.out | exact decide_eq_false H3.out) _).mono ?_
  rintro e w' ⟨rfl, rfl⟩
  go_wp2
  go_ret
  exact ⟨rfl, (Below.refl _ _).alloc (Nat.le_refl _) _⟩
theorem may_no4 (i f t c s : Int) (h0 : 1 ≤ i) (h1 : i ≤ 8) (h2 : 1 ≤ f ∧ f ≤ 6) (h3 : 1 ≤ t ∧ t ≤ 6) (h4 : ¬ (¬ f = t)) (w : World) : Calls Try.prog 33 #[.agg #[.int .i64 i, .int .i64 f, .int .i64 t, .int .i64 c, .int .i64 s]] w fun e w' => e = .returned (.bool false) ∧ Below w.heap.size w w' := by
  have hb4 : (f == t) = true := by simpa using h4
  have hc4 : (f != t) = false := by simpa using h4
  have H2 := Lib.hid h2; clear h2
  have H3 := Lib.hid h3; clear h3
  go_enter Try.func33, Try.ntmps33
  go_wp2_with fail
  refine (part f true (by first | exact decide_eq_true H2.out | exact decide_eq_false H2.out) _).mono ?_
  rintro e w' ⟨rfl, rfl⟩
  go_wp2_with fail
  refine (part t true (by first | exact decide_eq_true H3.out | exact decide_eq_false H3.out) _).mono ?_
  rintro e w' ⟨rfl, rfl⟩
  go_wp2
  go_ret
  exact ⟨rfl, (Below.refl _ _).alloc (Nat.le_refl _) _⟩
theorem may_no5 (i f t c s : Int) (h0 : 1 ≤ i) (h1 : i ≤ 8) (h2 : 1 ≤ f ∧ f ≤ 6) (h3 : 1 ≤ t ∧ t ≤ 6) (h4 : ¬ f = t) (h5 : ¬ 1 ≤ c) (w : World) : Calls Try.prog 33 #[.agg #[.int .i64 i, .int .i64 f, .int .i64 t, .int .i64 c, .int .i64 s]] w fun e w' => e = .returned (.bool false) ∧ Below w.heap.size w w' := by
  have hb4 : (f == t) = false := by simpa using h4
  have hc4 : (f != t) = true := by simpa using h4
  have H2 := Lib.hid h2; clear h2
  have H3 := Lib.hid h3; clear h3
  go_enter Try.func33, Try.ntmps33
  go_wp2_with fail
  refine (part f true (by first | exact decide_eq_true H2.out | exact decide_eq_false H2.out) _).mono ?_
  rintro e w' ⟨rfl, rfl⟩
  go_wp2_with fail
  refine (part t true (by first | exact decide_eq_true H3.out | exact decide_eq_false H3.out) _).mono ?_
  rintro e w' ⟨rfl, rfl⟩
  go_wp2
  go_ret
  exact ⟨rfl, (Below.refl _ _).alloc (Nat.le_refl _) _⟩
theorem may_no6 (i f t c s : Int) (h0 : 1 ≤ i) (h1 : i ≤ 8) (h2 : 1 ≤ f ∧ f ≤ 6) (h3 : 1 ≤ t ∧ t ≤ 6) (h4 : ¬ f = t) (h5 : 1 ≤ c) (h6 : ¬ c ≤ 4) (w : World) : Calls Try.prog 33 #[.agg #[.int .i64 i, .int .i64 f, .int .i64 t, .int .i64 c, .int .i64 s]] w fun e w' => e = .returned (.bool false) ∧ Below w.heap.size w w' := by
  have hb4 : (f == t) = false := by simpa using h4
  have hc4 : (f != t) = true := by simpa using h4
  have H2 := Lib.hid h2; clear h2
  have H3 := Lib.hid h3; clear h3
  go_enter Try.func33, Try.ntmps33
  go_wp2_with fail
  refine (part f true (by first | exact decide_eq_true H2.out | exact decide_eq_false H2.out) _).mono ?_
  rintro e w' ⟨rfl, rfl⟩
  go_wp2_with fail
  refine (part t true (by first | exact decide_eq_true H3.out | exact decide_eq_false H3.out) _).mono ?_
  rintro e w' ⟨rfl, rfl⟩
  go_wp2
  go_ret
  exact ⟨rfl, (Below.refl _ _).alloc (Nat.le_refl _) _⟩
theorem may_no7 (i f t c s : Int) (h0 : 1 ≤ i) (h1 : i ≤ 8) (h2 : 1 ≤ f ∧ f ≤ 6) (h3 : 1 ≤ t ∧ t ≤ 6) (h4 : ¬ f = t) (h5 : 1 ≤ c) (h6 : c ≤ 4) (h7 : ¬ 1 ≤ s) (w : World) : Calls Try.prog 33 #[.agg #[.int .i64 i, .int .i64 f, .int .i64 t, .int .i64 c, .int .i64 s]] w fun e w' => e = .returned (.bool false) ∧ Below w.heap.size w w' := by
  have hb4 : (f == t) = false := by simpa using h4
  have hc4 : (f != t) = true := by simpa using h4
  have H2 := Lib.hid h2; clear h2
  have H3 := Lib.hid h3; clear h3
  go_enter Try.func33, Try.ntmps33
  go_wp2_with fail
  refine (part f true (by first | exact decide_eq_true H2.out | exact decide_eq_false H2.out) _).mono ?_
  rintro e w' ⟨rfl, rfl⟩
  go_wp2_with fail
  refine (part t true (by first | exact decide_eq_true H3.out | exact decide_eq_false H3.out) _).mono ?_
  rintro e w' ⟨rfl, rfl⟩
  go_wp2
  go_ret
  exact ⟨rfl, (Below.refl _ _).alloc (Nat.le_refl _) _⟩
theorem may_no8 (i f t c s : Int) (h0 : 1 ≤ i) (h1 : i ≤ 8) (h2 : 1 ≤ f ∧ f ≤ 6) (h3 : 1 ≤ t ∧ t ≤ 6) (h4 : ¬ f = t) (h5 : 1 ≤ c) (h6 : c ≤ 4) (h7 : 1 ≤ s) (h8 : ¬ s ≤ 16) (w : World) : Calls Try.prog 33 #[.agg #[.int .i64 i, .int .i64 f, .int .i64 t, .int .i64 c, .int .i64 s]] w fun e w' => e = .returned (.bool false) ∧ Below w.heap.size w w' := by
  have hb4 : (f == t) = false := by simpa using h4
  have hc4 : (f != t) = true := by simpa using h4
  have hd : decide (s ≤ 16) = false := decide_eq_false h8
  have H2 := Lib.hid h2; clear h2
  have H3 := Lib.hid h3; clear h3
  go_enter Try.func33, Try.ntmps33
  go_wp2_with fail
  refine (part f true (by first | exact decide_eq_true H2.out | exact decide_eq_false H2.out) _).mono ?_
  rintro e w' ⟨rfl, rfl⟩
  go_wp2_with fail
  refine (part t true (by first | exact decide_eq_true H3.out | exact decide_eq_false H3.out) _).mono ?_
  rintro e w' ⟨rfl, rfl⟩
  go_wp2
  go_ret
  exact ⟨rfl, (Below.refl _ _).alloc (Nat.le_refl _) _⟩
theorem may_yes (i f t c s : Int) (h0 : 1 ≤ i) (h1 : i ≤ 8) (h2 : 1 ≤ f ∧ f ≤ 6) (h3 : 1 ≤ t ∧ t ≤ 6) (h4 : ¬ f = t) (h5 : 1 ≤ c) (h6 : c ≤ 4) (h7 : 1 ≤ s) (h8 : s ≤ 16) (w : World) : Calls Try.prog 33 #[.agg #[.int .i64 i, .int .i64 f, .int .i64 t, .int .i64 c, .int .i64 s]] w fun e w' => e = .returned (.bool true) ∧ Below w.heap.size w w' := by
  have hb4 : (f == t) = false := by simpa using h4
  have hc4 : (f != t) = true := by simpa using h4
  have H2 := Lib.hid h2; clear h2
  have H3 := Lib.hid h3; clear h3
  go_enter Try.func33, Try.ntmps33
  go_wp2_with fail
  refine (part f true (by first | exact decide_eq_true H2.out | exact decide_eq_false H2.out) _).mono ?_
  rintro e w' ⟨rfl, rfl⟩
  go_wp2_with fail
  refine (part t true (by first | exact decide_eq_true H3.out | exact decide_eq_false H3.out) _).mono ?_
  rintro e w' ⟨rfl, rfl⟩
  go_wp2
  go_ret
  exact ⟨rfl, (Below.refl _ _).alloc (Nat.le_refl _) _⟩
theorem may (x : Ch) (w : World) : Calls Try.prog 33 #[.agg x.cells.toArray] w fun e w' => e = .returned (.bool (mayC x)) ∧ Below w.heap.size w w' := by
  obtain ⟨i, f, t, c, s⟩ := x
  show Calls Try.prog 33 #[.agg #[.int .i64 i, .int .i64 f, .int .i64 t, .int .i64 c, .int .i64 s]] w _
  by_cases g0 : 1 ≤ i
  case neg => rw [mayC_no (by simp only; omega)]; exact may_no0 i f t c s g0 w
  by_cases g1 : i ≤ 8
  case neg => rw [mayC_no (by simp only; omega)]; exact may_no1 i f t c s g0 g1 w
  by_cases g2 : 1 ≤ f ∧ f ≤ 6
  case neg => rw [mayC_no (by simp only; omega)]; exact may_no2 i f t c s g0 g1 g2 w
  by_cases g3 : 1 ≤ t ∧ t ≤ 6
  case neg => rw [mayC_no (by simp only; omega)]; exact may_no3 i f t c s g0 g1 g2 g3 w
  by_cases g4 : ¬ f = t
  case neg => rw [mayC_no (by simp only; omega)]; exact may_no4 i f t c s g0 g1 g2 g3 g4 w
  by_cases g5 : 1 ≤ c
  case neg => rw [mayC_no (by simp only; omega)]; exact may_no5 i f t c s g0 g1 g2 g3 g4 g5 w
  by_cases g6 : c ≤ 4
  case neg => rw [mayC_no (by simp only; omega)]; exact may_no6 i f t c s g0 g1 g2 g3 g4 g5 g6 w
  by_cases g7 : 1 ≤ s
  case neg => rw [mayC_no (by simp only; omega)]; exact may_no7 i f t c s g0 g1 g2 g3 g4 g5 g6 g7 w
  by_cases g8 : s ≤ 16
  case neg => rw [mayC_no (by simp only; omega)]; exact may_no8 i f t c s g0 g1 g2 g3 g4 g5 g6 g7 g8 w
  rw [mayC_iff.2 (by simp only; omega)]; exact may_yes i f t c s g0 g1 g2 g3 g4 g5 g6 g7 g8 w
end Go.Proofs.Ythkkmnckidfmkaa.chan
namespace Go.Proofs.Ythkkmnckidfmkaa.chan
open Go Go.ChangeShapes Go.WideShapes Go.ChangeAt Go.RowKit Go.Proofs.Ythkkmnckidfmkaa.rows
def vcells (l : List Value) : List Value := l
theorem vcells_at (l : List Value) (k : Nat) (p : Value) (h : l[k]? = some p) : (vcells l)[k]? = some p := h
theorem vcells_length (l : List Value) : (vcells l).length = l.length := rfl
set_option maxHeartbeats 1000000 in
theorem index_long (B : Nat) (f : Value → Bool) (l : List Value) (A : Option Addr) (c : Nat) (h63 : l.length ≤ 1000000) (w : World) (h : Rd w A (vcells l))
    (hf : ∀ W : World, Below w.heap.size w W → ∀ p ∈ l, Calls Try.prog 32 #[p, .pointer (some ⟨B, 0, none⟩)] W fun e w' => e = .returned (.bool (f p)) ∧ Below W.heap.size W w') :
    Calls Try.prog 44 #[.slice A l.length c, .func (.func 32) #[] #[.pointer (some ⟨B, 0, none⟩)]] w fun e w' => e = .returned (.int .i64 (firstI f l)) ∧ Below w.heap.size w w' := by
  have h63' : (l.length : Int) ≤ 1000000 := by omega
  have H := Lib.hid h; have HF := Lib.hid hf
  clear h hf
  go_enter Try.func44, Try.ntmps44
  go_wp2
  go_loopw [8] (fun i wr => ∃ k : Nat, k ≤ l.length ∧ i = .int .i64 k ∧ (∀ (j : Nat) (p : Value), j < k → l[j]? = some p → f p = false) ∧ Below w.heap.size w wr) (fun i _ => l.length - (intOf i).toNat)
  case atStart => exact ⟨0, Nat.zero_le _, rfl, (fun j p hj => absurd hj (Nat.not_lt_zero _)), Below.refl _ _⟩
  case round =>
    obtain ⟨k, hk, rfl, hno, hb⟩ := hrel
    have HB := Lib.hid hb; have HN := Lib.hid hno; have hz := hb.size
    clear hb hno
    by_cases hkl : k < l.length
    · have hki : (k : Int) < (l.length : Int) := by omega
      obtain ⟨b, off, rfl, hlt⟩ := H.out.addr (by rw [vcells_length]; omega)
      obtain ⟨p, hp⟩ : ∃ p, l[k]? = some p := ⟨l[k], List.getElem?_eq_getElem hkl⟩
      have hr := H.out.below HB.out
      have hw := vcells_at l k _ hp
      have c0 := hr.cell hw
      have T := HF.out wr HB.out p (List.mem_of_getElem? hp)
      have HP := Lib.hid hp
      clear hw hp hr
      cases hfp : f p with
      | true =>
        rw [hfp] at T
        have HT := Lib.hid T; have HFP := Lib.hid hfp
        clear T hfp
        go_wp2_with fail
        refine HT.out.mono ?_
        rintro e w1 ⟨rfl, b1⟩
        have B1 := Lib.hid (HB.out.trans (b1.mono hz)); clear b1
        go_wp2
        go_ret
        exact ⟨by rw [firstI_at f l k p HP.out HFP.out HN.out]; rfl, B1.out⟩
      | false =>
        rw [hfp] at T
        have HT := Lib.hid T; have HFP := Lib.hid hfp
        clear T hfp
        go_wp2_with fail
        refine HT.out.mono ?_
        rintro e w1 ⟨rfl, b1⟩
        have B1 := Lib.hid (HB.out.trans (b1.mono hz)); clear b1
        go_wp2
        go_roundw
        case rel => exact ⟨k + 1, by omega, by go_num, (fun j q hj hq => (Nat.lt_or_eq_of_le (Nat.lt_succ_iff.1 hj)).elim (fun h => HN.out j q h hq) (fun h => by subst h; rw [HP.out] at hq; injection hq with hq; subst hq; exact HFP.out)), B1.out⟩
        case measure => simp [intOf]; omega
    · obtain rfl : k = l.length := by omega
      go_wp2
      go_ret
      exact ⟨by rw [firstI_none f l HN.out]; rfl, HB.out⟩
theorem contains_long (B : Nat) (f : Value → Bool) (l : List Value) (A : Option Addr) (c : Nat) (h63 : l.length ≤ 1000000) (w : World) (h : Rd w A (vcells l))
    (hf : ∀ W : World, Below w.heap.size w W → ∀ p ∈ l, Calls Try.prog 32 #[p, .pointer (some ⟨B, 0, none⟩)] W fun e w' => e = .returned (.bool (f p)) ∧ Below W.heap.size W w') :
    Calls Try.prog 34 #[.slice A l.length c, .func (.func 32) #[] #[.pointer (some ⟨B, 0, none⟩)]] w fun e w' => e = .returned (.bool (l.any f)) ∧ Below w.heap.size w w' := by
  have T := index_long B f l A c h63 w h hf
  have HT := Lib.hid T; have HI := Lib.hid (firstI_any f l)
  generalize firstI f l = z at *
  clear T h hf h63
  go_enter Try.func34, Try.ntmps34
  go_wp2_with fail
  refine HT.out.mono ?_
  rintro e w1 ⟨rfl, b1⟩
  have B1 := Lib.hid b1; clear b1
  go_wp2
  go_ret
  exact ⟨by rw [HI.out]; rfl, B1.out⟩

theorem below_alloc {w w' : World} {o : Obj} (h : Below (w.alloc o).heap.size (w.alloc o) w') : Below w.heap.size w w' :=
  ((Below.refl _ _).alloc (Nat.le_refl _) o).trans (h.mono (by simp))
/-- A queue's cells. -/
def qcells (x : Ch) (A : Option Addr) (n c : Nat) : Array Value := #[.int .i64 x.id, .int .i64 x.fr, .int .i64 x.to, .int .i64 x.cap, .int .i64 x.sz, .slice A n c]
def longV (sz : Int) (v : Value) : Bool := match v with
  | .slice _ n _ => decide (sz < (n : Int))
  | _ => false
theorem long1 (x : Ch) (A0 : Option Addr) (n0 c0 : Nat) (B : Nat) (A : Option Addr) (n c : Nat) (w : World) (hB : w.heap[B]? = some (.cells (qcells x A0 n0 c0) 36 (0, 0))) :
    Calls Try.prog 32 #[.slice A n c, .pointer (some ⟨B, 0, none⟩)] w fun e w' => e = .returned (.bool (decide (x.sz < (n : Int)))) ∧ w = w' := by
  have c4 : w.cell? ⟨B, 4, none⟩ = some (.int .i64 x.sz) := blk_cell hB 4
  clear hB
  go_enter Try.func32, Try.ntmps32
  go_wp2
  go_ret
  exact ⟨rfl, rfl⟩
def mayQ (x : Ch) (ls : List Msg) : Bool := mayC x && decide ((ls.length : Int) ≤ x.cap) && !(ls.any fun l => decide (x.sz < (l.length : Int)))
set_option maxHeartbeats 1000000 in
theorem mayQueue (x : Ch) (A : Option Addr) (c : Nat) (ls : List Msg) (h63 : ls.length ≤ 1000000) (w : World) (h : Rms w A ls) :
    Calls Try.prog 21 #[.agg (qcells x A ls.length c)] w fun e w' => e = .returned (.bool (mayQ x ls)) ∧ Below w.heap.size w w' := by
  have hX := (Below.refl w.heap.size w).alloc (Nat.le_refl _) (.cells (qcells x A ls.length c) 36)
  have G0 := blk_new w (qcells x A ls.length c) 36
  have T := may x (w.alloc (.cells (qcells x A ls.length c) 36))
  obtain ⟨vs, hvl, hrv, hvm⟩ := h
  have hany : vs.any (longV x.sz) = ls.any (fun l => decide (x.sz < (l.length : Int))) := any_of _ _ vs ls hvl fun k u l hu hl => by
    obtain ⟨A', c', e1, _⟩ := hvm k l hl
    rw [e1] at hu; injection hu with hu; subst hu; rfl
  have TC := fun (W : World) (hW : Below (w.alloc (.cells (qcells x A ls.length c) 36)).heap.size (w.alloc (.cells (qcells x A ls.length c) 36)) W) => contains_long w.heap.size (longV x.sz) vs A c (by omega) W ((hrv.below hX).below hW) (fun W2 hW2 p hp => by
    obtain ⟨k, hk⟩ := List.mem_iff_getElem?.1 hp
    have hkl := (List.getElem?_eq_some_iff.1 hk).1
    obtain ⟨A', c', e1, _⟩ := hvm k ls[k] (List.getElem?_eq_getElem (by omega))
    rw [hk] at e1; injection e1 with e1; subst e1
    exact (long1 x A ls.length c w.heap.size A' _ c' W2 (blk_below (blk_below G0 hW (by simp)) hW2 (by have := hW.size; simp at this; omega))).mono fun e w' ⟨he, hw⟩ => ⟨he, hw ▸ Below.refl _ _⟩)
  rw [hvl, hany] at TC
  unfold mayQ
  generalize (ls.any fun l => decide (x.sz < (l.length : Int))) = an at *
  generalize ls.length = n at *
  have HX := Lib.hid hX; have HG := Lib.hid G0; have HTC := Lib.hid TC
  clear hX G0 TC hvm hany hrv hvl
  obtain ⟨i, f, t, cp, s⟩ := x
  cases hm : mayC ⟨i, f, t, cp, s⟩ with
  | false =>
    rw [hm] at T
    have HT := Lib.hid T; clear T hm
    try dsimp only [qcells, Ch.cells]
    go_enter Try.func21, Try.ntmps21
    go_wp2_with fail
    refine HT.out.mono ?_
    rintro e w1 ⟨rfl, b1⟩
    have B1 := Lib.hid (below_alloc b1); clear b1
    go_wp2
    go_ret
    exact ⟨rfl, B1.out⟩
  | true =>
    rw [hm] at T
    have HT := Lib.hid T; clear T hm
    by_cases hcp : (n : Int) ≤ cp
    · simp only [hcp, decide_true, Bool.true_and]
      cases an with
      | true =>
        try dsimp only [qcells, Ch.cells]
        go_enter Try.func21, Try.ntmps21
        go_wp2_with fail
        refine HT.out.mono ?_
        rintro e w1 ⟨rfl, b1⟩
        have g1 := blk_below HG.out b1 (by simp)
        have c3 : w1.cell? ⟨w.heap.size, 3, none⟩ = some (.int .i64 cp) := blk_cell g1 3
        have c5 : w1.cell? ⟨w.heap.size, 5, none⟩ = some (.slice A n c) := blk_cell g1 5
        have K := Lib.hid (HTC.out w1 b1); have B1 := Lib.hid (below_alloc b1); clear b1 g1
        go_wp2_with fail
        refine K.out.mono ?_
        rintro e w2 ⟨rfl, b2⟩
        have B2 := Lib.hid (B1.out.trans (b2.mono B1.out.size)); clear b2
        go_wp2
        go_ret
        exact ⟨rfl, B2.out⟩
      | false =>
        try dsimp only [qcells, Ch.cells]
        go_enter Try.func21, Try.ntmps21
        go_wp2_with fail
        refine HT.out.mono ?_
        rintro e w1 ⟨rfl, b1⟩
        have g1 := blk_below HG.out b1 (by simp)
        have c3 : w1.cell? ⟨w.heap.size, 3, none⟩ = some (.int .i64 cp) := blk_cell g1 3
        have c5 : w1.cell? ⟨w.heap.size, 5, none⟩ = some (.slice A n c) := blk_cell g1 5
        have K := Lib.hid (HTC.out w1 b1); have B1 := Lib.hid (below_alloc b1); clear b1 g1
        go_wp2_with fail
        refine K.out.mono ?_
        rintro e w2 ⟨rfl, b2⟩
        have B2 := Lib.hid (B1.out.trans (b2.mono B1.out.size)); clear b2
        go_wp2
        go_ret
        exact ⟨rfl, B2.out⟩
    · simp only [hcp, decide_false, Bool.and_false, Bool.false_and]
      try dsimp only [qcells, Ch.cells]
      go_enter Try.func21, Try.ntmps21
      go_wp2_with fail
      refine HT.out.mono ?_
      rintro e w1 ⟨rfl, b1⟩
      have g1 := blk_below HG.out b1 (by simp)
      have c3 : w1.cell? ⟨w.heap.size, 3, none⟩ = some (.int .i64 cp) := blk_cell g1 3
      have c5 : w1.cell? ⟨w.heap.size, 5, none⟩ = some (.slice A n c) := blk_cell g1 5
      have B1 := Lib.hid (below_alloc b1); clear b1 g1
      go_wp2
      go_ret
      exact ⟨rfl, B1.out⟩
theorem mayQ_bad {x : Ch} {ls : List Msg} (k : Nat) (l : Msg) (hl : ls[k]? = some l) (h : x.sz < (l.length : Int)) : mayQ x ls = false := by
  unfold mayQ
  rw [show (ls.any fun l => decide (x.sz < (l.length : Int))) = true from List.any_eq_true.2 ⟨l, List.mem_of_getElem? hl, decide_eq_true h⟩]
  simp
theorem mayQ_good {x : Ch} {ls : List Msg} (h1 : mayC x = true) (h2 : (ls.length : Int) ≤ x.cap) (h : ∀ (k : Nat) (l : Msg), k < ls.length → ls[k]? = some l → (l.length : Int) ≤ x.sz) : mayQ x ls = true := by
  unfold mayQ
  rw [h1, decide_eq_true h2, show (ls.any fun l => decide (x.sz < (l.length : Int))) = false from ?_]
  · rfl
  · rw [List.any_eq_false]
    intro l hl
    obtain ⟨k, hk⟩ := List.mem_iff_getElem?.1 hl
    have := h k l (List.getElem?_eq_some_iff.1 hk).1 hk
    simp; omega
/-! ### copies of messages -/
set_option maxHeartbeats 2000000 in
theorem copied (A : Option Addr) (c : Nat) (ls : List Msg) (h63 : ls.length ≤ 1000) (hml : ∀ l ∈ ls, l.length ≤ 1000000) (w : World) (h : Rms w A ls) :
    Calls Try.prog 52 #[.slice A ls.length c] w fun e w' => ∃ v, e = .returned v ∧ Grow w.heap.size w' v ls ∧ Below w.heap.size w w' := by
  obtain ⟨i0, hi, hz0, hz1, hz2⟩ := info_parts info_row
  have h63' : (ls.length : Int) ≤ 1000 := by omega
  have H := Lib.hid h; have HM := Lib.hid hml
  clear h hml
  try dsimp only [qcells, Ch.cells]
  go_enter Try.func52, Try.ntmps52
  go_wp2
  go_loopw [3, 8] (fun v i wr => ∃ k : Nat, k ≤ ls.length ∧ i = .int .i64 k ∧ Grow w.heap.size wr v (ls.take k) ∧ Below w.heap.size w wr) (fun _ i _ => ls.length - (intOf i).toNat)
  case atStart => exact ⟨0, Nat.zero_le _, rfl, Grow.nil _ _, Below.refl _ _⟩
  case round =>
    obtain ⟨k, hk, rfl, hg, hb⟩ := hrel
    have HB := Lib.hid hb; have HG := Lib.hid hg; have hz := hb.size
    clear hb hg
    by_cases hkl : k < ls.length
    · have hki : (k : Int) < (ls.length : Int) := by omega
      obtain ⟨b, off, rfl⟩ := H.out.addr (by omega)
      obtain ⟨l, hl⟩ : ∃ l, ls[k]? = some l := ⟨_, List.getElem?_eq_getElem hkl⟩
      obtain ⟨A', c', cl, hlc, hA', hrl⟩ := (H.out.below HB.out).at hl
      have TC := clone A' c' l hA' hlc (HM.out l (List.mem_of_getElem? hl)) wr hrl
      have HT := Lib.hid TC
      have HTK := Lib.hid (show ls.take (k + 1) = ls.take k ++ [l] by rw [List.take_add_one, hl]; rfl)
      have HLEN := Lib.hid (show (ls.take k).length = k by rw [List.length_take]; omega)
      obtain ⟨A0, c0, rfl, _, _, _, _⟩ := HG.out.form
      clear TC hlc hA' hrl hl
      have hlen : (ls.take k).length = k := HLEN.out
      rw [hlen] at HG ⊢
      clear hlen
      go_wp2_with fail
      refine HT.out.mono ?_
      rintro e w1 ⟨v1, rfl, hv1⟩
      have hm1 := hv1.msg
      obtain ⟨Av, cv, rfl, _, _, _, _, b1⟩ := hv1
      have hG1 := (HG.out.below b1).alloc (.cells #[.slice Av l.length cv] 24)
      have hB1 := (HB.out.trans (b1.mono hz)).alloc (Nat.le_trans hz b1.size) (.cells #[.slice Av l.length cv] 24)
      have hm2 := (hm1.below ((Below.refl w1.heap.size w1).alloc (Nat.le_refl _) (.cells #[.slice Av l.length cv] 24)) (Nat.le_refl _)).mono hz (show w1.heap.size ≤ (w1.alloc (.cells #[.slice Av l.length cv] 24)).heap.size by simp)
      obtain ⟨vs, hown, hvl, hms⟩ := hG1.own
      have hle := HLEN.out
      rw [hle] at hown hvl
      have HM2 := Lib.hid hm2; have HMS := Lib.hid hms; have HVL := Lib.hid hvl; have HB1 := Lib.hid hB1; have HO := Lib.hid hown
      have zz := hB1.size
      clear hm1 hm2 hG1 hB1 hms hvl hle b1 hown
      go_wp2_with (at_builtin; refine wpList_append_rd _ rfl (.tmp 12) (.tmp 15) 34 rfl w.heap.size 24 i0 (.slice none 0 0) 1 24 Try.underlying34 hi hz0 hz1 hz2 rfl (by decide) _ k vs rfl HO.out _ 1 _ [.slice Av l.length cv] rfl rfl (Rd.new _ _ _) ?c2 ?c3 ?c4 ?c5 ?_)
      case c2 => intro u hu; simp at hu; subst hu; rfl
      case c3 => unfold maxLen; omega
      case c4 => omega
      case c5 => exact zz
      intro v' w3 hown3 hg3
      have hgs : Grow w.heap.size w3 v' (ls.take k ++ [l]) := Grow.snoc (by rw [HLEN.out]; exact HO.out) (by rw [HLEN.out]; exact HVL.out) HMS.out HM2.out (by rw [HLEN.out]; exact hown3) hg3
      rw [← HTK.out] at hgs
      have hb3 := below_own HB1.out HO.out hg3 zz
      have HG3 := Lib.hid hgs; have HB3 := Lib.hid hb3
      clear hown3 hg3 hgs hb3 zz
      go_wp2
      go_roundw
      case rel => exact ⟨k + 1, by omega, by go_num, HG3.out, HB3.out⟩
      case measure => simp [intOf]; omega
    · obtain rfl : k = ls.length := by omega
      have hg := HG.out
      rw [List.take_length] at hg
      have HG2 := Lib.hid hg; clear hg
      go_wp2
      go_ret
      exact ⟨_, rfl, HG2.out, HB.out⟩
/-- Six stores into a queue's block. -/
theorem q_set {w : World} {g : Nat} {cs : Array Value} (hg : w.heap[g]? = some (.cells cs 36 (0, 0))) (hs : cs.size = 6) (u0 u1 u2 u3 u4 u5 : Value) :
    ((((((w.setCell ⟨g, 0, none⟩ u0).setCell ⟨g, 1, none⟩ u1).setCell ⟨g, 2, none⟩ u2).setCell ⟨g, 3, none⟩ u3).setCell ⟨g, 4, none⟩ u4).setCell ⟨g, 5, none⟩ u5).heap[g]? = some (.cells #[u0, u1, u2, u3, u4, u5] 36 (0, 0)) := by
  obtain ⟨l⟩ := cs
  have hl : l.length = 6 := by simpa using hs
  match l, hl with
  | [a0, a1, a2, a3, a4, a5], _ => exact blk_eq (blk_set (blk_set (blk_set (blk_set (blk_set (blk_set hg _ _) _ _) _ _) _ _) _ _) _ _) rfl
theorem q_below {B : Nat} {a w : World} {g : Nat} (h : Below B a w) (hB : B ≤ g) (u0 u1 u2 u3 u4 u5 : Value) :
    Below B a ((((((w.setCell ⟨g, 0, none⟩ u0).setCell ⟨g, 1, none⟩ u1).setCell ⟨g, 2, none⟩ u2).setCell ⟨g, 3, none⟩ u3).setCell ⟨g, 4, none⟩ u4).setCell ⟨g, 5, none⟩ u5) :=
  (((((h.setCell (p := ⟨g, 0, none⟩) hB u0).setCell (p := ⟨g, 1, none⟩) hB u1).setCell (p := ⟨g, 2, none⟩) hB u2).setCell (p := ⟨g, 3, none⟩) hB u3).setCell (p := ⟨g, 4, none⟩) hB u4).setCell (p := ⟨g, 5, none⟩) hB u5
end Go.Proofs.Ythkkmnckidfmkaa.chan
namespace Go.Proofs.Ythkkmnckidfmkaa.chan
open Go Go.ChangeShapes Go.WideShapes Go.ChangeAt Go.RowKit Go.Proofs.Ythkkmnckidfmkaa.rows
def ch0 : Ch := ⟨0, 0, 0, 0, 0⟩
/-- What a call tells of a queue: its channel, its messages in blocks of the call's own. -/
def QAt (lo hi : Nat) (w : World) (A : Option Addr) (c : Nat) (ls : List Msg) : Prop := ls.length ≤ c ∧ (A = none → c = 0) ∧ Own2 lo hi w A ls
theorem QAt.nil {lo hi : Nat} {w : World} : QAt lo hi w none 0 [] := ⟨Nat.le_refl _, fun _ => rfl, Own2.nil⟩
theorem own2_far {U : TypeId} {lo hi : Nat} {w : World} {A : Option Addr} {ls : List Msg} (h : Own2 lo hi w A ls) {g k : Nat} {cs : Array Value} (hg : w.heap[g]? = some (.cells cs U (0, 0))) (h1 : 24 ≠ U) (h2 : 5 ≠ U) (u : Value) : Own2 lo hi (w.setCell ⟨g, k, none⟩ u) A ls := by
  obtain ⟨vs, e1, e2, e3⟩ := h
  refine ⟨vs, e1, e2.far hg h1 u, fun j l hj => ?_⟩
  obtain ⟨A', c, k1, k2, k3, k4, k5⟩ := e3 j l hj
  exact ⟨A', c, k1, k2, k3, k4, k5.far hg h2 u⟩
theorem own2_far6 {lo hi : Nat} {w : World} {A : Option Addr} {ls : List Msg} (h : Own2 lo hi w A ls) {g : Nat} {cs : Array Value} (hg : w.heap[g]? = some (.cells cs 36 (0, 0))) (u0 u1 u2 u3 u4 u5 : Value) :
    Own2 lo hi ((((((w.setCell ⟨g, 0, none⟩ u0).setCell ⟨g, 1, none⟩ u1).setCell ⟨g, 2, none⟩ u2).setCell ⟨g, 3, none⟩ u3).setCell ⟨g, 4, none⟩ u4).setCell ⟨g, 5, none⟩ u5) A ls :=
  own2_far (own2_far (own2_far (own2_far (own2_far (own2_far h hg (by decide) (by decide) u0) (blk_set hg _ _) (by decide) (by decide) u1) (blk_set (blk_set hg _ _) _ _) (by decide) (by decide) u2) (blk_set (blk_set (blk_set hg _ _) _ _) _ _) (by decide) (by decide) u3) (blk_set (blk_set (blk_set (blk_set hg _ _) _ _) _ _) _ _) (by decide) (by decide) u4)
    (blk_set (blk_set (blk_set (blk_set (blk_set hg _ _) _ _) _ _) _ _) _ _) (by decide) (by decide) u5
theorem size6 (w : World) (g : Nat) (u0 u1 u2 u3 u4 u5 : Value) : ((((((w.setCell ⟨g, 0, none⟩ u0).setCell ⟨g, 1, none⟩ u1).setCell ⟨g, 2, none⟩ u2).setCell ⟨g, 3, none⟩ u3).setCell ⟨g, 4, none⟩ u4).setCell ⟨g, 5, none⟩ u5).heap.size = w.heap.size := by simp
def room (x : Ch) (ls : List Msg) : List Msg := if (ls.length : Int) = x.cap then ls.drop 1 else ls
def putR (x : Ch) (ls : List Msg) (m : Msg) : Ch × List Msg × Int :=
  if mayQ x ls = true then (if x.sz < (m.length : Int) then (ch0, [], 3) else (x, room x ls ++ [m], 0)) else (ch0, [], 2)
/-- A queue and an error's number, as they are told. -/
def QOut (r : Ch × List Msg × Int) (w : World) (e : Ending) (w' : World) : Prop :=
  ∃ A c, e = .returned (.tuple #[.agg (qcells r.1 A r.2.1.length c), .int .i64 r.2.2]) ∧ QAt w.heap.size w'.heap.size w' A c r.2.1 ∧ Below w.heap.size w w'
theorem QOut.none {r : Ch × List Msg × Int} {E : Int} (hr : r = (ch0, [], E)) {w w' : World} (h : Below w.heap.size w w') : QOut r w (.returned (.tuple #[.agg (qcells ⟨0, 0, 0, 0, 0⟩ none 0 0), .int .i64 E])) w' := by
  subst hr; exact ⟨Option.none, 0, rfl, QAt.nil, h⟩
theorem mayQ_yes {x : Ch} {ls : List Msg} (h : mayQ x ls = true) : mayC x = true ∧ (ls.length : Int) ≤ x.cap ∧ ∀ l ∈ ls, (l.length : Int) ≤ x.sz := by
  unfold mayQ at h
  simp only [Bool.and_eq_true, Bool.not_eq_true', List.any_eq_false, decide_eq_true_eq] at h
  exact ⟨h.1.1, h.1.2, fun l hl => by have := h.2 l hl; omega⟩
set_option maxHeartbeats 1000000 in
theorem put_arg (i f t cp s : Int) (A : Option Addr) (n c : Nat) (ls : List Msg) (hn : ls.length = n) (m : Msg) (Am : Option Addr) (mn cm : Nat) (hmn : m.length = mn) (h63 : n ≤ 1000000) (hq : mayQ ⟨i, f, t, cp, s⟩ ls = false)  (w : World) (h : Rms w A ls) :
    Calls Try.prog 47 #[.agg (qcells ⟨i, f, t, cp, s⟩ A n c), .slice Am mn cm] w (QOut (putR ⟨i, f, t, cp, s⟩ ls m) w) := by
  have g0 := Lib.hid (blk_alloc (blk_new w (qcells ⟨i, f, t, cp, s⟩ A n c) 36) (.cells (qcells ⟨0, 0, 0, 0, 0⟩ none 0 0) 36))
  have g1 := Lib.hid (show ((w.alloc (.cells (qcells ⟨i, f, t, cp, s⟩ A n c) 36)).alloc (.cells (qcells ⟨0, 0, 0, 0, 0⟩ none 0 0) 36)).heap[w.heap.size + 1]? = some (.cells (qcells ⟨0, 0, 0, 0, 0⟩ none 0 0) 36 (0, 0)) by
    have := blk_new (w.alloc (.cells (qcells ⟨i, f, t, cp, s⟩ A n c) 36)) (qcells ⟨0, 0, 0, 0, 0⟩ none 0 0) 36; simpa using this)
  have hsz : ((w.alloc (.cells (qcells ⟨i, f, t, cp, s⟩ A n c) 36)).alloc (.cells (qcells ⟨0, 0, 0, 0, 0⟩ none 0 0) 36)).heap.size = w.heap.size + 2 := by simp
  have hX : Below w.heap.size w ((w.alloc (.cells (qcells ⟨i, f, t, cp, s⟩ A n c) 36)).alloc (.cells (qcells ⟨0, 0, 0, 0, 0⟩ none 0 0) 36)) := ((Below.refl _ _).alloc (Nat.le_refl _) _).alloc (by simp) _
  have T := mayQueue ⟨i, f, t, cp, s⟩ A c ls (by omega) ((w.alloc (.cells (qcells ⟨i, f, t, cp, s⟩ A n c) 36)).alloc (.cells (qcells ⟨0, 0, 0, 0, 0⟩ none 0 0) 36)) (h.below hX)
  rw [hq, hn] at T
  have HV := Lib.hid (show putR ⟨i, f, t, cp, s⟩ ls m = (ch0, [], 2) by unfold putR; rw [hq]; rfl)
  have _ := hmn
  clear hmn
  dsimp only [qcells] at T hsz hX ⊢
  have HT := Lib.hid T; clear T h hq
  go_enter Try.func47, Try.ntmps47
  go_wp2_with fail
  refine HT.out.mono ?_
  rintro e w1 ⟨rfl, b1⟩
  have h0 := blk_below g0.out b1 (by omega); have h1 := blk_below g1.out b1 (by omega)
  have a10 : w1.cell? ⟨w.heap.size, 0, none⟩ = some (.int .i64 i) := blk_cell h0 0
  have a11 : w1.cell? ⟨w.heap.size, 1, none⟩ = some (.int .i64 f) := blk_cell h0 1
  have a12 : w1.cell? ⟨w.heap.size, 2, none⟩ = some (.int .i64 t) := blk_cell h0 2
  have a13 : w1.cell? ⟨w.heap.size, 3, none⟩ = some (.int .i64 cp) := blk_cell h0 3
  have a14 : w1.cell? ⟨w.heap.size, 4, none⟩ = some (.int .i64 s) := blk_cell h0 4
  have a15 : w1.cell? ⟨w.heap.size, 5, none⟩ = some (.slice A n c) := blk_cell h0 5
  have q10 : w1.cell? ⟨w.heap.size + 1, 0, none⟩ = some (.int .i64 0) := blk_cell h1 0
  have q11 : w1.cell? ⟨w.heap.size + 1, 1, none⟩ = some (.int .i64 0) := blk_cell h1 1
  have q12 : w1.cell? ⟨w.heap.size + 1, 2, none⟩ = some (.int .i64 0) := blk_cell h1 2
  have q13 : w1.cell? ⟨w.heap.size + 1, 3, none⟩ = some (.int .i64 0) := blk_cell h1 3
  have q14 : w1.cell? ⟨w.heap.size + 1, 4, none⟩ = some (.int .i64 0) := blk_cell h1 4
  have q15 : w1.cell? ⟨w.heap.size + 1, 5, none⟩ = some (.slice none 0 0) := blk_cell h1 5
  have f10 := blk_frozen h1 0
  have f11 := blk_frozen h1 1
  have f12 := blk_frozen h1 2
  have f13 := blk_frozen h1 3
  have f14 := blk_frozen h1 4
  have f15 := blk_frozen h1 5
  have H1 := Lib.hid h1
  have B1 := Lib.hid (hX.trans (b1.mono (by omega))); clear b1 h0 h1
  go_wp2
  exact ret_row_tmp rfl (w.heap.size + 1) 36 _ _ rfl (q_set H1.out rfl _ _ _ _ _ _) Try.underlying36 rfl (by kernel_rfl) rfl (QOut.none HV.out (q_below B1.out (by omega) _ _ _ _ _ _))
set_option maxHeartbeats 1000000 in
theorem put_long (i f t cp s : Int) (A : Option Addr) (n c : Nat) (ls : List Msg) (hn : ls.length = n) (m : Msg) (Am : Option Addr) (mn cm : Nat) (hmn : m.length = mn) (h63 : n ≤ 1000000) (hq : mayQ ⟨i, f, t, cp, s⟩ ls = true) (hl : s < (mn : Int)) (w : World) (h : Rms w A ls) :
    Calls Try.prog 47 #[.agg (qcells ⟨i, f, t, cp, s⟩ A n c), .slice Am mn cm] w (QOut (putR ⟨i, f, t, cp, s⟩ ls m) w) := by
  have g0 := Lib.hid (blk_alloc (blk_new w (qcells ⟨i, f, t, cp, s⟩ A n c) 36) (.cells (qcells ⟨0, 0, 0, 0, 0⟩ none 0 0) 36))
  have g1 := Lib.hid (show ((w.alloc (.cells (qcells ⟨i, f, t, cp, s⟩ A n c) 36)).alloc (.cells (qcells ⟨0, 0, 0, 0, 0⟩ none 0 0) 36)).heap[w.heap.size + 1]? = some (.cells (qcells ⟨0, 0, 0, 0, 0⟩ none 0 0) 36 (0, 0)) by
    have := blk_new (w.alloc (.cells (qcells ⟨i, f, t, cp, s⟩ A n c) 36)) (qcells ⟨0, 0, 0, 0, 0⟩ none 0 0) 36; simpa using this)
  have hsz : ((w.alloc (.cells (qcells ⟨i, f, t, cp, s⟩ A n c) 36)).alloc (.cells (qcells ⟨0, 0, 0, 0, 0⟩ none 0 0) 36)).heap.size = w.heap.size + 2 := by simp
  have hX : Below w.heap.size w ((w.alloc (.cells (qcells ⟨i, f, t, cp, s⟩ A n c) 36)).alloc (.cells (qcells ⟨0, 0, 0, 0, 0⟩ none 0 0) 36)) := ((Below.refl _ _).alloc (Nat.le_refl _) _).alloc (by simp) _
  have T := mayQueue ⟨i, f, t, cp, s⟩ A c ls (by omega) ((w.alloc (.cells (qcells ⟨i, f, t, cp, s⟩ A n c) 36)).alloc (.cells (qcells ⟨0, 0, 0, 0, 0⟩ none 0 0) 36)) (h.below hX)
  rw [hq, hn] at T
  have HV := Lib.hid (show putR ⟨i, f, t, cp, s⟩ ls m = (ch0, [], 3) by unfold putR; rw [hq, if_pos rfl, if_pos (by rw [hmn]; exact hl)])
  clear hmn
  dsimp only [qcells] at T hsz hX ⊢
  have HT := Lib.hid T; clear T h hq
  go_enter Try.func47, Try.ntmps47
  go_wp2_with fail
  refine HT.out.mono ?_
  rintro e w1 ⟨rfl, b1⟩
  have h0 := blk_below g0.out b1 (by omega); have h1 := blk_below g1.out b1 (by omega)
  have a10 : w1.cell? ⟨w.heap.size, 0, none⟩ = some (.int .i64 i) := blk_cell h0 0
  have a11 : w1.cell? ⟨w.heap.size, 1, none⟩ = some (.int .i64 f) := blk_cell h0 1
  have a12 : w1.cell? ⟨w.heap.size, 2, none⟩ = some (.int .i64 t) := blk_cell h0 2
  have a13 : w1.cell? ⟨w.heap.size, 3, none⟩ = some (.int .i64 cp) := blk_cell h0 3
  have a14 : w1.cell? ⟨w.heap.size, 4, none⟩ = some (.int .i64 s) := blk_cell h0 4
  have a15 : w1.cell? ⟨w.heap.size, 5, none⟩ = some (.slice A n c) := blk_cell h0 5
  have q10 : w1.cell? ⟨w.heap.size + 1, 0, none⟩ = some (.int .i64 0) := blk_cell h1 0
  have q11 : w1.cell? ⟨w.heap.size + 1, 1, none⟩ = some (.int .i64 0) := blk_cell h1 1
  have q12 : w1.cell? ⟨w.heap.size + 1, 2, none⟩ = some (.int .i64 0) := blk_cell h1 2
  have q13 : w1.cell? ⟨w.heap.size + 1, 3, none⟩ = some (.int .i64 0) := blk_cell h1 3
  have q14 : w1.cell? ⟨w.heap.size + 1, 4, none⟩ = some (.int .i64 0) := blk_cell h1 4
  have q15 : w1.cell? ⟨w.heap.size + 1, 5, none⟩ = some (.slice none 0 0) := blk_cell h1 5
  have f10 := blk_frozen h1 0
  have f11 := blk_frozen h1 1
  have f12 := blk_frozen h1 2
  have f13 := blk_frozen h1 3
  have f14 := blk_frozen h1 4
  have f15 := blk_frozen h1 5
  have H1 := Lib.hid h1
  have B1 := Lib.hid (hX.trans (b1.mono (by omega))); clear b1 h0 h1
  go_wp2
  exact ret_row_tmp rfl (w.heap.size + 1) 36 _ _ rfl (q_set H1.out rfl _ _ _ _ _ _) Try.underlying36 rfl (by kernel_rfl) rfl (QOut.none HV.out (q_below B1.out (by omega) _ _ _ _ _ _))
set_option maxRecDepth 100000 in
set_option maxHeartbeats 4000000 in
theorem put_e0 (i f t cp s : Int)  (ls : List Msg) (hn : ls.length = 0) (m : Msg) (Am : Option Addr) (mn cm : Nat) (hmn : m.length = mn) (hmA : Am = none → cm = 0) (hmc : mn ≤ cm) (hq : mayQ ⟨i, f, t, cp, s⟩ ls = true) (hl : (mn : Int) ≤ s) (hlt : 0 < cp) (w : World) (h : Rms w none ls) (hm : Rd w Am (bcs m)) :
    Calls Try.prog 47 #[.agg (qcells ⟨i, f, t, cp, s⟩ none 0 0), .slice Am mn cm] w (QOut (putR ⟨i, f, t, cp, s⟩ ls m) w) := by
  have g0 := Lib.hid (blk_alloc (blk_new w (qcells ⟨i, f, t, cp, s⟩ none 0 0) 36) (.cells (qcells ⟨0, 0, 0, 0, 0⟩ none 0 0) 36))
  have g1 := Lib.hid (show ((w.alloc (.cells (qcells ⟨i, f, t, cp, s⟩ none 0 0) 36)).alloc (.cells (qcells ⟨0, 0, 0, 0, 0⟩ none 0 0) 36)).heap[w.heap.size + 1]? = some (.cells (qcells ⟨0, 0, 0, 0, 0⟩ none 0 0) 36 (0, 0)) by
    have := blk_new (w.alloc (.cells (qcells ⟨i, f, t, cp, s⟩ none 0 0) 36)) (qcells ⟨0, 0, 0, 0, 0⟩ none 0 0) 36; simpa using this)
  have hsz : ((w.alloc (.cells (qcells ⟨i, f, t, cp, s⟩ none 0 0) 36)).alloc (.cells (qcells ⟨0, 0, 0, 0, 0⟩ none 0 0) 36)).heap.size = w.heap.size + 2 := by simp
  have hX : Below w.heap.size w ((w.alloc (.cells (qcells ⟨i, f, t, cp, s⟩ none 0 0) 36)).alloc (.cells (qcells ⟨0, 0, 0, 0, 0⟩ none 0 0) 36)) := ((Below.refl _ _).alloc (Nat.le_refl _) _).alloc (by simp) _
  have hy := mayQ_yes hq
  have hmay := mayC_iff.1 hy.1
  obtain ⟨_, hlen, hsz2⟩ := hy
  simp only at hmay hlen hsz2
  have hcp : cp ≤ 4 := by omega
  have hs16 : s ≤ 16 := by omega
  have T := mayQueue ⟨i, f, t, cp, s⟩ none 0 ls (by omega) ((w.alloc (.cells (qcells ⟨i, f, t, cp, s⟩ none 0 0) 36)).alloc (.cells (qcells ⟨0, 0, 0, 0, 0⟩ none 0 0) 36)) (h.below hX)
  rw [hq, hn] at T
  have HV := Lib.hid (show putR ⟨i, f, t, cp, s⟩ ls m = (⟨i, f, t, cp, s⟩, ls ++ [m], 0) by unfold putR; rw [hq, if_pos rfl, if_neg (by rw [hmn]; simp only; omega)]; unfold room; rw [if_neg (by simp only; omega)])
  have hLL : (ls).length = 0 := by omega
  have TC := fun (w : World) (h : Rms w none ls) => copied none 0 (ls) (by rw [hLL]; omega) (fun l hl => by have := hsz2 l (hl); omega) w (h)
  rw [hLL] at TC
  have TM := fun (w : World) (h : Rd w Am (bcs m)) => clone Am cm m hmA (by omega) (by omega) w h
  rw [hmn] at TM
  obtain ⟨i0, hi, hz0, hz1, hz2⟩ := info_parts info_row
  have e1 : ((0 : Int) == cp) = false := by rw [beq_eq_false_iff_ne]; omega
  have e2 : ¬ (0 : Int) = cp := by omega
  dsimp only [qcells] at T hsz hX ⊢
  have H := Lib.hid (h.below hX); have HMs := Lib.hid (hm.below hX)
  have HT := Lib.hid T; have HTC := Lib.hid TC; have HTM := Lib.hid TM; have HLL := Lib.hid hLL; have HMN := Lib.hid hmn; have HN := Lib.hid hn
  have hn4 : 0 ≤ 4 := by omega
  have nos : ¬ s < (mn : Int) := by omega
  clear T h hq TC TM hm hmn hmA hmc hLL hn hmay hlen hsz2 hs16
  go_enter Try.func47, Try.ntmps47
  go_wp2_with fail
  refine HT.out.mono ?_
  rintro e w1 ⟨rfl, b1⟩
  have h0 := blk_below g0.out b1 (by omega); have h1 := blk_below g1.out b1 (by omega)
  have a10 : w1.cell? ⟨w.heap.size, 0, none⟩ = some (.int .i64 i) := blk_cell h0 0
  have a11 : w1.cell? ⟨w.heap.size, 1, none⟩ = some (.int .i64 f) := blk_cell h0 1
  have a12 : w1.cell? ⟨w.heap.size, 2, none⟩ = some (.int .i64 t) := blk_cell h0 2
  have a13 : w1.cell? ⟨w.heap.size, 3, none⟩ = some (.int .i64 cp) := blk_cell h0 3
  have a14 : w1.cell? ⟨w.heap.size, 4, none⟩ = some (.int .i64 s) := blk_cell h0 4
  have a15 : w1.cell? ⟨w.heap.size, 5, none⟩ = some (.slice none 0 0) := blk_cell h0 5
  have q10 : w1.cell? ⟨w.heap.size + 1, 0, none⟩ = some (.int .i64 0) := blk_cell h1 0
  have q11 : w1.cell? ⟨w.heap.size + 1, 1, none⟩ = some (.int .i64 0) := blk_cell h1 1
  have q12 : w1.cell? ⟨w.heap.size + 1, 2, none⟩ = some (.int .i64 0) := blk_cell h1 2
  have q13 : w1.cell? ⟨w.heap.size + 1, 3, none⟩ = some (.int .i64 0) := blk_cell h1 3
  have q14 : w1.cell? ⟨w.heap.size + 1, 4, none⟩ = some (.int .i64 0) := blk_cell h1 4
  have q15 : w1.cell? ⟨w.heap.size + 1, 5, none⟩ = some (.slice none 0 0) := blk_cell h1 5
  have f10 := blk_frozen h1 0
  have f11 := blk_frozen h1 1
  have f12 := blk_frozen h1 2
  have f13 := blk_frozen h1 3
  have f14 := blk_frozen h1 4
  have f15 := blk_frozen h1 5
  have K0 := Lib.hid h0; have K1 := Lib.hid h1
  have H1 := Lib.hid (H.out.below b1); have HM1 := Lib.hid (HMs.out.below b1)
  have z1 : w.heap.size + 2 ≤ w1.heap.size := by have := b1.size; omega
  have B1 := Lib.hid (hX.trans (b1.mono (by omega))); clear b1 h0 h1
  go_wp2_with fail
  refine (HTC.out _ H1.out).mono ?_
  rintro e w2 ⟨v2, rfl, hg2, b2⟩
  clear a10 a11 a12 a13 a14 a15 q10 q11 q12 q13 q14 q15 f10 f11 f12 f13 f14 f15
  have G2 := Lib.hid hg2; have z2 := b2.size
  have HM2 := Lib.hid (HM1.out.below b2)
  have L0 := Lib.hid (blk_below K0.out b2 (by omega)); have L1 := Lib.hid (blk_below K1.out b2 (by omega))
  have B2 := Lib.hid (B1.out.trans (b2.mono (by omega)))
  clear hg2 b2
  obtain ⟨A2, c2, rfl, _, _, _, _⟩ := G2.out.form
  have hLL2 : (ls).length = 0 := HLL.out
  rw [hLL2] at G2 ⊢
  clear hLL2
  go_wp2_with fail
  refine (HTM.out _ HM2.out).mono ?_
  rintro e w3 ⟨v3, rfl, hv3⟩
  have hm3 := hv3.msg
  obtain ⟨Av, cv, rfl, _, _, _, _, b3⟩ := hv3
  have hmn2 : m.length = mn := HMN.out
  rw [hmn2] at hm3 ⊢
  clear hmn2
  have z3 := b3.size
  have G3 := Lib.hid ((G2.out.below b3).alloc (.cells #[.slice Av mn cv] 24))
  have hb3 := B2.out.trans (b3.mono (by omega))
  have B3 := Lib.hid (hb3.alloc hb3.size (.cells #[.slice Av mn cv] 24))
  have hm3' := (hm3.below ((Below.refl w3.heap.size w3).alloc (Nat.le_refl _) (.cells #[.slice Av mn cv] 24)) (Nat.le_refl _)).mono (show w1.heap.size ≤ w2.heap.size from z2) (show w3.heap.size ≤ (w3.alloc (.cells #[.slice Av mn cv] 24)).heap.size by simp)
  obtain ⟨vs, hown, hvl, hms⟩ := G3.out.own
  have M0 := Lib.hid (blk_alloc (blk_below L0.out b3 (by omega)) (.cells #[.slice Av mn cv] 24)); have M1 := Lib.hid (blk_alloc (blk_below L1.out b3 (by omega)) (.cells #[.slice Av mn cv] 24))
  have hle := HLL.out
  rw [hle] at hown hvl
  have HM3 := Lib.hid hm3'; have HMS := Lib.hid hms; have HVL := Lib.hid hvl; have HO := Lib.hid hown
  have zz : w1.heap.size ≤ (w3.alloc (.cells #[.slice Av mn cv] 24)).heap.size := by simp; omega
  clear hm3 hm3' hb3 hms hvl hle b3 hown G2 G3
  go_wp2_with (at_builtin; refine wpList_append_rd _ rfl (.tmp 38) (.tmp 41) 34 rfl w1.heap.size 24 i0 (.slice none 0 0) 1 24 Try.underlying34 hi hz0 hz1 hz2 rfl (by decide) _ (0) vs rfl HO.out _ 1 _ [.slice Av mn cv] rfl rfl (Rd.new _ _ _) ?c2 ?c3 ?c4 zz ?_)
  case c2 => intro u hu; simp at hu; subst hu; rfl
  case c3 => unfold maxLen; omega
  case c4 => omega
  intro v4 w4 hown4 hg4
  have hg44 : Grow w1.heap.size w4 v4 (ls ++ [m]) := Grow.snoc (by rw [HLL.out]; exact HO.out) (by rw [HLL.out]; exact HVL.out) HMS.out HM3.out (by rw [HLL.out]; exact hown4) hg4
  have hne0 : some w.heap.size ≠ (Value.slice A2 (0) c2).ownBlock := own_ne HO.out M0.out (by decide)
  have hne1 : some (w.heap.size + 1) ≠ (Value.slice A2 (0) c2).ownBlock := own_ne HO.out M1.out (by decide)
  have N0 := blk_grown M0.out hg4 hne0; have N1 := blk_grown M1.out hg4 hne1
  have hb4 : Below w.heap.size w w4 := B3.out.grown hg4 (by omega) (fun k hk => by have := (HO.out.lt k hk).1; omega)
  obtain ⟨A4, c4, rfl, l4, n4, _, o4⟩ := hg44.form
  have a40 : w4.cell? ⟨w.heap.size, 0, none⟩ = some (.int .i64 i) := blk_cell N0 0
  have a41 : w4.cell? ⟨w.heap.size, 1, none⟩ = some (.int .i64 f) := blk_cell N0 1
  have a42 : w4.cell? ⟨w.heap.size, 2, none⟩ = some (.int .i64 t) := blk_cell N0 2
  have a43 : w4.cell? ⟨w.heap.size, 3, none⟩ = some (.int .i64 cp) := blk_cell N0 3
  have a44 : w4.cell? ⟨w.heap.size, 4, none⟩ = some (.int .i64 s) := blk_cell N0 4
  have a45 : w4.cell? ⟨w.heap.size, 5, none⟩ = some (.slice none 0 0) := blk_cell N0 5
  have q40 : w4.cell? ⟨w.heap.size + 1, 0, none⟩ = some (.int .i64 0) := blk_cell N1 0
  have q41 : w4.cell? ⟨w.heap.size + 1, 1, none⟩ = some (.int .i64 0) := blk_cell N1 1
  have q42 : w4.cell? ⟨w.heap.size + 1, 2, none⟩ = some (.int .i64 0) := blk_cell N1 2
  have q43 : w4.cell? ⟨w.heap.size + 1, 3, none⟩ = some (.int .i64 0) := blk_cell N1 3
  have q44 : w4.cell? ⟨w.heap.size + 1, 4, none⟩ = some (.int .i64 0) := blk_cell N1 4
  have q45 : w4.cell? ⟨w.heap.size + 1, 5, none⟩ = some (.slice none 0 0) := blk_cell N1 5
  have f40 := blk_frozen N1 0
  have f41 := blk_frozen N1 1
  have f42 := blk_frozen N1 2
  have f43 := blk_frozen N1 3
  have f44 := blk_frozen N1 4
  have f45 := blk_frozen N1 5
  have g45 := blk_frozen N0 5
  have P0 := Lib.hid N0; have P1 := Lib.hid N1; have B4 := Lib.hid hb4; have O4 := Lib.hid o4; have L4 := Lib.hid (And.intro l4 n4)
  have hl1 : (ls ++ [m]).length = 0 + 1 := by rw [List.length_append, HLL.out]; rfl
  rw [hl1]
  have HL1 := Lib.hid hl1
  clear hown4 hg4 hg44 hne0 hne1 N0 N1 hb4 l4 n4 o4 hl1
  go_wp2
  have P1' := blk_far P1.out (p := ⟨w.heap.size, 5, none⟩) (show w.heap.size + 1 ≠ w.heap.size by omega) (.slice A4 (0 + 1) c4)
  refine ret_row_tmp rfl (w.heap.size + 1) 36 _ _ rfl (q_set P1' rfl _ _ _ _ _ _) Try.underlying36 rfl (by kernel_rfl) rfl ?_
  have hoo := own2_far6 (own2_far (k := 5) O4.out P0.out (by decide) (by decide) (.slice A4 (0 + 1) c4)) P1' (.int .i64 i) (.int .i64 f) (.int .i64 t) (.int .i64 cp) (.int .i64 s) (.slice A4 (0 + 1) c4)
  have hbb := q_below (g := w.heap.size + 1) (B4.out.setCell (p := ⟨w.heap.size, 5, none⟩) (Nat.le_refl _) (.slice A4 (0 + 1) c4)) (by omega) (.int .i64 i) (.int .i64 f) (.int .i64 t) (.int .i64 cp) (.int .i64 s) (.slice A4 (0 + 1) c4)
  rw [HV.out]
  exact ⟨A4, c4, by rw [show ((⟨i, f, t, cp, s⟩, ls ++ [m], (0 : Int)) : Ch × List Msg × Int).2.1.length = 0 + 1 from HL1.out]; rfl, ⟨L4.out.1, L4.out.2, hoo.mono (by omega) (by rw [size6]; simp)⟩, hbb⟩
set_option maxRecDepth 100000 in
set_option maxHeartbeats 4000000 in
theorem put_e1 (i f t cp s : Int) (ad : Addr) (c : Nat) (ls : List Msg) (hn : ls.length = 0) (m : Msg) (Am : Option Addr) (mn cm : Nat) (hmn : m.length = mn) (hmA : Am = none → cm = 0) (hmc : mn ≤ cm) (hq : mayQ ⟨i, f, t, cp, s⟩ ls = true) (hl : (mn : Int) ≤ s) (hlt : 0 < cp) (w : World) (h : Rms w (some ad) ls) (hm : Rd w Am (bcs m)) :
    Calls Try.prog 47 #[.agg (qcells ⟨i, f, t, cp, s⟩ (some ad) 0 c), .slice Am mn cm] w (QOut (putR ⟨i, f, t, cp, s⟩ ls m) w) := by
  have g0 := Lib.hid (blk_alloc (blk_new w (qcells ⟨i, f, t, cp, s⟩ (some ad) 0 c) 36) (.cells (qcells ⟨0, 0, 0, 0, 0⟩ none 0 0) 36))
  have g1 := Lib.hid (show ((w.alloc (.cells (qcells ⟨i, f, t, cp, s⟩ (some ad) 0 c) 36)).alloc (.cells (qcells ⟨0, 0, 0, 0, 0⟩ none 0 0) 36)).heap[w.heap.size + 1]? = some (.cells (qcells ⟨0, 0, 0, 0, 0⟩ none 0 0) 36 (0, 0)) by
    have := blk_new (w.alloc (.cells (qcells ⟨i, f, t, cp, s⟩ (some ad) 0 c) 36)) (qcells ⟨0, 0, 0, 0, 0⟩ none 0 0) 36; simpa using this)
  have hsz : ((w.alloc (.cells (qcells ⟨i, f, t, cp, s⟩ (some ad) 0 c) 36)).alloc (.cells (qcells ⟨0, 0, 0, 0, 0⟩ none 0 0) 36)).heap.size = w.heap.size + 2 := by simp
  have hX : Below w.heap.size w ((w.alloc (.cells (qcells ⟨i, f, t, cp, s⟩ (some ad) 0 c) 36)).alloc (.cells (qcells ⟨0, 0, 0, 0, 0⟩ none 0 0) 36)) := ((Below.refl _ _).alloc (Nat.le_refl _) _).alloc (by simp) _
  have hy := mayQ_yes hq
  have hmay := mayC_iff.1 hy.1
  obtain ⟨_, hlen, hsz2⟩ := hy
  simp only at hmay hlen hsz2
  have hcp : cp ≤ 4 := by omega
  have hs16 : s ≤ 16 := by omega
  have T := mayQueue ⟨i, f, t, cp, s⟩ (some ad) c ls (by omega) ((w.alloc (.cells (qcells ⟨i, f, t, cp, s⟩ (some ad) 0 c) 36)).alloc (.cells (qcells ⟨0, 0, 0, 0, 0⟩ none 0 0) 36)) (h.below hX)
  rw [hq, hn] at T
  have HV := Lib.hid (show putR ⟨i, f, t, cp, s⟩ ls m = (⟨i, f, t, cp, s⟩, ls ++ [m], 0) by unfold putR; rw [hq, if_pos rfl, if_neg (by rw [hmn]; simp only; omega)]; unfold room; rw [if_neg (by simp only; omega)])
  have hLL : (ls).length = 0 := by omega
  have TC := fun (w : World) (h : Rms w (some ad) ls) => copied (some ad) 0 (ls) (by rw [hLL]; omega) (fun l hl => by have := hsz2 l (hl); omega) w (h)
  rw [hLL] at TC
  have TM := fun (w : World) (h : Rd w Am (bcs m)) => clone Am cm m hmA (by omega) (by omega) w h
  rw [hmn] at TM
  obtain ⟨i0, hi, hz0, hz1, hz2⟩ := info_parts info_row
  have e1 : ((0 : Int) == cp) = false := by rw [beq_eq_false_iff_ne]; omega
  have e2 : ¬ (0 : Int) = cp := by omega
  have e3 : (0 : Int) ≤ (c : Int) := by omega
  dsimp only [qcells] at T hsz hX ⊢
  have H := Lib.hid (h.below hX); have HMs := Lib.hid (hm.below hX)
  have HT := Lib.hid T; have HTC := Lib.hid TC; have HTM := Lib.hid TM; have HLL := Lib.hid hLL; have HMN := Lib.hid hmn; have HN := Lib.hid hn
  have hn4 : 0 ≤ 4 := by omega
  have nos : ¬ s < (mn : Int) := by omega
  clear T h hq TC TM hm hmn hmA hmc hLL hn hmay hlen hsz2 hs16
  go_enter Try.func47, Try.ntmps47
  go_wp2_with fail
  refine HT.out.mono ?_
  rintro e w1 ⟨rfl, b1⟩
  have h0 := blk_below g0.out b1 (by omega); have h1 := blk_below g1.out b1 (by omega)
  have a10 : w1.cell? ⟨w.heap.size, 0, none⟩ = some (.int .i64 i) := blk_cell h0 0
  have a11 : w1.cell? ⟨w.heap.size, 1, none⟩ = some (.int .i64 f) := blk_cell h0 1
  have a12 : w1.cell? ⟨w.heap.size, 2, none⟩ = some (.int .i64 t) := blk_cell h0 2
  have a13 : w1.cell? ⟨w.heap.size, 3, none⟩ = some (.int .i64 cp) := blk_cell h0 3
  have a14 : w1.cell? ⟨w.heap.size, 4, none⟩ = some (.int .i64 s) := blk_cell h0 4
  have a15 : w1.cell? ⟨w.heap.size, 5, none⟩ = some (.slice (some ad) 0 c) := blk_cell h0 5
  have q10 : w1.cell? ⟨w.heap.size + 1, 0, none⟩ = some (.int .i64 0) := blk_cell h1 0
  have q11 : w1.cell? ⟨w.heap.size + 1, 1, none⟩ = some (.int .i64 0) := blk_cell h1 1
  have q12 : w1.cell? ⟨w.heap.size + 1, 2, none⟩ = some (.int .i64 0) := blk_cell h1 2
  have q13 : w1.cell? ⟨w.heap.size + 1, 3, none⟩ = some (.int .i64 0) := blk_cell h1 3
  have q14 : w1.cell? ⟨w.heap.size + 1, 4, none⟩ = some (.int .i64 0) := blk_cell h1 4
  have q15 : w1.cell? ⟨w.heap.size + 1, 5, none⟩ = some (.slice none 0 0) := blk_cell h1 5
  have f10 := blk_frozen h1 0
  have f11 := blk_frozen h1 1
  have f12 := blk_frozen h1 2
  have f13 := blk_frozen h1 3
  have f14 := blk_frozen h1 4
  have f15 := blk_frozen h1 5
  have K0 := Lib.hid h0; have K1 := Lib.hid h1
  have H1 := Lib.hid (H.out.below b1); have HM1 := Lib.hid (HMs.out.below b1)
  have z1 : w.heap.size + 2 ≤ w1.heap.size := by have := b1.size; omega
  have B1 := Lib.hid (hX.trans (b1.mono (by omega))); clear b1 h0 h1
  go_wp2_with fail
  refine (HTC.out _ H1.out).mono ?_
  rintro e w2 ⟨v2, rfl, hg2, b2⟩
  clear a10 a11 a12 a13 a14 a15 q10 q11 q12 q13 q14 q15 f10 f11 f12 f13 f14 f15
  have G2 := Lib.hid hg2; have z2 := b2.size
  have HM2 := Lib.hid (HM1.out.below b2)
  have L0 := Lib.hid (blk_below K0.out b2 (by omega)); have L1 := Lib.hid (blk_below K1.out b2 (by omega))
  have B2 := Lib.hid (B1.out.trans (b2.mono (by omega)))
  clear hg2 b2
  obtain ⟨A2, c2, rfl, _, _, _, _⟩ := G2.out.form
  have hLL2 : (ls).length = 0 := HLL.out
  rw [hLL2] at G2 ⊢
  clear hLL2
  go_wp2_with fail
  refine (HTM.out _ HM2.out).mono ?_
  rintro e w3 ⟨v3, rfl, hv3⟩
  have hm3 := hv3.msg
  obtain ⟨Av, cv, rfl, _, _, _, _, b3⟩ := hv3
  have hmn2 : m.length = mn := HMN.out
  rw [hmn2] at hm3 ⊢
  clear hmn2
  have z3 := b3.size
  have G3 := Lib.hid ((G2.out.below b3).alloc (.cells #[.slice Av mn cv] 24))
  have hb3 := B2.out.trans (b3.mono (by omega))
  have B3 := Lib.hid (hb3.alloc hb3.size (.cells #[.slice Av mn cv] 24))
  have hm3' := (hm3.below ((Below.refl w3.heap.size w3).alloc (Nat.le_refl _) (.cells #[.slice Av mn cv] 24)) (Nat.le_refl _)).mono (show w1.heap.size ≤ w2.heap.size from z2) (show w3.heap.size ≤ (w3.alloc (.cells #[.slice Av mn cv] 24)).heap.size by simp)
  obtain ⟨vs, hown, hvl, hms⟩ := G3.out.own
  have M0 := Lib.hid (blk_alloc (blk_below L0.out b3 (by omega)) (.cells #[.slice Av mn cv] 24)); have M1 := Lib.hid (blk_alloc (blk_below L1.out b3 (by omega)) (.cells #[.slice Av mn cv] 24))
  have hle := HLL.out
  rw [hle] at hown hvl
  have HM3 := Lib.hid hm3'; have HMS := Lib.hid hms; have HVL := Lib.hid hvl; have HO := Lib.hid hown
  have zz : w1.heap.size ≤ (w3.alloc (.cells #[.slice Av mn cv] 24)).heap.size := by simp; omega
  clear hm3 hm3' hb3 hms hvl hle b3 hown G2 G3
  go_wp2_with (at_builtin; refine wpList_append_rd _ rfl (.tmp 38) (.tmp 41) 34 rfl w1.heap.size 24 i0 (.slice none 0 0) 1 24 Try.underlying34 hi hz0 hz1 hz2 rfl (by decide) _ (0) vs rfl HO.out _ 1 _ [.slice Av mn cv] rfl rfl (Rd.new _ _ _) ?c2 ?c3 ?c4 zz ?_)
  case c2 => intro u hu; simp at hu; subst hu; rfl
  case c3 => unfold maxLen; omega
  case c4 => omega
  intro v4 w4 hown4 hg4
  have hg44 : Grow w1.heap.size w4 v4 (ls ++ [m]) := Grow.snoc (by rw [HLL.out]; exact HO.out) (by rw [HLL.out]; exact HVL.out) HMS.out HM3.out (by rw [HLL.out]; exact hown4) hg4
  have hne0 : some w.heap.size ≠ (Value.slice A2 (0) c2).ownBlock := own_ne HO.out M0.out (by decide)
  have hne1 : some (w.heap.size + 1) ≠ (Value.slice A2 (0) c2).ownBlock := own_ne HO.out M1.out (by decide)
  have N0 := blk_grown M0.out hg4 hne0; have N1 := blk_grown M1.out hg4 hne1
  have hb4 : Below w.heap.size w w4 := B3.out.grown hg4 (by omega) (fun k hk => by have := (HO.out.lt k hk).1; omega)
  obtain ⟨A4, c4, rfl, l4, n4, _, o4⟩ := hg44.form
  have a40 : w4.cell? ⟨w.heap.size, 0, none⟩ = some (.int .i64 i) := blk_cell N0 0
  have a41 : w4.cell? ⟨w.heap.size, 1, none⟩ = some (.int .i64 f) := blk_cell N0 1
  have a42 : w4.cell? ⟨w.heap.size, 2, none⟩ = some (.int .i64 t) := blk_cell N0 2
  have a43 : w4.cell? ⟨w.heap.size, 3, none⟩ = some (.int .i64 cp) := blk_cell N0 3
  have a44 : w4.cell? ⟨w.heap.size, 4, none⟩ = some (.int .i64 s) := blk_cell N0 4
  have a45 : w4.cell? ⟨w.heap.size, 5, none⟩ = some (.slice (some ad) 0 c) := blk_cell N0 5
  have q40 : w4.cell? ⟨w.heap.size + 1, 0, none⟩ = some (.int .i64 0) := blk_cell N1 0
  have q41 : w4.cell? ⟨w.heap.size + 1, 1, none⟩ = some (.int .i64 0) := blk_cell N1 1
  have q42 : w4.cell? ⟨w.heap.size + 1, 2, none⟩ = some (.int .i64 0) := blk_cell N1 2
  have q43 : w4.cell? ⟨w.heap.size + 1, 3, none⟩ = some (.int .i64 0) := blk_cell N1 3
  have q44 : w4.cell? ⟨w.heap.size + 1, 4, none⟩ = some (.int .i64 0) := blk_cell N1 4
  have q45 : w4.cell? ⟨w.heap.size + 1, 5, none⟩ = some (.slice none 0 0) := blk_cell N1 5
  have f40 := blk_frozen N1 0
  have f41 := blk_frozen N1 1
  have f42 := blk_frozen N1 2
  have f43 := blk_frozen N1 3
  have f44 := blk_frozen N1 4
  have f45 := blk_frozen N1 5
  have g45 := blk_frozen N0 5
  have P0 := Lib.hid N0; have P1 := Lib.hid N1; have B4 := Lib.hid hb4; have O4 := Lib.hid o4; have L4 := Lib.hid (And.intro l4 n4)
  have hl1 : (ls ++ [m]).length = 0 + 1 := by rw [List.length_append, HLL.out]; rfl
  rw [hl1]
  have HL1 := Lib.hid hl1
  clear hown4 hg4 hg44 hne0 hne1 N0 N1 hb4 l4 n4 o4 hl1
  go_wp2
  have P1' := blk_far P1.out (p := ⟨w.heap.size, 5, none⟩) (show w.heap.size + 1 ≠ w.heap.size by omega) (.slice A4 (0 + 1) c4)
  refine ret_row_tmp rfl (w.heap.size + 1) 36 _ _ rfl (q_set P1' rfl _ _ _ _ _ _) Try.underlying36 rfl (by kernel_rfl) rfl ?_
  have hoo := own2_far6 (own2_far (k := 5) O4.out P0.out (by decide) (by decide) (.slice A4 (0 + 1) c4)) P1' (.int .i64 i) (.int .i64 f) (.int .i64 t) (.int .i64 cp) (.int .i64 s) (.slice A4 (0 + 1) c4)
  have hbb := q_below (g := w.heap.size + 1) (B4.out.setCell (p := ⟨w.heap.size, 5, none⟩) (Nat.le_refl _) (.slice A4 (0 + 1) c4)) (by omega) (.int .i64 i) (.int .i64 f) (.int .i64 t) (.int .i64 cp) (.int .i64 s) (.slice A4 (0 + 1) c4)
  rw [HV.out]
  exact ⟨A4, c4, by rw [show ((⟨i, f, t, cp, s⟩, ls ++ [m], (0 : Int)) : Ch × List Msg × Int).2.1.length = 0 + 1 from HL1.out]; rfl, ⟨L4.out.1, L4.out.2, hoo.mono (by omega) (by rw [size6]; simp)⟩, hbb⟩
set_option maxRecDepth 100000 in
set_option maxHeartbeats 4000000 in
theorem put_lt (i f t cp s : Int) (b off n c : Nat) (hp : ¬ n = 0) (hnc : n ≤ c) (ls : List Msg) (hn : ls.length = n) (m : Msg) (Am : Option Addr) (mn cm : Nat) (hmn : m.length = mn) (hmA : Am = none → cm = 0) (hmc : mn ≤ cm) (hq : mayQ ⟨i, f, t, cp, s⟩ ls = true) (hl : (mn : Int) ≤ s) (hlt : (n : Int) < cp) (w : World) (h : Rms w (some ⟨b, off, none⟩) ls) (hm : Rd w Am (bcs m)) :
    Calls Try.prog 47 #[.agg (qcells ⟨i, f, t, cp, s⟩ (some ⟨b, off, none⟩) n c), .slice Am mn cm] w (QOut (putR ⟨i, f, t, cp, s⟩ ls m) w) := by
  have g0 := Lib.hid (blk_alloc (blk_new w (qcells ⟨i, f, t, cp, s⟩ (some ⟨b, off, none⟩) n c) 36) (.cells (qcells ⟨0, 0, 0, 0, 0⟩ none 0 0) 36))
  have g1 := Lib.hid (show ((w.alloc (.cells (qcells ⟨i, f, t, cp, s⟩ (some ⟨b, off, none⟩) n c) 36)).alloc (.cells (qcells ⟨0, 0, 0, 0, 0⟩ none 0 0) 36)).heap[w.heap.size + 1]? = some (.cells (qcells ⟨0, 0, 0, 0, 0⟩ none 0 0) 36 (0, 0)) by
    have := blk_new (w.alloc (.cells (qcells ⟨i, f, t, cp, s⟩ (some ⟨b, off, none⟩) n c) 36)) (qcells ⟨0, 0, 0, 0, 0⟩ none 0 0) 36; simpa using this)
  have hsz : ((w.alloc (.cells (qcells ⟨i, f, t, cp, s⟩ (some ⟨b, off, none⟩) n c) 36)).alloc (.cells (qcells ⟨0, 0, 0, 0, 0⟩ none 0 0) 36)).heap.size = w.heap.size + 2 := by simp
  have hX : Below w.heap.size w ((w.alloc (.cells (qcells ⟨i, f, t, cp, s⟩ (some ⟨b, off, none⟩) n c) 36)).alloc (.cells (qcells ⟨0, 0, 0, 0, 0⟩ none 0 0) 36)) := ((Below.refl _ _).alloc (Nat.le_refl _) _).alloc (by simp) _
  have hy := mayQ_yes hq
  have hmay := mayC_iff.1 hy.1
  obtain ⟨_, hlen, hsz2⟩ := hy
  simp only at hmay hlen hsz2
  have hcp : cp ≤ 4 := by omega
  have hs16 : s ≤ 16 := by omega
  have T := mayQueue ⟨i, f, t, cp, s⟩ (some ⟨b, off, none⟩) c ls (by omega) ((w.alloc (.cells (qcells ⟨i, f, t, cp, s⟩ (some ⟨b, off, none⟩) n c) 36)).alloc (.cells (qcells ⟨0, 0, 0, 0, 0⟩ none 0 0) 36)) (h.below hX)
  rw [hq, hn] at T
  have HV := Lib.hid (show putR ⟨i, f, t, cp, s⟩ ls m = (⟨i, f, t, cp, s⟩, ls ++ [m], 0) by unfold putR; rw [hq, if_pos rfl, if_neg (by rw [hmn]; simp only; omega)]; unfold room; rw [if_neg (by simp only; omega)])
  have hLL : (ls).length = n := by omega
  have TC := fun (w : World) (h : Rms w (some ⟨b, off, none⟩) ls) => copied (some ⟨b, off, none⟩) n (ls) (by rw [hLL]; omega) (fun l hl => by have := hsz2 l (hl); omega) w (h)
  rw [hLL] at TC
  have TM := fun (w : World) (h : Rd w Am (bcs m)) => clone Am cm m hmA (by omega) (by omega) w h
  rw [hmn] at TM
  obtain ⟨i0, hi, hz0, hz1, hz2⟩ := info_parts info_row
  have e1 : ((n : Int) == cp) = false := by rw [beq_eq_false_iff_ne]; omega
  have e2 : ¬ (n : Int) = cp := by omega
  have e3 : (n : Int) ≤ (c : Int) := by omega
  dsimp only [qcells] at T hsz hX ⊢
  have H := Lib.hid (h.below hX); have HMs := Lib.hid (hm.below hX)
  have HT := Lib.hid T; have HTC := Lib.hid TC; have HTM := Lib.hid TM; have HLL := Lib.hid hLL; have HMN := Lib.hid hmn; have HN := Lib.hid hn
  have hn4 : n ≤ 4 := by omega
  have nos : ¬ s < (mn : Int) := by omega
  clear T h hq TC TM hm hmn hmA hmc hLL hn hmay hlen hsz2 hs16
  go_enter Try.func47, Try.ntmps47
  go_wp2_with fail
  refine HT.out.mono ?_
  rintro e w1 ⟨rfl, b1⟩
  have h0 := blk_below g0.out b1 (by omega); have h1 := blk_below g1.out b1 (by omega)
  have a10 : w1.cell? ⟨w.heap.size, 0, none⟩ = some (.int .i64 i) := blk_cell h0 0
  have a11 : w1.cell? ⟨w.heap.size, 1, none⟩ = some (.int .i64 f) := blk_cell h0 1
  have a12 : w1.cell? ⟨w.heap.size, 2, none⟩ = some (.int .i64 t) := blk_cell h0 2
  have a13 : w1.cell? ⟨w.heap.size, 3, none⟩ = some (.int .i64 cp) := blk_cell h0 3
  have a14 : w1.cell? ⟨w.heap.size, 4, none⟩ = some (.int .i64 s) := blk_cell h0 4
  have a15 : w1.cell? ⟨w.heap.size, 5, none⟩ = some (.slice (some ⟨b, off, none⟩) n c) := blk_cell h0 5
  have q10 : w1.cell? ⟨w.heap.size + 1, 0, none⟩ = some (.int .i64 0) := blk_cell h1 0
  have q11 : w1.cell? ⟨w.heap.size + 1, 1, none⟩ = some (.int .i64 0) := blk_cell h1 1
  have q12 : w1.cell? ⟨w.heap.size + 1, 2, none⟩ = some (.int .i64 0) := blk_cell h1 2
  have q13 : w1.cell? ⟨w.heap.size + 1, 3, none⟩ = some (.int .i64 0) := blk_cell h1 3
  have q14 : w1.cell? ⟨w.heap.size + 1, 4, none⟩ = some (.int .i64 0) := blk_cell h1 4
  have q15 : w1.cell? ⟨w.heap.size + 1, 5, none⟩ = some (.slice none 0 0) := blk_cell h1 5
  have f10 := blk_frozen h1 0
  have f11 := blk_frozen h1 1
  have f12 := blk_frozen h1 2
  have f13 := blk_frozen h1 3
  have f14 := blk_frozen h1 4
  have f15 := blk_frozen h1 5
  have K0 := Lib.hid h0; have K1 := Lib.hid h1
  have H1 := Lib.hid (H.out.below b1); have HM1 := Lib.hid (HMs.out.below b1)
  have z1 : w.heap.size + 2 ≤ w1.heap.size := by have := b1.size; omega
  have B1 := Lib.hid (hX.trans (b1.mono (by omega))); clear b1 h0 h1
  go_wp2_with fail
  refine (HTC.out _ H1.out).mono ?_
  rintro e w2 ⟨v2, rfl, hg2, b2⟩
  clear a10 a11 a12 a13 a14 a15 q10 q11 q12 q13 q14 q15 f10 f11 f12 f13 f14 f15
  have G2 := Lib.hid hg2; have z2 := b2.size
  have HM2 := Lib.hid (HM1.out.below b2)
  have L0 := Lib.hid (blk_below K0.out b2 (by omega)); have L1 := Lib.hid (blk_below K1.out b2 (by omega))
  have B2 := Lib.hid (B1.out.trans (b2.mono (by omega)))
  clear hg2 b2
  obtain ⟨A2, c2, rfl, _, _, _, _⟩ := G2.out.form
  have hLL2 : (ls).length = n := HLL.out
  rw [hLL2] at G2 ⊢
  clear hLL2
  go_wp2_with fail
  refine (HTM.out _ HM2.out).mono ?_
  rintro e w3 ⟨v3, rfl, hv3⟩
  have hm3 := hv3.msg
  obtain ⟨Av, cv, rfl, _, _, _, _, b3⟩ := hv3
  have hmn2 : m.length = mn := HMN.out
  rw [hmn2] at hm3 ⊢
  clear hmn2
  have z3 := b3.size
  have G3 := Lib.hid ((G2.out.below b3).alloc (.cells #[.slice Av mn cv] 24))
  have hb3 := B2.out.trans (b3.mono (by omega))
  have B3 := Lib.hid (hb3.alloc hb3.size (.cells #[.slice Av mn cv] 24))
  have hm3' := (hm3.below ((Below.refl w3.heap.size w3).alloc (Nat.le_refl _) (.cells #[.slice Av mn cv] 24)) (Nat.le_refl _)).mono (show w1.heap.size ≤ w2.heap.size from z2) (show w3.heap.size ≤ (w3.alloc (.cells #[.slice Av mn cv] 24)).heap.size by simp)
  obtain ⟨vs, hown, hvl, hms⟩ := G3.out.own
  have M0 := Lib.hid (blk_alloc (blk_below L0.out b3 (by omega)) (.cells #[.slice Av mn cv] 24)); have M1 := Lib.hid (blk_alloc (blk_below L1.out b3 (by omega)) (.cells #[.slice Av mn cv] 24))
  have hle := HLL.out
  rw [hle] at hown hvl
  have HM3 := Lib.hid hm3'; have HMS := Lib.hid hms; have HVL := Lib.hid hvl; have HO := Lib.hid hown
  have zz : w1.heap.size ≤ (w3.alloc (.cells #[.slice Av mn cv] 24)).heap.size := by simp; omega
  clear hm3 hm3' hb3 hms hvl hle b3 hown G2 G3
  go_wp2_with (at_builtin; refine wpList_append_rd _ rfl (.tmp 38) (.tmp 41) 34 rfl w1.heap.size 24 i0 (.slice none 0 0) 1 24 Try.underlying34 hi hz0 hz1 hz2 rfl (by decide) _ (n) vs rfl HO.out _ 1 _ [.slice Av mn cv] rfl rfl (Rd.new _ _ _) ?c2 ?c3 ?c4 zz ?_)
  case c2 => intro u hu; simp at hu; subst hu; rfl
  case c3 => unfold maxLen; omega
  case c4 => omega
  intro v4 w4 hown4 hg4
  have hg44 : Grow w1.heap.size w4 v4 (ls ++ [m]) := Grow.snoc (by rw [HLL.out]; exact HO.out) (by rw [HLL.out]; exact HVL.out) HMS.out HM3.out (by rw [HLL.out]; exact hown4) hg4
  have hne0 : some w.heap.size ≠ (Value.slice A2 (n) c2).ownBlock := own_ne HO.out M0.out (by decide)
  have hne1 : some (w.heap.size + 1) ≠ (Value.slice A2 (n) c2).ownBlock := own_ne HO.out M1.out (by decide)
  have N0 := blk_grown M0.out hg4 hne0; have N1 := blk_grown M1.out hg4 hne1
  have hb4 : Below w.heap.size w w4 := B3.out.grown hg4 (by omega) (fun k hk => by have := (HO.out.lt k hk).1; omega)
  obtain ⟨A4, c4, rfl, l4, n4, _, o4⟩ := hg44.form
  have a40 : w4.cell? ⟨w.heap.size, 0, none⟩ = some (.int .i64 i) := blk_cell N0 0
  have a41 : w4.cell? ⟨w.heap.size, 1, none⟩ = some (.int .i64 f) := blk_cell N0 1
  have a42 : w4.cell? ⟨w.heap.size, 2, none⟩ = some (.int .i64 t) := blk_cell N0 2
  have a43 : w4.cell? ⟨w.heap.size, 3, none⟩ = some (.int .i64 cp) := blk_cell N0 3
  have a44 : w4.cell? ⟨w.heap.size, 4, none⟩ = some (.int .i64 s) := blk_cell N0 4
  have a45 : w4.cell? ⟨w.heap.size, 5, none⟩ = some (.slice (some ⟨b, off, none⟩) n c) := blk_cell N0 5
  have q40 : w4.cell? ⟨w.heap.size + 1, 0, none⟩ = some (.int .i64 0) := blk_cell N1 0
  have q41 : w4.cell? ⟨w.heap.size + 1, 1, none⟩ = some (.int .i64 0) := blk_cell N1 1
  have q42 : w4.cell? ⟨w.heap.size + 1, 2, none⟩ = some (.int .i64 0) := blk_cell N1 2
  have q43 : w4.cell? ⟨w.heap.size + 1, 3, none⟩ = some (.int .i64 0) := blk_cell N1 3
  have q44 : w4.cell? ⟨w.heap.size + 1, 4, none⟩ = some (.int .i64 0) := blk_cell N1 4
  have q45 : w4.cell? ⟨w.heap.size + 1, 5, none⟩ = some (.slice none 0 0) := blk_cell N1 5
  have f40 := blk_frozen N1 0
  have f41 := blk_frozen N1 1
  have f42 := blk_frozen N1 2
  have f43 := blk_frozen N1 3
  have f44 := blk_frozen N1 4
  have f45 := blk_frozen N1 5
  have g45 := blk_frozen N0 5
  have P0 := Lib.hid N0; have P1 := Lib.hid N1; have B4 := Lib.hid hb4; have O4 := Lib.hid o4; have L4 := Lib.hid (And.intro l4 n4)
  have hl1 : (ls ++ [m]).length = n + 1 := by rw [List.length_append, HLL.out]; rfl
  rw [hl1]
  have HL1 := Lib.hid hl1
  clear hown4 hg4 hg44 hne0 hne1 N0 N1 hb4 l4 n4 o4 hl1
  go_wp2
  have P1' := blk_far P1.out (p := ⟨w.heap.size, 5, none⟩) (show w.heap.size + 1 ≠ w.heap.size by omega) (.slice A4 (n + 1) c4)
  refine ret_row_tmp rfl (w.heap.size + 1) 36 _ _ rfl (q_set P1' rfl _ _ _ _ _ _) Try.underlying36 rfl (by kernel_rfl) rfl ?_
  have hoo := own2_far6 (own2_far (k := 5) O4.out P0.out (by decide) (by decide) (.slice A4 (n + 1) c4)) P1' (.int .i64 i) (.int .i64 f) (.int .i64 t) (.int .i64 cp) (.int .i64 s) (.slice A4 (n + 1) c4)
  have hbb := q_below (g := w.heap.size + 1) (B4.out.setCell (p := ⟨w.heap.size, 5, none⟩) (Nat.le_refl _) (.slice A4 (n + 1) c4)) (by omega) (.int .i64 i) (.int .i64 f) (.int .i64 t) (.int .i64 cp) (.int .i64 s) (.slice A4 (n + 1) c4)
  rw [HV.out]
  exact ⟨A4, c4, by rw [show ((⟨i, f, t, cp, s⟩, ls ++ [m], (0 : Int)) : Ch × List Msg × Int).2.1.length = n + 1 from HL1.out]; rfl, ⟨L4.out.1, L4.out.2, hoo.mono (by omega) (by rw [size6]; simp)⟩, hbb⟩
set_option maxRecDepth 100000 in
set_option maxHeartbeats 4000000 in
theorem put_one (i f t cp s : Int) (b off c : Nat) (hnc : 1 ≤ c) (ls : List Msg) (hn : ls.length = 1) (m : Msg) (Am : Option Addr) (mn cm : Nat) (hmn : m.length = mn) (hmA : Am = none → cm = 0) (hmc : mn ≤ cm) (hq : mayQ ⟨i, f, t, cp, s⟩ ls = true) (hl : (mn : Int) ≤ s) (hlt : 1 = cp) (w : World) (h : Rms w (some ⟨b, off, none⟩) ls) (hm : Rd w Am (bcs m)) :
    Calls Try.prog 47 #[.agg (qcells ⟨i, f, t, cp, s⟩ (some ⟨b, off, none⟩) 1 c), .slice Am mn cm] w (QOut (putR ⟨i, f, t, cp, s⟩ ls m) w) := by
  have g0 := Lib.hid (blk_alloc (blk_new w (qcells ⟨i, f, t, cp, s⟩ (some ⟨b, off, none⟩) 1 c) 36) (.cells (qcells ⟨0, 0, 0, 0, 0⟩ none 0 0) 36))
  have g1 := Lib.hid (show ((w.alloc (.cells (qcells ⟨i, f, t, cp, s⟩ (some ⟨b, off, none⟩) 1 c) 36)).alloc (.cells (qcells ⟨0, 0, 0, 0, 0⟩ none 0 0) 36)).heap[w.heap.size + 1]? = some (.cells (qcells ⟨0, 0, 0, 0, 0⟩ none 0 0) 36 (0, 0)) by
    have := blk_new (w.alloc (.cells (qcells ⟨i, f, t, cp, s⟩ (some ⟨b, off, none⟩) 1 c) 36)) (qcells ⟨0, 0, 0, 0, 0⟩ none 0 0) 36; simpa using this)
  have hsz : ((w.alloc (.cells (qcells ⟨i, f, t, cp, s⟩ (some ⟨b, off, none⟩) 1 c) 36)).alloc (.cells (qcells ⟨0, 0, 0, 0, 0⟩ none 0 0) 36)).heap.size = w.heap.size + 2 := by simp
  have hX : Below w.heap.size w ((w.alloc (.cells (qcells ⟨i, f, t, cp, s⟩ (some ⟨b, off, none⟩) 1 c) 36)).alloc (.cells (qcells ⟨0, 0, 0, 0, 0⟩ none 0 0) 36)) := ((Below.refl _ _).alloc (Nat.le_refl _) _).alloc (by simp) _
  have hy := mayQ_yes hq
  have hmay := mayC_iff.1 hy.1
  obtain ⟨_, hlen, hsz2⟩ := hy
  simp only at hmay hlen hsz2
  have hcp : cp ≤ 4 := by omega
  have hs16 : s ≤ 16 := by omega
  have T := mayQueue ⟨i, f, t, cp, s⟩ (some ⟨b, off, none⟩) c ls (by omega) ((w.alloc (.cells (qcells ⟨i, f, t, cp, s⟩ (some ⟨b, off, none⟩) 1 c) 36)).alloc (.cells (qcells ⟨0, 0, 0, 0, 0⟩ none 0 0) 36)) (h.below hX)
  rw [hq, hn] at T
  have HV := Lib.hid (show putR ⟨i, f, t, cp, s⟩ ls m = (⟨i, f, t, cp, s⟩, (ls.drop 1) ++ [m], 0) by unfold putR; rw [hq, if_pos rfl, if_neg (by rw [hmn]; simp only; omega)]; unfold room; rw [if_pos (by simp only; omega)])
  have hLL : ((ls.drop 1)).length = 0 := by simp; omega
  have TC := fun (w : World) (h : Rms w (some ⟨b, off, none⟩) ls) => copied (some ⟨b, off, none⟩) 0 ((ls.drop 1)) (by rw [hLL]; omega) (fun l hl => by have := hsz2 l (List.mem_of_mem_drop hl); omega) w (by rw [show ls.drop 1 = [] from List.drop_eq_nil_of_le (by omega)]; exact Rms.nil)
  rw [hLL] at TC
  have TM := fun (w : World) (h : Rd w Am (bcs m)) => clone Am cm m hmA (by omega) (by omega) w h
  rw [hmn] at TM
  obtain ⟨i0, hi, hz0, hz1, hz2⟩ := info_parts info_row
  have e1 : ((1 : Int) == cp) = true := by rw [beq_iff_eq]; exact hlt
  have e3 : (1 : Int) ≤ (c : Int) := by omega
  have hlt' := Lib.hid hlt; clear hlt
  dsimp only [qcells] at T hsz hX ⊢
  have H := Lib.hid (h.below hX); have HMs := Lib.hid (hm.below hX)
  have HT := Lib.hid T; have HTC := Lib.hid TC; have HTM := Lib.hid TM; have HLL := Lib.hid hLL; have HMN := Lib.hid hmn; have HN := Lib.hid hn
  have hn4 : 1 ≤ 4 := by omega
  have nos : ¬ s < (mn : Int) := by omega
  clear T h hq TC TM hm hmn hmA hmc hLL hn hmay hlen hsz2 hs16
  go_enter Try.func47, Try.ntmps47
  go_wp2_with fail
  refine HT.out.mono ?_
  rintro e w1 ⟨rfl, b1⟩
  have h0 := blk_below g0.out b1 (by omega); have h1 := blk_below g1.out b1 (by omega)
  have a10 : w1.cell? ⟨w.heap.size, 0, none⟩ = some (.int .i64 i) := blk_cell h0 0
  have a11 : w1.cell? ⟨w.heap.size, 1, none⟩ = some (.int .i64 f) := blk_cell h0 1
  have a12 : w1.cell? ⟨w.heap.size, 2, none⟩ = some (.int .i64 t) := blk_cell h0 2
  have a13 : w1.cell? ⟨w.heap.size, 3, none⟩ = some (.int .i64 cp) := blk_cell h0 3
  have a14 : w1.cell? ⟨w.heap.size, 4, none⟩ = some (.int .i64 s) := blk_cell h0 4
  have a15 : w1.cell? ⟨w.heap.size, 5, none⟩ = some (.slice (some ⟨b, off, none⟩) 1 c) := blk_cell h0 5
  have q10 : w1.cell? ⟨w.heap.size + 1, 0, none⟩ = some (.int .i64 0) := blk_cell h1 0
  have q11 : w1.cell? ⟨w.heap.size + 1, 1, none⟩ = some (.int .i64 0) := blk_cell h1 1
  have q12 : w1.cell? ⟨w.heap.size + 1, 2, none⟩ = some (.int .i64 0) := blk_cell h1 2
  have q13 : w1.cell? ⟨w.heap.size + 1, 3, none⟩ = some (.int .i64 0) := blk_cell h1 3
  have q14 : w1.cell? ⟨w.heap.size + 1, 4, none⟩ = some (.int .i64 0) := blk_cell h1 4
  have q15 : w1.cell? ⟨w.heap.size + 1, 5, none⟩ = some (.slice none 0 0) := blk_cell h1 5
  have f10 := blk_frozen h1 0
  have f11 := blk_frozen h1 1
  have f12 := blk_frozen h1 2
  have f13 := blk_frozen h1 3
  have f14 := blk_frozen h1 4
  have f15 := blk_frozen h1 5
  have K0 := Lib.hid h0; have K1 := Lib.hid h1
  have H1 := Lib.hid (H.out.below b1); have HM1 := Lib.hid (HMs.out.below b1)
  have z1 : w.heap.size + 2 ≤ w1.heap.size := by have := b1.size; omega
  have B1 := Lib.hid (hX.trans (b1.mono (by omega))); clear b1 h0 h1
  go_wp2_with fail
  refine (HTC.out _ H1.out).mono ?_
  rintro e w2 ⟨v2, rfl, hg2, b2⟩
  clear a10 a11 a12 a13 a14 a15 q10 q11 q12 q13 q14 q15 f10 f11 f12 f13 f14 f15
  have G2 := Lib.hid hg2; have z2 := b2.size
  have HM2 := Lib.hid (HM1.out.below b2)
  have L0 := Lib.hid (blk_below K0.out b2 (by omega)); have L1 := Lib.hid (blk_below K1.out b2 (by omega))
  have B2 := Lib.hid (B1.out.trans (b2.mono (by omega)))
  clear hg2 b2
  obtain ⟨A2, c2, rfl, _, _, _, _⟩ := G2.out.form
  have hLL2 : ((ls.drop 1)).length = 0 := HLL.out
  rw [hLL2] at G2 ⊢
  clear hLL2
  go_wp2_with fail
  refine (HTM.out _ HM2.out).mono ?_
  rintro e w3 ⟨v3, rfl, hv3⟩
  have hm3 := hv3.msg
  obtain ⟨Av, cv, rfl, _, _, _, _, b3⟩ := hv3
  have hmn2 : m.length = mn := HMN.out
  rw [hmn2] at hm3 ⊢
  clear hmn2
  have z3 := b3.size
  have G3 := Lib.hid ((G2.out.below b3).alloc (.cells #[.slice Av mn cv] 24))
  have hb3 := B2.out.trans (b3.mono (by omega))
  have B3 := Lib.hid (hb3.alloc hb3.size (.cells #[.slice Av mn cv] 24))
  have hm3' := (hm3.below ((Below.refl w3.heap.size w3).alloc (Nat.le_refl _) (.cells #[.slice Av mn cv] 24)) (Nat.le_refl _)).mono (show w1.heap.size ≤ w2.heap.size from z2) (show w3.heap.size ≤ (w3.alloc (.cells #[.slice Av mn cv] 24)).heap.size by simp)
  obtain ⟨vs, hown, hvl, hms⟩ := G3.out.own
  have M0 := Lib.hid (blk_alloc (blk_below L0.out b3 (by omega)) (.cells #[.slice Av mn cv] 24)); have M1 := Lib.hid (blk_alloc (blk_below L1.out b3 (by omega)) (.cells #[.slice Av mn cv] 24))
  have hle := HLL.out
  rw [hle] at hown hvl
  have HM3 := Lib.hid hm3'; have HMS := Lib.hid hms; have HVL := Lib.hid hvl; have HO := Lib.hid hown
  have zz : w1.heap.size ≤ (w3.alloc (.cells #[.slice Av mn cv] 24)).heap.size := by simp; omega
  clear hm3 hm3' hb3 hms hvl hle b3 hown G2 G3
  go_wp2_with (at_builtin; refine wpList_append_rd _ rfl (.tmp 38) (.tmp 41) 34 rfl w1.heap.size 24 i0 (.slice none 0 0) 1 24 Try.underlying34 hi hz0 hz1 hz2 rfl (by decide) _ (0) vs rfl HO.out _ 1 _ [.slice Av mn cv] rfl rfl (Rd.new _ _ _) ?c2 ?c3 ?c4 zz ?_)
  case c2 => intro u hu; simp at hu; subst hu; rfl
  case c3 => unfold maxLen; omega
  case c4 => omega
  intro v4 w4 hown4 hg4
  have hg44 : Grow w1.heap.size w4 v4 ((ls.drop 1) ++ [m]) := Grow.snoc (by rw [HLL.out]; exact HO.out) (by rw [HLL.out]; exact HVL.out) HMS.out HM3.out (by rw [HLL.out]; exact hown4) hg4
  have hne0 : some w.heap.size ≠ (Value.slice A2 (0) c2).ownBlock := own_ne HO.out M0.out (by decide)
  have hne1 : some (w.heap.size + 1) ≠ (Value.slice A2 (0) c2).ownBlock := own_ne HO.out M1.out (by decide)
  have N0 := blk_grown M0.out hg4 hne0; have N1 := blk_grown M1.out hg4 hne1
  have hb4 : Below w.heap.size w w4 := B3.out.grown hg4 (by omega) (fun k hk => by have := (HO.out.lt k hk).1; omega)
  obtain ⟨A4, c4, rfl, l4, n4, _, o4⟩ := hg44.form
  have a40 : w4.cell? ⟨w.heap.size, 0, none⟩ = some (.int .i64 i) := blk_cell N0 0
  have a41 : w4.cell? ⟨w.heap.size, 1, none⟩ = some (.int .i64 f) := blk_cell N0 1
  have a42 : w4.cell? ⟨w.heap.size, 2, none⟩ = some (.int .i64 t) := blk_cell N0 2
  have a43 : w4.cell? ⟨w.heap.size, 3, none⟩ = some (.int .i64 cp) := blk_cell N0 3
  have a44 : w4.cell? ⟨w.heap.size, 4, none⟩ = some (.int .i64 s) := blk_cell N0 4
  have a45 : w4.cell? ⟨w.heap.size, 5, none⟩ = some (.slice (some ⟨b, off, none⟩) 1 c) := blk_cell N0 5
  have q40 : w4.cell? ⟨w.heap.size + 1, 0, none⟩ = some (.int .i64 0) := blk_cell N1 0
  have q41 : w4.cell? ⟨w.heap.size + 1, 1, none⟩ = some (.int .i64 0) := blk_cell N1 1
  have q42 : w4.cell? ⟨w.heap.size + 1, 2, none⟩ = some (.int .i64 0) := blk_cell N1 2
  have q43 : w4.cell? ⟨w.heap.size + 1, 3, none⟩ = some (.int .i64 0) := blk_cell N1 3
  have q44 : w4.cell? ⟨w.heap.size + 1, 4, none⟩ = some (.int .i64 0) := blk_cell N1 4
  have q45 : w4.cell? ⟨w.heap.size + 1, 5, none⟩ = some (.slice none 0 0) := blk_cell N1 5
  have f40 := blk_frozen N1 0
  have f41 := blk_frozen N1 1
  have f42 := blk_frozen N1 2
  have f43 := blk_frozen N1 3
  have f44 := blk_frozen N1 4
  have f45 := blk_frozen N1 5
  have g45 := blk_frozen N0 5
  have P0 := Lib.hid N0; have P1 := Lib.hid N1; have B4 := Lib.hid hb4; have O4 := Lib.hid o4; have L4 := Lib.hid (And.intro l4 n4)
  have hl1 : ((ls.drop 1) ++ [m]).length = 0 + 1 := by rw [List.length_append, HLL.out]; rfl
  rw [hl1]
  have HL1 := Lib.hid hl1
  clear hown4 hg4 hg44 hne0 hne1 N0 N1 hb4 l4 n4 o4 hl1
  go_wp2
  have P1' := blk_far P1.out (p := ⟨w.heap.size, 5, none⟩) (show w.heap.size + 1 ≠ w.heap.size by omega) (.slice A4 (0 + 1) c4)
  refine ret_row_tmp rfl (w.heap.size + 1) 36 _ _ rfl (q_set P1' rfl _ _ _ _ _ _) Try.underlying36 rfl (by kernel_rfl) rfl ?_
  have hoo := own2_far6 (own2_far (k := 5) O4.out P0.out (by decide) (by decide) (.slice A4 (0 + 1) c4)) P1' (.int .i64 i) (.int .i64 f) (.int .i64 t) (.int .i64 cp) (.int .i64 s) (.slice A4 (0 + 1) c4)
  have hbb := q_below (g := w.heap.size + 1) (B4.out.setCell (p := ⟨w.heap.size, 5, none⟩) (Nat.le_refl _) (.slice A4 (0 + 1) c4)) (by omega) (.int .i64 i) (.int .i64 f) (.int .i64 t) (.int .i64 cp) (.int .i64 s) (.slice A4 (0 + 1) c4)
  rw [HV.out]
  exact ⟨A4, c4, by rw [show ((⟨i, f, t, cp, s⟩, (ls.drop 1) ++ [m], (0 : Int)) : Ch × List Msg × Int).2.1.length = 0 + 1 from HL1.out]; rfl, ⟨L4.out.1, L4.out.2, hoo.mono (by omega) (by rw [size6]; simp)⟩, hbb⟩
set_option maxRecDepth 100000 in
set_option maxHeartbeats 4000000 in
theorem put_full (i f t cp s : Int) (b off n c : Nat) (hnc : n + 2 ≤ c) (ls : List Msg) (hn : ls.length = (n + 2)) (m : Msg) (Am : Option Addr) (mn cm : Nat) (hmn : m.length = mn) (hmA : Am = none → cm = 0) (hmc : mn ≤ cm) (hq : mayQ ⟨i, f, t, cp, s⟩ ls = true) (hl : (mn : Int) ≤ s) (hlt : (n : Int) + 2 = cp) (w : World) (h : Rms w (some ⟨b, off, none⟩) ls) (hm : Rd w Am (bcs m)) :
    Calls Try.prog 47 #[.agg (qcells ⟨i, f, t, cp, s⟩ (some ⟨b, off, none⟩) (n + 2) c), .slice Am mn cm] w (QOut (putR ⟨i, f, t, cp, s⟩ ls m) w) := by
  have g0 := Lib.hid (blk_alloc (blk_new w (qcells ⟨i, f, t, cp, s⟩ (some ⟨b, off, none⟩) (n + 2) c) 36) (.cells (qcells ⟨0, 0, 0, 0, 0⟩ none 0 0) 36))
  have g1 := Lib.hid (show ((w.alloc (.cells (qcells ⟨i, f, t, cp, s⟩ (some ⟨b, off, none⟩) (n + 2) c) 36)).alloc (.cells (qcells ⟨0, 0, 0, 0, 0⟩ none 0 0) 36)).heap[w.heap.size + 1]? = some (.cells (qcells ⟨0, 0, 0, 0, 0⟩ none 0 0) 36 (0, 0)) by
    have := blk_new (w.alloc (.cells (qcells ⟨i, f, t, cp, s⟩ (some ⟨b, off, none⟩) (n + 2) c) 36)) (qcells ⟨0, 0, 0, 0, 0⟩ none 0 0) 36; simpa using this)
  have hsz : ((w.alloc (.cells (qcells ⟨i, f, t, cp, s⟩ (some ⟨b, off, none⟩) (n + 2) c) 36)).alloc (.cells (qcells ⟨0, 0, 0, 0, 0⟩ none 0 0) 36)).heap.size = w.heap.size + 2 := by simp
  have hX : Below w.heap.size w ((w.alloc (.cells (qcells ⟨i, f, t, cp, s⟩ (some ⟨b, off, none⟩) (n + 2) c) 36)).alloc (.cells (qcells ⟨0, 0, 0, 0, 0⟩ none 0 0) 36)) := ((Below.refl _ _).alloc (Nat.le_refl _) _).alloc (by simp) _
  have hy := mayQ_yes hq
  have hmay := mayC_iff.1 hy.1
  obtain ⟨_, hlen, hsz2⟩ := hy
  simp only at hmay hlen hsz2
  have hcp : cp ≤ 4 := by omega
  have hs16 : s ≤ 16 := by omega
  have T := mayQueue ⟨i, f, t, cp, s⟩ (some ⟨b, off, none⟩) c ls (by omega) ((w.alloc (.cells (qcells ⟨i, f, t, cp, s⟩ (some ⟨b, off, none⟩) (n + 2) c) 36)).alloc (.cells (qcells ⟨0, 0, 0, 0, 0⟩ none 0 0) 36)) (h.below hX)
  rw [hq, hn] at T
  have HV := Lib.hid (show putR ⟨i, f, t, cp, s⟩ ls m = (⟨i, f, t, cp, s⟩, (ls.drop 1) ++ [m], 0) by unfold putR; rw [hq, if_pos rfl, if_neg (by rw [hmn]; simp only; omega)]; unfold room; rw [if_pos (by simp only; omega)])
  have hLL : ((ls.drop 1)).length = (n + 1) := by simp; omega
  have TC := fun (w : World) (h : Rms w (some ⟨b, off, none⟩) ls) => copied (some ⟨b, off + 1, none⟩) (n + 1) ((ls.drop 1)) (by rw [hLL]; omega) (fun l hl => by have := hsz2 l (List.mem_of_mem_drop hl); omega) w (h.drop1)
  rw [hLL] at TC
  have TM := fun (w : World) (h : Rd w Am (bcs m)) => clone Am cm m hmA (by omega) (by omega) w h
  rw [hmn] at TM
  obtain ⟨i0, hi, hz0, hz1, hz2⟩ := info_parts info_row
  have e1 : ((n : Int) + 2 == cp) = true := by rw [beq_iff_eq]; exact hlt
  have e3 : (n : Int) + 2 ≤ (c : Int) := by omega
  have hlt' := Lib.hid hlt; clear hlt
  dsimp only [qcells] at T hsz hX ⊢
  have H := Lib.hid (h.below hX); have HMs := Lib.hid (hm.below hX)
  have HT := Lib.hid T; have HTC := Lib.hid TC; have HTM := Lib.hid TM; have HLL := Lib.hid hLL; have HMN := Lib.hid hmn; have HN := Lib.hid hn
  have hn4 : (n + 2) ≤ 4 := by omega
  have nos : ¬ s < (mn : Int) := by omega
  clear T h hq TC TM hm hmn hmA hmc hLL hn hmay hlen hsz2 hs16
  go_enter Try.func47, Try.ntmps47
  go_wp2_with fail
  refine HT.out.mono ?_
  rintro e w1 ⟨rfl, b1⟩
  have h0 := blk_below g0.out b1 (by omega); have h1 := blk_below g1.out b1 (by omega)
  have a10 : w1.cell? ⟨w.heap.size, 0, none⟩ = some (.int .i64 i) := blk_cell h0 0
  have a11 : w1.cell? ⟨w.heap.size, 1, none⟩ = some (.int .i64 f) := blk_cell h0 1
  have a12 : w1.cell? ⟨w.heap.size, 2, none⟩ = some (.int .i64 t) := blk_cell h0 2
  have a13 : w1.cell? ⟨w.heap.size, 3, none⟩ = some (.int .i64 cp) := blk_cell h0 3
  have a14 : w1.cell? ⟨w.heap.size, 4, none⟩ = some (.int .i64 s) := blk_cell h0 4
  have a15 : w1.cell? ⟨w.heap.size, 5, none⟩ = some (.slice (some ⟨b, off, none⟩) (n + 2) c) := blk_cell h0 5
  have q10 : w1.cell? ⟨w.heap.size + 1, 0, none⟩ = some (.int .i64 0) := blk_cell h1 0
  have q11 : w1.cell? ⟨w.heap.size + 1, 1, none⟩ = some (.int .i64 0) := blk_cell h1 1
  have q12 : w1.cell? ⟨w.heap.size + 1, 2, none⟩ = some (.int .i64 0) := blk_cell h1 2
  have q13 : w1.cell? ⟨w.heap.size + 1, 3, none⟩ = some (.int .i64 0) := blk_cell h1 3
  have q14 : w1.cell? ⟨w.heap.size + 1, 4, none⟩ = some (.int .i64 0) := blk_cell h1 4
  have q15 : w1.cell? ⟨w.heap.size + 1, 5, none⟩ = some (.slice none 0 0) := blk_cell h1 5
  have f10 := blk_frozen h1 0
  have f11 := blk_frozen h1 1
  have f12 := blk_frozen h1 2
  have f13 := blk_frozen h1 3
  have f14 := blk_frozen h1 4
  have f15 := blk_frozen h1 5
  have K0 := Lib.hid h0; have K1 := Lib.hid h1
  have H1 := Lib.hid (H.out.below b1); have HM1 := Lib.hid (HMs.out.below b1)
  have z1 : w.heap.size + 2 ≤ w1.heap.size := by have := b1.size; omega
  have B1 := Lib.hid (hX.trans (b1.mono (by omega))); clear b1 h0 h1
  go_wp2_with fail
  refine (HTC.out _ H1.out).mono ?_
  rintro e w2 ⟨v2, rfl, hg2, b2⟩
  clear a10 a11 a12 a13 a14 a15 q10 q11 q12 q13 q14 q15 f10 f11 f12 f13 f14 f15
  have G2 := Lib.hid hg2; have z2 := b2.size
  have HM2 := Lib.hid (HM1.out.below b2)
  have L0 := Lib.hid (blk_below K0.out b2 (by omega)); have L1 := Lib.hid (blk_below K1.out b2 (by omega))
  have B2 := Lib.hid (B1.out.trans (b2.mono (by omega)))
  clear hg2 b2
  obtain ⟨A2, c2, rfl, _, _, _, _⟩ := G2.out.form
  have hLL2 : ((ls.drop 1)).length = (n + 1) := HLL.out
  rw [hLL2] at G2 ⊢
  clear hLL2
  go_wp2_with fail
  refine (HTM.out _ HM2.out).mono ?_
  rintro e w3 ⟨v3, rfl, hv3⟩
  have hm3 := hv3.msg
  obtain ⟨Av, cv, rfl, _, _, _, _, b3⟩ := hv3
  have hmn2 : m.length = mn := HMN.out
  rw [hmn2] at hm3 ⊢
  clear hmn2
  have z3 := b3.size
  have G3 := Lib.hid ((G2.out.below b3).alloc (.cells #[.slice Av mn cv] 24))
  have hb3 := B2.out.trans (b3.mono (by omega))
  have B3 := Lib.hid (hb3.alloc hb3.size (.cells #[.slice Av mn cv] 24))
  have hm3' := (hm3.below ((Below.refl w3.heap.size w3).alloc (Nat.le_refl _) (.cells #[.slice Av mn cv] 24)) (Nat.le_refl _)).mono (show w1.heap.size ≤ w2.heap.size from z2) (show w3.heap.size ≤ (w3.alloc (.cells #[.slice Av mn cv] 24)).heap.size by simp)
  obtain ⟨vs, hown, hvl, hms⟩ := G3.out.own
  have M0 := Lib.hid (blk_alloc (blk_below L0.out b3 (by omega)) (.cells #[.slice Av mn cv] 24)); have M1 := Lib.hid (blk_alloc (blk_below L1.out b3 (by omega)) (.cells #[.slice Av mn cv] 24))
  have hle := HLL.out
  rw [hle] at hown hvl
  have HM3 := Lib.hid hm3'; have HMS := Lib.hid hms; have HVL := Lib.hid hvl; have HO := Lib.hid hown
  have zz : w1.heap.size ≤ (w3.alloc (.cells #[.slice Av mn cv] 24)).heap.size := by simp; omega
  clear hm3 hm3' hb3 hms hvl hle b3 hown G2 G3
  go_wp2_with (at_builtin; refine wpList_append_rd _ rfl (.tmp 38) (.tmp 41) 34 rfl w1.heap.size 24 i0 (.slice none 0 0) 1 24 Try.underlying34 hi hz0 hz1 hz2 rfl (by decide) _ ((n + 1)) vs rfl HO.out _ 1 _ [.slice Av mn cv] rfl rfl (Rd.new _ _ _) ?c2 ?c3 ?c4 zz ?_)
  case c2 => intro u hu; simp at hu; subst hu; rfl
  case c3 => unfold maxLen; omega
  case c4 => omega
  intro v4 w4 hown4 hg4
  have hg44 : Grow w1.heap.size w4 v4 ((ls.drop 1) ++ [m]) := Grow.snoc (by rw [HLL.out]; exact HO.out) (by rw [HLL.out]; exact HVL.out) HMS.out HM3.out (by rw [HLL.out]; exact hown4) hg4
  have hne0 : some w.heap.size ≠ (Value.slice A2 ((n + 1)) c2).ownBlock := own_ne HO.out M0.out (by decide)
  have hne1 : some (w.heap.size + 1) ≠ (Value.slice A2 ((n + 1)) c2).ownBlock := own_ne HO.out M1.out (by decide)
  have N0 := blk_grown M0.out hg4 hne0; have N1 := blk_grown M1.out hg4 hne1
  have hb4 : Below w.heap.size w w4 := B3.out.grown hg4 (by omega) (fun k hk => by have := (HO.out.lt k hk).1; omega)
  obtain ⟨A4, c4, rfl, l4, n4, _, o4⟩ := hg44.form
  have a40 : w4.cell? ⟨w.heap.size, 0, none⟩ = some (.int .i64 i) := blk_cell N0 0
  have a41 : w4.cell? ⟨w.heap.size, 1, none⟩ = some (.int .i64 f) := blk_cell N0 1
  have a42 : w4.cell? ⟨w.heap.size, 2, none⟩ = some (.int .i64 t) := blk_cell N0 2
  have a43 : w4.cell? ⟨w.heap.size, 3, none⟩ = some (.int .i64 cp) := blk_cell N0 3
  have a44 : w4.cell? ⟨w.heap.size, 4, none⟩ = some (.int .i64 s) := blk_cell N0 4
  have a45 : w4.cell? ⟨w.heap.size, 5, none⟩ = some (.slice (some ⟨b, off, none⟩) (n + 2) c) := blk_cell N0 5
  have q40 : w4.cell? ⟨w.heap.size + 1, 0, none⟩ = some (.int .i64 0) := blk_cell N1 0
  have q41 : w4.cell? ⟨w.heap.size + 1, 1, none⟩ = some (.int .i64 0) := blk_cell N1 1
  have q42 : w4.cell? ⟨w.heap.size + 1, 2, none⟩ = some (.int .i64 0) := blk_cell N1 2
  have q43 : w4.cell? ⟨w.heap.size + 1, 3, none⟩ = some (.int .i64 0) := blk_cell N1 3
  have q44 : w4.cell? ⟨w.heap.size + 1, 4, none⟩ = some (.int .i64 0) := blk_cell N1 4
  have q45 : w4.cell? ⟨w.heap.size + 1, 5, none⟩ = some (.slice none 0 0) := blk_cell N1 5
  have f40 := blk_frozen N1 0
  have f41 := blk_frozen N1 1
  have f42 := blk_frozen N1 2
  have f43 := blk_frozen N1 3
  have f44 := blk_frozen N1 4
  have f45 := blk_frozen N1 5
  have g45 := blk_frozen N0 5
  have P0 := Lib.hid N0; have P1 := Lib.hid N1; have B4 := Lib.hid hb4; have O4 := Lib.hid o4; have L4 := Lib.hid (And.intro l4 n4)
  have hl1 : ((ls.drop 1) ++ [m]).length = (n + 1) + 1 := by rw [List.length_append, HLL.out]; rfl
  rw [hl1]
  have HL1 := Lib.hid hl1
  clear hown4 hg4 hg44 hne0 hne1 N0 N1 hb4 l4 n4 o4 hl1
  go_wp2
  have P1' := blk_far P1.out (p := ⟨w.heap.size, 5, none⟩) (show w.heap.size + 1 ≠ w.heap.size by omega) (.slice A4 ((n + 1) + 1) c4)
  refine ret_row_tmp rfl (w.heap.size + 1) 36 _ _ rfl (q_set P1' rfl _ _ _ _ _ _) Try.underlying36 rfl (by kernel_rfl) rfl ?_
  have hoo := own2_far6 (own2_far (k := 5) O4.out P0.out (by decide) (by decide) (.slice A4 ((n + 1) + 1) c4)) P1' (.int .i64 i) (.int .i64 f) (.int .i64 t) (.int .i64 cp) (.int .i64 s) (.slice A4 ((n + 1) + 1) c4)
  have hbb := q_below (g := w.heap.size + 1) (B4.out.setCell (p := ⟨w.heap.size, 5, none⟩) (Nat.le_refl _) (.slice A4 ((n + 1) + 1) c4)) (by omega) (.int .i64 i) (.int .i64 f) (.int .i64 t) (.int .i64 cp) (.int .i64 s) (.slice A4 ((n + 1) + 1) c4)
  rw [HV.out]
  exact ⟨A4, c4, by rw [show ((⟨i, f, t, cp, s⟩, (ls.drop 1) ++ [m], (0 : Int)) : Ch × List Msg × Int).2.1.length = (n + 1) + 1 from HL1.out]; rfl, ⟨L4.out.1, L4.out.2, hoo.mono (by omega) (by rw [size6]; simp)⟩, hbb⟩
end Go.Proofs.Ythkkmnckidfmkaa.chan
namespace Go.Proofs.Ythkkmnckidfmkaa.chan
open Go Go.ChangeShapes Go.WideShapes Go.ChangeAt Go.RowKit Go.Proofs.Ythkkmnckidfmkaa.rows
theorem str_eq (a b : Msg) : ((ByteArray.mk a.toArray).toList == (ByteArray.mk b.toArray).toList) = decide (a = b) := by
  rw [ByteArray.toList_mk, ByteArray.toList_mk, Bool.eq_iff_iff]; simp
theorem bytesEqual (a b : Msg) (A B : Option Addr) (c d : Nat) (v : Bool) (hv : decide (a = b) = v) (w : World) (h1 : Rd w A (bcs a)) (h2 : Rd w B (bcs b)) :
    Calls Try.prog 25 #[.slice A a.length c, .slice B b.length d] w fun e w' => e = .returned (.bool v) ∧ w = w' := by
  have k1 := str_rd a A a.length c rfl w h1
  have k2 := str_rd b B b.length d rfl w h2
  have he := str_eq a b
  rw [hv] at he
  generalize (ByteArray.mk a.toArray) = S1 at *
  generalize (ByteArray.mk b.toArray) = S2 at *
  generalize a.length = n at *
  generalize b.length = m at *
  clear h1 h2 hv
  go_enter Try.func25, Try.ntmps25
  go_wp2
  go_ret
  exact ⟨rfl, rfl⟩
theorem take_eq {a b : List Msg} (hl : a.length = b.length) {k : Nat} (h : a.take k = b.take k) {x y : Msg} (hx : a[k]? = some x) (hy : b[k]? = some y) : (x = y → a.take (k + 1) = b.take (k + 1)) ∧ (¬ x = y → ¬ a = b) := by
  have _ := hl
  refine ⟨fun e => by rw [List.take_add_one, List.take_add_one, h, hx, hy, e], fun e he => e ?_⟩
  subst he; rw [hx] at hy; injection hy
set_option maxHeartbeats 2000000 in
theorem equalFunc (la lb : List Msg) (A B : Option Addr) (c d : Nat) (h63 : la.length ≤ 1000000) (w : World) (h1 : Rms w A la) (h2 : Rms w B lb) :
    Calls Try.prog 31 #[.slice A la.length c, .slice B lb.length d, .func (.func 25) #[] #[]] w fun e w' => e = .returned (.bool (decide (la = lb))) ∧ w = w' := by
  by_cases hn : la.length = lb.length
  · have HN := Lib.hid hn
    have h63' : (la.length : Int) ≤ 1000000 := by omega
    have H1 := Lib.hid h1; have H2 := Lib.hid h2
    rw [← hn]
    clear h1 h2 hn
    go_enter Try.func31, Try.ntmps31
    go_wp2
    go_loopw [17] (fun i wr => ∃ k : Nat, k ≤ la.length ∧ i = .int .i64 k ∧ la.take k = lb.take k ∧ wr = w) (fun i _ => la.length - (intOf i).toNat)
    case atStart => exact ⟨0, Nat.zero_le _, rfl, rfl, rfl⟩
    case round =>
      obtain ⟨k, hk, rfl, ht, rfl⟩ := hrel
      have HT := Lib.hid ht; clear ht
      by_cases hkl : k < la.length
      · have hki : (k : Int) < (la.length : Int) := by omega
        have hkb : k < lb.length := by have := HN.out; omega
        obtain ⟨b1, o1, rfl⟩ := H1.out.addr (by omega)
        obtain ⟨b2, o2, rfl⟩ := H2.out.addr (by omega)
        obtain ⟨x, hx⟩ : ∃ x, la[k]? = some x := ⟨_, List.getElem?_eq_getElem hkl⟩
        obtain ⟨y, hy⟩ : ∃ y, lb[k]? = some y := ⟨_, List.getElem?_eq_getElem hkb⟩
        obtain ⟨Ax, cx, kx, _, _, rx⟩ := H1.out.at hx
        obtain ⟨Ay, cy, ky, _, _, ry⟩ := H2.out.at hy
        have HE := Lib.hid (take_eq HN.out HT.out hx hy)
        clear hx hy hkb
        by_cases hxy : x = y
        · have T := Lib.hid (bytesEqual x y Ax Ay cx cy true (decide_eq_true hxy) _ rx ry)
          have HXY := Lib.hid hxy
          clear rx ry hxy
          go_wp2_with fail
          refine T.out.mono ?_
          rintro e w' ⟨rfl, rfl⟩
          go_wp2_with fail
          go_roundw
          case rel => exact ⟨k + 1, by omega, by go_num, HE.out.1 HXY.out, trivial⟩
          case measure => simp [intOf]; omega
        · have T := Lib.hid (bytesEqual x y Ax Ay cx cy false (decide_eq_false hxy) _ rx ry)
          have HXY := Lib.hid hxy
          clear rx ry hxy
          go_wp2_with fail
          refine T.out.mono ?_
          rintro e w' ⟨rfl, rfl⟩
          go_wp2
          go_ret
          exact ⟨by rw [decide_eq_false (HE.out.2 HXY.out)]; rfl, rfl⟩
      · obtain rfl : k = la.length := by omega
        go_wp2
        go_ret
        refine ⟨?_, rfl⟩
        have h := HT.out
        rw [List.take_length, HN.out, List.take_length] at h
        rw [decide_eq_true h]; rfl
  · have hne : ¬ la = lb := fun e => hn (by rw [e])
    rw [decide_eq_false hne]
    have e1 : ((la.length : Int) == (lb.length : Int)) = false := by rw [beq_eq_false_iff_ne]; omega
    have e2 : ((la.length : Int) != (lb.length : Int)) = true := by rw [bne_iff_ne]; omega
    have e3 : (la.length == lb.length) = false := by rw [beq_eq_false_iff_ne]; exact hn
    have e4 : (la.length != lb.length) = true := by rw [bne_iff_ne]; exact hn
    clear h1 h2 hn hne h63
    generalize la.length = n at *
    generalize lb.length = m at *
    go_enter Try.func31, Try.ntmps31
    go_wp2
    go_ret
    exact ⟨rfl, rfl⟩
def sameQ (x : Ch) (la : List Msg) (y : Ch) (lb : List Msg) : Bool := decide (x = y) && decide (la = lb)
theorem ch_cases (x y : Ch) : x = y ∨ x.id ≠ y.id ∨ (x.id = y.id ∧ x.fr ≠ y.fr) ∨ (x.id = y.id ∧ x.fr = y.fr ∧ x.to ≠ y.to) ∨ (x.id = y.id ∧ x.fr = y.fr ∧ x.to = y.to ∧ x.cap ≠ y.cap) ∨ (x.id = y.id ∧ x.fr = y.fr ∧ x.to = y.to ∧ x.cap = y.cap ∧ x.sz ≠ y.sz) := by
  obtain ⟨a, b, c, d, e⟩ := x
  obtain ⟨a', b', c', d', e'⟩ := y
  simp only [Ch.mk.injEq]
  omega
theorem same_d0 (i f t cp s z f2 t2 cp2 s2 : Int) (A B : Option Addr) (n c m d : Nat) (hd : i ≠ z) (w : World) : Calls Try.prog 17 #[.agg (qcells ⟨i, f, t, cp, s⟩ A n c), .agg (qcells ⟨z, f2, t2, cp2, s2⟩ B m d)] w fun e w' => e = .returned (.bool false) ∧ Below w.heap.size w w' := by
  have e1 : (i == z) = false := by rw [beq_eq_false_iff_ne]; exact hd
  have e2 : (i != z) = true := by rw [bne_iff_ne]; exact hd
  have e3 : ¬ i = z := hd
  clear hd
  dsimp only [qcells]
  go_enter Try.func17, Try.ntmps17
  go_wp2
  go_ret
  exact ⟨rfl, ((Below.refl _ _).alloc (Nat.le_refl _) _).alloc (by simp) _⟩
theorem same_d1 (i f t cp s z t2 cp2 s2 : Int) (A B : Option Addr) (n c m d : Nat) (hd : f ≠ z) (w : World) : Calls Try.prog 17 #[.agg (qcells ⟨i, f, t, cp, s⟩ A n c), .agg (qcells ⟨i, z, t2, cp2, s2⟩ B m d)] w fun e w' => e = .returned (.bool false) ∧ Below w.heap.size w w' := by
  have e1 : (f == z) = false := by rw [beq_eq_false_iff_ne]; exact hd
  have e2 : (f != z) = true := by rw [bne_iff_ne]; exact hd
  have e3 : ¬ f = z := hd
  clear hd
  dsimp only [qcells]
  go_enter Try.func17, Try.ntmps17
  go_wp2
  go_ret
  exact ⟨rfl, ((Below.refl _ _).alloc (Nat.le_refl _) _).alloc (by simp) _⟩
theorem same_d2 (i f t cp s z cp2 s2 : Int) (A B : Option Addr) (n c m d : Nat) (hd : t ≠ z) (w : World) : Calls Try.prog 17 #[.agg (qcells ⟨i, f, t, cp, s⟩ A n c), .agg (qcells ⟨i, f, z, cp2, s2⟩ B m d)] w fun e w' => e = .returned (.bool false) ∧ Below w.heap.size w w' := by
  have e1 : (t == z) = false := by rw [beq_eq_false_iff_ne]; exact hd
  have e2 : (t != z) = true := by rw [bne_iff_ne]; exact hd
  have e3 : ¬ t = z := hd
  clear hd
  dsimp only [qcells]
  go_enter Try.func17, Try.ntmps17
  go_wp2
  go_ret
  exact ⟨rfl, ((Below.refl _ _).alloc (Nat.le_refl _) _).alloc (by simp) _⟩
theorem same_d3 (i f t cp s z s2 : Int) (A B : Option Addr) (n c m d : Nat) (hd : cp ≠ z) (w : World) : Calls Try.prog 17 #[.agg (qcells ⟨i, f, t, cp, s⟩ A n c), .agg (qcells ⟨i, f, t, z, s2⟩ B m d)] w fun e w' => e = .returned (.bool false) ∧ Below w.heap.size w w' := by
  have e1 : (cp == z) = false := by rw [beq_eq_false_iff_ne]; exact hd
  have e2 : (cp != z) = true := by rw [bne_iff_ne]; exact hd
  have e3 : ¬ cp = z := hd
  clear hd
  dsimp only [qcells]
  go_enter Try.func17, Try.ntmps17
  go_wp2
  go_ret
  exact ⟨rfl, ((Below.refl _ _).alloc (Nat.le_refl _) _).alloc (by simp) _⟩
theorem same_d4 (i f t cp s z  : Int) (A B : Option Addr) (n c m d : Nat) (hd : s ≠ z) (w : World) : Calls Try.prog 17 #[.agg (qcells ⟨i, f, t, cp, s⟩ A n c), .agg (qcells ⟨i, f, t, cp, z⟩ B m d)] w fun e w' => e = .returned (.bool false) ∧ Below w.heap.size w w' := by
  have e1 : (s == z) = false := by rw [beq_eq_false_iff_ne]; exact hd
  have e2 : (s != z) = true := by rw [bne_iff_ne]; exact hd
  have e3 : ¬ s = z := hd
  clear hd
  dsimp only [qcells]
  go_enter Try.func17, Try.ntmps17
  go_wp2
  go_ret
  exact ⟨rfl, ((Below.refl _ _).alloc (Nat.le_refl _) _).alloc (by simp) _⟩
theorem rsame_d0 (i f t cp s z f2 t2 cp2 s2 : Int) (A B : Option Addr) (n c m d : Nat) (hd : i ≠ z) (w : World) : Calls Try.prog 26 #[.agg (qcells ⟨i, f, t, cp, s⟩ A n c), .agg (qcells ⟨z, f2, t2, cp2, s2⟩ B m d)] w fun e w' => e = .returned (.bool false) ∧ Below w.heap.size w w' := by
  have e1 : (i == z) = false := by rw [beq_eq_false_iff_ne]; exact hd
  have e2 : (i != z) = true := by rw [bne_iff_ne]; exact hd
  have e3 : ¬ i = z := hd
  clear hd
  dsimp only [qcells]
  go_enter Try.func26, Try.ntmps26
  go_wp2
  go_ret
  exact ⟨rfl, ((Below.refl _ _).alloc (Nat.le_refl _) _).alloc (by simp) _⟩
theorem rsame_d1 (i f t cp s z t2 cp2 s2 : Int) (A B : Option Addr) (n c m d : Nat) (hd : f ≠ z) (w : World) : Calls Try.prog 26 #[.agg (qcells ⟨i, f, t, cp, s⟩ A n c), .agg (qcells ⟨i, z, t2, cp2, s2⟩ B m d)] w fun e w' => e = .returned (.bool false) ∧ Below w.heap.size w w' := by
  have e1 : (f == z) = false := by rw [beq_eq_false_iff_ne]; exact hd
  have e2 : (f != z) = true := by rw [bne_iff_ne]; exact hd
  have e3 : ¬ f = z := hd
  clear hd
  dsimp only [qcells]
  go_enter Try.func26, Try.ntmps26
  go_wp2
  go_ret
  exact ⟨rfl, ((Below.refl _ _).alloc (Nat.le_refl _) _).alloc (by simp) _⟩
theorem rsame_d2 (i f t cp s z cp2 s2 : Int) (A B : Option Addr) (n c m d : Nat) (hd : t ≠ z) (w : World) : Calls Try.prog 26 #[.agg (qcells ⟨i, f, t, cp, s⟩ A n c), .agg (qcells ⟨i, f, z, cp2, s2⟩ B m d)] w fun e w' => e = .returned (.bool false) ∧ Below w.heap.size w w' := by
  have e1 : (t == z) = false := by rw [beq_eq_false_iff_ne]; exact hd
  have e2 : (t != z) = true := by rw [bne_iff_ne]; exact hd
  have e3 : ¬ t = z := hd
  clear hd
  dsimp only [qcells]
  go_enter Try.func26, Try.ntmps26
  go_wp2
  go_ret
  exact ⟨rfl, ((Below.refl _ _).alloc (Nat.le_refl _) _).alloc (by simp) _⟩
theorem rsame_d3 (i f t cp s z s2 : Int) (A B : Option Addr) (n c m d : Nat) (hd : cp ≠ z) (w : World) : Calls Try.prog 26 #[.agg (qcells ⟨i, f, t, cp, s⟩ A n c), .agg (qcells ⟨i, f, t, z, s2⟩ B m d)] w fun e w' => e = .returned (.bool false) ∧ Below w.heap.size w w' := by
  have e1 : (cp == z) = false := by rw [beq_eq_false_iff_ne]; exact hd
  have e2 : (cp != z) = true := by rw [bne_iff_ne]; exact hd
  have e3 : ¬ cp = z := hd
  clear hd
  dsimp only [qcells]
  go_enter Try.func26, Try.ntmps26
  go_wp2
  go_ret
  exact ⟨rfl, ((Below.refl _ _).alloc (Nat.le_refl _) _).alloc (by simp) _⟩
theorem rsame_d4 (i f t cp s z  : Int) (A B : Option Addr) (n c m d : Nat) (hd : s ≠ z) (w : World) : Calls Try.prog 26 #[.agg (qcells ⟨i, f, t, cp, s⟩ A n c), .agg (qcells ⟨i, f, t, cp, z⟩ B m d)] w fun e w' => e = .returned (.bool false) ∧ Below w.heap.size w w' := by
  have e1 : (s == z) = false := by rw [beq_eq_false_iff_ne]; exact hd
  have e2 : (s != z) = true := by rw [bne_iff_ne]; exact hd
  have e3 : ¬ s = z := hd
  clear hd
  dsimp only [qcells]
  go_enter Try.func26, Try.ntmps26
  go_wp2
  go_ret
  exact ⟨rfl, ((Below.refl _ _).alloc (Nat.le_refl _) _).alloc (by simp) _⟩
theorem same_eq (i f t cp s : Int) (la lb : List Msg) (A B : Option Addr) (c d : Nat) (h63 : la.length ≤ 1000000) (w : World) (h1 : Rms w A la) (h2 : Rms w B lb) :
    Calls Try.prog 17 #[.agg (qcells ⟨i, f, t, cp, s⟩ A la.length c), .agg (qcells ⟨i, f, t, cp, s⟩ B lb.length d)] w fun e w' => e = .returned (.bool (decide (la = lb))) ∧ Below w.heap.size w w' := by
  have hX : Below w.heap.size w ((w.alloc (.cells (qcells ⟨i, f, t, cp, s⟩ A la.length c) 36)).alloc (.cells (qcells ⟨i, f, t, cp, s⟩ B lb.length d) 36)) := ((Below.refl _ _).alloc (Nat.le_refl _) _).alloc (by simp) _
  have T := equalFunc la lb A B c d h63 ((w.alloc (.cells (qcells ⟨i, f, t, cp, s⟩ A la.length c) 36)).alloc (.cells (qcells ⟨i, f, t, cp, s⟩ B lb.length d) 36)) (h1.below hX) (h2.below hX)
  dsimp only [qcells] at T hX ⊢
  generalize decide (la = lb) = r at *
  generalize la.length = n at *
  generalize lb.length = m at *
  have HT := Lib.hid T; have HX := Lib.hid hX
  clear T hX h1 h2
  go_enter Try.func17, Try.ntmps17
  go_wp2_with fail
  refine HT.out.mono ?_
  rintro e w' ⟨rfl, rfl⟩
  go_wp2
  go_ret
  exact ⟨rfl, HX.out⟩
theorem same (x y : Ch) (la lb : List Msg) (A B : Option Addr) (c d : Nat) (h63 : la.length ≤ 1000000) (w : World) (h1 : Rms w A la) (h2 : Rms w B lb) :
    Calls Try.prog 17 #[.agg (qcells x A la.length c), .agg (qcells y B lb.length d)] w fun e w' => e = .returned (.bool (sameQ x la y lb)) ∧ Below w.heap.size w w' := by
  unfold sameQ
  by_cases hxy : x = y
  · subst hxy
    rw [decide_eq_true rfl, Bool.true_and]
    exact same_eq x.id x.fr x.to x.cap x.sz la lb A B c d h63 w h1 h2
  · rw [decide_eq_false hxy, Bool.false_and]
    obtain ⟨i, f, t, cp, s⟩ := x
    obtain ⟨i2, f2, t2, cp2, s2⟩ := y
    rcases ch_cases ⟨i, f, t, cp, s⟩ ⟨i2, f2, t2, cp2, s2⟩ with h | h | ⟨e1, h⟩ | ⟨e1, e2, h⟩ | ⟨e1, e2, e3, h⟩ | ⟨e1, e2, e3, e4, h⟩
    · exact (hxy h).elim
    · exact same_d0 i f t cp s i2 f2 t2 cp2 s2 A B _ c _ d h w
    · simp only at e1; subst e1; exact same_d1 i f t cp s f2 t2 cp2 s2 A B _ c _ d h w
    · simp only at e1 e2; subst e1 e2; exact same_d2 i f t cp s t2 cp2 s2 A B _ c _ d h w
    · simp only at e1 e2 e3; subst e1 e2 e3; exact same_d3 i f t cp s cp2 s2 A B _ c _ d h w
    · simp only at e1 e2 e3 e4; subst e1 e2 e3 e4; exact same_d4 i f t cp s s2 A B _ c _ d h w
set_option maxHeartbeats 2000000 in
theorem rsame_eq (i f t cp s : Int) (la lb : List Msg) (A B : Option Addr) (c d : Nat) (h63 : la.length ≤ 1000000) (w : World) (h1 : Rms w A la) (h2 : Rms w B lb) :
    Calls Try.prog 26 #[.agg (qcells ⟨i, f, t, cp, s⟩ A la.length c), .agg (qcells ⟨i, f, t, cp, s⟩ B lb.length d)] w fun e w' => e = .returned (.bool (decide (la = lb))) ∧ Below w.heap.size w w' := by
  have hX : Below w.heap.size w ((w.alloc (.cells (qcells ⟨i, f, t, cp, s⟩ A la.length c) 36)).alloc (.cells (qcells ⟨i, f, t, cp, s⟩ B lb.length d) 36)) := ((Below.refl _ _).alloc (Nat.le_refl _) _).alloc (by simp) _
  have g0 : ((w.alloc (.cells (qcells ⟨i, f, t, cp, s⟩ A la.length c) 36)).alloc (.cells (qcells ⟨i, f, t, cp, s⟩ B lb.length d) 36)).heap[w.heap.size]? = some (.cells (qcells ⟨i, f, t, cp, s⟩ A la.length c) 36 (0, 0)) := blk_alloc (blk_new w _ _) _
  have g1 : ((w.alloc (.cells (qcells ⟨i, f, t, cp, s⟩ A la.length c) 36)).alloc (.cells (qcells ⟨i, f, t, cp, s⟩ B lb.length d) 36)).heap[w.heap.size + 1]? = some (.cells (qcells ⟨i, f, t, cp, s⟩ B lb.length d) 36 (0, 0)) := by
    have := blk_new (w.alloc (.cells (qcells ⟨i, f, t, cp, s⟩ A la.length c) 36)) (qcells ⟨i, f, t, cp, s⟩ B lb.length d) 36; simpa using this
  have H1 := Lib.hid (h1.below hX); have H2 := Lib.hid (h2.below hX)
  have hsz : ((w.alloc (.cells (qcells ⟨i, f, t, cp, s⟩ A la.length c) 36)).alloc (.cells (qcells ⟨i, f, t, cp, s⟩ B lb.length d) 36)).heap.size = w.heap.size + 2 := by simp
  have G0 := Lib.hid g0; have G1 := Lib.hid g1; have HX := Lib.hid hX
  have h63' : (la.length : Int) ≤ 1000000 := by omega
  clear h1 h2 g0 g1 hX
  by_cases hn : la.length = lb.length
  · have HN := Lib.hid hn
    rw [← hn] at H2 G0 G1 HX H1 hsz ⊢
    dsimp only [qcells] at hsz ⊢
    clear hn
    go_enter Try.func26, Try.ntmps26
    go_wp2
    generalize hW : (w.alloc (.cells #[.int .i64 i, .int .i64 f, .int .i64 t, .int .i64 cp, .int .i64 s, .slice A la.length c] 36)).alloc (.cells #[.int .i64 i, .int .i64 f, .int .i64 t, .int .i64 cp, .int .i64 s, .slice B la.length d] 36) = W at *
    have P0 : Hid (W.heap[w.heap.size]? = some (.cells (qcells ⟨i, f, t, cp, s⟩ A la.length c) 36 (0, 0))) := Lib.hid (by rw [← hW]; exact G0.out)
    have P1 : Hid (W.heap[w.heap.size + 1]? = some (.cells (qcells ⟨i, f, t, cp, s⟩ B la.length d) 36 (0, 0))) := Lib.hid (by rw [← hW]; exact G1.out)
    have Q1 : Hid (Rms W A la) := Lib.hid (by rw [← hW]; exact H1.out)
    have Q2 : Hid (Rms W B lb) := Lib.hid (by rw [← hW]; exact H2.out)
    have BW : Hid (Below w.heap.size w W) := Lib.hid (by rw [← hW]; exact HX.out)
    clear G0 G1 H1 H2 HX hW
    go_loopw [5] (fun i wr => ∃ k : Nat, k ≤ la.length ∧ i = .int .i64 k ∧ la.take k = lb.take k ∧ Below W.heap.size W wr) (fun i _ => la.length - (intOf i).toNat)
    case atStart => exact ⟨0, Nat.zero_le _, rfl, rfl, Below.refl _ _⟩
    case round =>
      obtain ⟨k, hk, rfl, ht, hb⟩ := hrel
      have HT := Lib.hid ht; have HB := Lib.hid hb; clear ht hb
      have p0 := blk_below P0.out HB.out (by omega); have p1 := blk_below P1.out HB.out (by omega)
      have c5 : wr.cell? ⟨w.heap.size, 5, none⟩ = some (.slice A la.length c) := blk_cell p0 5
      have d5 : wr.cell? ⟨w.heap.size + 1, 5, none⟩ = some (.slice B la.length d) := blk_cell p1 5
      clear p0 p1
      by_cases hkl : k < la.length
      · have hki : (k : Int) < (la.length : Int) := by omega
        have hkb : k < lb.length := by have := HN.out; omega
        obtain ⟨b1, o1, rfl⟩ := Q1.out.addr (by omega)
        obtain ⟨b2, o2, rfl⟩ := Q2.out.addr (by omega)
        obtain ⟨x, hx⟩ : ∃ x, la[k]? = some x := ⟨_, List.getElem?_eq_getElem hkl⟩
        obtain ⟨y, hy⟩ : ∃ y, lb[k]? = some y := ⟨_, List.getElem?_eq_getElem hkb⟩
        obtain ⟨Ax, cx, kx, _, _, rx⟩ := (Q1.out.below HB.out).at hx
        obtain ⟨Ay, cy, ky, _, _, ry⟩ := (Q2.out.below HB.out).at hy
        have HE := Lib.hid (take_eq HN.out HT.out hx hy)
        have S1 := fun nq : Nat => str_rd x Ax x.length cx rfl (wr.drewN nq) rx
        have S2 := fun nq : Nat => str_rd y Ay y.length cy rfl (wr.drewN nq) ry
        have he := str_eq x y
        clear hx hy hkb rx ry
        generalize (ByteArray.mk x.toArray) = SX at *
        generalize (ByteArray.mk y.toArray) = SY at *
        by_cases hxy : x = y
        · rw [decide_eq_true hxy] at he
          have hen : (SX.toList != SY.toList) = false := by rw [bne, he]; rfl
          have HXY := Lib.hid hxy
          clear hxy
          go_wp2_with fail
          go_quiet (fail)
          go_wp2_with fail
          go_roundw
          case rel => exact ⟨k + 1, by omega, by go_num, HE.out.1 HXY.out, below_drewN HB.out _⟩
          case measure => simp [intOf]; omega
        · rw [decide_eq_false hxy] at he
          have hen : (SX.toList != SY.toList) = true := by rw [bne, he]; rfl
          have HXY := Lib.hid hxy
          clear hxy
          go_wp2_with fail
          go_quiet (fail)
          go_wp2
          go_ret
          exact ⟨by rw [decide_eq_false (HE.out.2 HXY.out)]; rfl, BW.out.trans ((below_drewN HB.out _).mono (by omega))⟩
      · obtain rfl : k = la.length := by omega
        go_wp2
        go_ret
        refine ⟨?_, BW.out.trans (HB.out.mono (by omega))⟩
        have h := HT.out
        rw [List.take_length, HN.out, List.take_length] at h
        rw [decide_eq_true h]; rfl
  · have hne : ¬ la = lb := fun e => hn (by rw [e])
    rw [decide_eq_false hne]
    have e1 : ((la.length : Int) == (lb.length : Int)) = false := by rw [beq_eq_false_iff_ne]; omega
    have e2 : ((la.length : Int) != (lb.length : Int)) = true := by rw [bne_iff_ne]; omega
    have e3 : (la.length == lb.length) = false := by rw [beq_eq_false_iff_ne]; exact hn
    have e4 : (la.length != lb.length) = true := by rw [bne_iff_ne]; exact hn
    dsimp only [qcells] at hsz ⊢
    clear hn hne h63 H1 H2 G0 G1
    generalize la.length = n at *
    generalize lb.length = m at *
    go_enter Try.func26, Try.ntmps26
    go_wp2
    go_ret
    exact ⟨rfl, HX.out⟩
theorem rsame (x y : Ch) (la lb : List Msg) (A B : Option Addr) (c d : Nat) (h63 : la.length ≤ 1000000) (w : World) (h1 : Rms w A la) (h2 : Rms w B lb) :
    Calls Try.prog 26 #[.agg (qcells x A la.length c), .agg (qcells y B lb.length d)] w fun e w' => e = .returned (.bool (sameQ x la y lb)) ∧ Below w.heap.size w w' := by
  unfold sameQ
  by_cases hxy : x = y
  · subst hxy
    rw [decide_eq_true rfl, Bool.true_and]
    exact rsame_eq x.id x.fr x.to x.cap x.sz la lb A B c d h63 w h1 h2
  · rw [decide_eq_false hxy, Bool.false_and]
    obtain ⟨i, f, t, cp, s⟩ := x
    obtain ⟨i2, f2, t2, cp2, s2⟩ := y
    rcases ch_cases ⟨i, f, t, cp, s⟩ ⟨i2, f2, t2, cp2, s2⟩ with h | h | ⟨e1, h⟩ | ⟨e1, e2, h⟩ | ⟨e1, e2, e3, h⟩ | ⟨e1, e2, e3, e4, h⟩
    · exact (hxy h).elim
    · exact rsame_d0 i f t cp s i2 f2 t2 cp2 s2 A B _ c _ d h w
    · simp only at e1; subst e1; exact rsame_d1 i f t cp s f2 t2 cp2 s2 A B _ c _ d h w
    · simp only at e1 e2; subst e1 e2; exact rsame_d2 i f t cp s t2 cp2 s2 A B _ c _ d h w
    · simp only at e1 e2 e3; subst e1 e2 e3; exact rsame_d3 i f t cp s cp2 s2 A B _ c _ d h w
    · simp only at e1 e2 e3 e4; subst e1 e2 e3 e4; exact rsame_d4 i f t cp s s2 A B _ c _ d h w
end Go.Proofs.Ythkkmnckidfmkaa.chan
