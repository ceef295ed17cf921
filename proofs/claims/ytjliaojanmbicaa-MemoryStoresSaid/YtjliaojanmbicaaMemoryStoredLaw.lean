/- The law MemoryStored: its walk. -/
import Derived.Test.YtjliaojanmbicaaRows
import Derived.Test.YtjliaojanmbicaaMemN
namespace Go.Proofs.Ytjliaojanmbicaa.mem.stored
open Go Go.ChangeShapes Go.WideShapes Go.ChangeAt Go.RowKit Go.Proofs.Ytjliaojanmbicaa.mem
theorem own_form2 {w : World} {base : Nat} {e : TypeId} {size n : Nat} {v : Value} {xs : List Value} (h : w.ownsRow base e size v n xs) : ∃ A c, v = .slice A n c ∧ n ≤ c ∧ (A = none → c = 0) ∧ Rd w A xs := by
  have h' := h
  rcases h.2 with ⟨rfl, rfl⟩ | ⟨g, cap, cur, rfl, _, _, hnc, _⟩
  · exact ⟨none, 0, rfl, Nat.le_refl _, fun _ => rfl, Rd.of_own h'⟩
  · exact ⟨_, cap, rfl, hnc, (fun h => by cases h), Rd.of_own h'⟩
theorem copy_form {l : List UInt8} {w w' : World} {v : Value} (h : CopyOf l w v w') : ∃ A c, v = .slice A l.length c ∧ l.length ≤ c ∧ (A = none → c = 0) ∧ Rd w' A (bcs l) ∧ Below w.heap.size w w' := by
  obtain ⟨A, c, rfl, ho, hb⟩ := h
  obtain ⟨A', c', e, h1, h2, h3⟩ := own_form2 ho
  injection e with e1 _ e2
  subst e1; subst e2
  exact ⟨A, c, rfl, h1, h2, h3, hb⟩
/-! ### The plain law -/
theorem in_of {n a m : Nat} (h : thereE n a m = 0) : n ≤ 512 ∧ a + m ≤ n := by
  unfold thereE at h; split at h
  · omega
  · split at h <;> omega
theorem len_written (l b : List UInt8) (a : Nat) (h : thereE l.length a b.length = 0) : (written l b a).length = l.length := by
  have h2 := in_of h
  unfold written; rw [if_pos h]; simp; omega
theorem at_written (l b : List UInt8) (a : Nat) (h : thereE l.length a b.length = 0) (j : Nat) : (written l b a)[j]? = if a ≤ j ∧ j < a + b.length then b[j - a]? else l[j]? := by
  have h2 := in_of h
  unfold written; rw [if_pos h]
  simp only [Int.toNat_natCast]
  by_cases h3 : j < a
  · rw [if_neg (by omega), List.append_assoc, List.getElem?_append_left (by simp; omega), List.getElem?_take, if_pos h3]
  · by_cases h4 : j < a + b.length
    · rw [if_pos (by omega), List.getElem?_append_left (by simp; omega), List.getElem?_append_right (by simp; omega)]
      congr 1; simp; omega
    · rw [if_neg (by omega), List.getElem?_append_right (by simp; omega), List.getElem?_drop]
      congr 1; simp; omega
theorem part_written (l b : List UInt8) (a : Nat) (h : thereE l.length a b.length = 0) : mem.part (written l b a) a b.length = b := by
  have h2 := in_of h
  unfold mem.part
  rw [len_written l b a h, if_pos h]
  apply List.ext_getElem?
  intro j
  rw [List.getElem?_take]
  simp only [Int.toNat_natCast]
  by_cases hj : j < b.length
  · rw [if_pos hj, List.getElem?_drop, at_written l b a h, if_pos (by omega)]
    congr 1; omega
  · rw [if_neg hj, List.getElem?_eq_none (by omega)]
theorem byte_written (l b : List UInt8) (a : Nat) (h : thereE l.length a b.length = 0) (o : Int) (ho : ¬ ((a : Int) ≤ o ∧ o - a < b.length)) : byteAt (written l b a) o = byteAt l o := by
  unfold byteAt
  rw [len_written l b a h]
  by_cases h3 : thereE l.length o 1 = 0
  · rw [if_pos h3, if_pos h3]
    have h4 : 0 ≤ o := by
      unfold thereE at h3; split at h3
      · omega
      · split at h3 <;> omega
    obtain ⟨j, rfl⟩ := Int.eq_ofNat_of_zero_le h4
    simp only [Int.toNat_natCast, List.getD]
    rw [at_written l b a h, if_neg (by omega)]
  · rw [if_neg h3, if_neg h3]
/-! ### The walk -/
theorem long (l b : List UInt8) (i o : Int) (A A2 : Option Addr) (c d : Nat) (h : 512 < l.length ∨ 512 < b.length) (w : World) : Calls Try.prog 4 #[.slice A l.length c, .int .i64 i, .slice A2 b.length d, .int .i64 o] w fun e w' => e = .returned (.bool true) ∧ Below w.heap.size w w' := by
  by_cases h1 : (512 : Int) < (l.length : Int)
  all_goals
    have h2 : (512 : Int) < (b.length : Int) ∨ True := by first | (left; omega) | (right; trivial)
    first | (have h3 : (512 : Int) < (b.length : Int) := by omega) | skip
    clear h h2
    go_enter Try.func4, Try.ntmps4
    go_wp2_with fail
    refine (mem.awake _).mono ?_
    rintro e w1 ⟨rfl, hb⟩
    have HB := Lib.hid hb; clear hb
    go_wp2
    go_ret
    exact ⟨rfl, HB.out⟩
theorem bad (l b : List UInt8) (i o : Int) (A A2 : Option Addr) (c d : Nat) (hA : A = none → c = 0) (hc : l.length ≤ c) (hl : l.length ≤ 512) (hb : b.length ≤ 512) (he : thereE l.length i b.length = 180) (w : World) (h : Rd w A (bcs l)) (h2 : Rd w A2 (bcs b)) :
    Calls Try.prog 4 #[.slice A l.length c, .int .i64 i, .slice A2 b.length d, .int .i64 o] w fun e w' => e = .returned (.bool true) ∧ Below w.heap.size w w' := by
  have T := write l b A A2 c d hA hc i w h h2
  rw [show written l b i = [] by unfold written; rw [if_neg (by omega)], he] at T
  have HT := Lib.hid T
  have h3 : ¬ (512 : Int) < (l.length : Int) := by omega
  have h4 : ¬ (512 : Int) < (b.length : Int) := by omega
  clear T he hA hc hl hb h h2
  generalize l.length = n at *
  generalize b.length = m at *
  go_enter Try.func4, Try.ntmps4
  go_wp2_with fail
  refine HT.out.mono ?_
  rintro e w1 ⟨v, rfl, hv⟩
  obtain ⟨A3, c3, rfl, _, _, _, b1⟩ := copy_form hv
  rw [List.length_nil]
  have B1 := Lib.hid b1; clear b1 hv
  go_wp2_with fail
  refine (mem.awake _).mono ?_
  rintro e w2 ⟨rfl, b2⟩
  have B2 := Lib.hid (B1.out.trans (b2.mono B1.out.size)); clear b2
  go_wp2
  go_ret
  exact ⟨rfl, B2.out⟩
set_option maxRecDepth 100000 in
set_option maxHeartbeats 2000000 in
theorem good (l b : List UInt8) (a : Nat) (o : Int) (ho1 : -9223372036854775808 ≤ o) (ho2 : o ≤ 9223372036854775807) (A A2 : Option Addr) (c d : Nat) (hA : A = none → c = 0) (hc : l.length ≤ c) (hl : l.length ≤ 512) (hb : b.length ≤ 512) (he : thereE l.length a b.length = 0) (w : World) (h : Rd w A (bcs l)) (h2 : Rd w A2 (bcs b)) :
    Calls Try.prog 4 #[.slice A l.length c, .int .i64 a, .slice A2 b.length d, .int .i64 o] w fun e w' => e = .returned (.bool true) ∧ Below w.heap.size w w' := by
  have hwl := len_written l b a he
  have T1 := write l b A A2 c d hA hc a w h h2
  have T2 := fun (A : Option Addr) (c : Nat) (hA : A = none → c = 0) (hc : (written l b a).length ≤ c) (w : World) h => read (written l b a) A c hA hc a b.length w h
  have T3 := fun (w : World) h => load l A c hc o w h
  have T4 := fun (A : Option Addr) (c : Nat) (hc : (written l b a).length ≤ c) (w : World) h => load (written l b a) A c hc o w h
  have S1 := fun (A : Option Addr) (c : Nat) (w : World) h => str_rd b A b.length c rfl w h
  rw [part_written l b a he] at T2
  rw [hwl, he] at T2
  rw [hwl] at T4
  rw [he] at T1
  have hbyte := byte_written l b a he o
  have h3 : ¬ (512 : Int) < (l.length : Int) := by omega
  have h4 : ¬ (512 : Int) < (b.length : Int) := by omega
  have ha : (a : Int) ≤ 512 := by have := in_of he; omega
  generalize thereE l.length o 1 = E1 at *
  generalize byteAt l o = X at *
  generalize byteAt (written l b a) o = Y at *
  generalize (ByteArray.mk b.toArray) = S at *
  generalize written l b a = W at *
  generalize l.length = n at *
  generalize hm : b.length = m at *
  have H1 := Lib.hid T1; have H2 := Lib.hid T2; have H3 := Lib.hid T3; have H4 := Lib.hid T4; have HS := Lib.hid S1; have HH := Lib.hid h; have HH2 := Lib.hid h2; have HW := Lib.hid hwl; have HY := Lib.hid hbyte; have HM := Lib.hid hm
  clear T1 T2 T3 T4 S1 h h2 hwl hbyte he hA hc hl hb hm
  go_enter Try.func4, Try.ntmps4
  go_wp2_with fail
  refine H1.out.mono ?_
  rintro e w1 ⟨v, rfl, hv⟩
  obtain ⟨A3, c3, rfl, hc3, hA3, r3, b1⟩ := copy_form hv
  have HW' : W.length = n := HW.out
  rw [HW'] at hc3 ⊢
  have B1 := Lib.hid b1; have R3 := Lib.hid r3; have HA3 := Lib.hid hA3; clear b1 hv r3 HW' hA3
  go_wp2_with fail
  refine (H2.out A3 c3 HA3.out hc3 _ R3.out).mono ?_
  rintro e w2 ⟨v, rfl, hv⟩
  obtain ⟨A4, c4, rfl, hc4, hA4, r4, b2⟩ := copy_form hv
  have HM' : b.length = m := HM.out
  rw [HM'] at hc4 ⊢
  have B2 := Lib.hid (B1.out.trans (b2.mono B1.out.size))
  have R3b := Lib.hid (R3.out.below b2)
  have s1 := HS.out A4 c4 w2 r4
  have s2 := HS.out A2 d w2 (HH2.out.below B2.out)
  clear hv r4 b2 HM' hc4 hA4
  go_wp2_with fail
  refine (H3.out _ (HH.out.below B2.out)).mono ?_
  rintro e w2' ⟨rfl, rfl⟩
  obtain ⟨w2, rfl⟩ : ∃ w0 : World, w0 = w2' := ⟨_, rfl⟩
  go_wp2_with fail
  refine (H4.out A3 c3 hc3 _ R3b.out).mono ?_
  rintro e w2' ⟨rfl, rfl⟩
  obtain ⟨w2, rfl⟩ : ∃ w0 : World, w0 = w2' := ⟨_, rfl⟩
  by_cases hio : (a : Int) ≤ o
  · have hwr : IntKind.i64.wrap (o - (a : Int)) = o - (a : Int) := IntWalk.i64_in _ (by omega)
    by_cases hin : o - (a : Int) < (m : Int)
    · go_wp2_with fail
      refine (mem.awake _).mono ?_
      rintro e w3 ⟨rfl, b3⟩
      have B3 := Lib.hid (B2.out.trans (b3.mono B2.out.size)); clear b3
      go_wp2
      go_ret
      exact ⟨rfl, B3.out⟩
    · have hxy := HY.out (by omega)
      subst hxy
      go_wp2_with fail
      refine (mem.awake _).mono ?_
      rintro e w3 ⟨rfl, b3⟩
      have B3 := Lib.hid (B2.out.trans (b3.mono B2.out.size)); clear b3
      go_wp2
      go_ret
      exact ⟨rfl, B3.out⟩
  · have hxy := HY.out (by omega)
    subst hxy
    go_wp2_with fail
    refine (mem.awake _).mono ?_
    rintro e w3 ⟨rfl, b3⟩
    have B3 := Lib.hid (B2.out.trans (b3.mono B2.out.size)); clear b3
    go_wp2
    go_ret
    exact ⟨rfl, B3.out⟩
theorem law (l b : List UInt8) (i o : Int) (ho1 : -9223372036854775808 ≤ o) (ho2 : o ≤ 9223372036854775807) (A A2 : Option Addr) (c d : Nat) (hA : A = none → c = 0) (hc : l.length ≤ c) (w : World) (h : Rd w A (bcs l)) (h2 : Rd w A2 (bcs b)) :
    Calls Try.prog 4 #[.slice A l.length c, .int .i64 i, .slice A2 b.length d, .int .i64 o] w fun e w' => e = .returned (.bool true) ∧ Below w.heap.size w w' := by
  by_cases h5 : 512 < l.length ∨ 512 < b.length
  · exact long l b i o A A2 c d h5 w
  · by_cases h3 : 0 ≤ i ∧ 0 ≤ (b.length : Int) ∧ i + b.length ≤ l.length
    · obtain ⟨a, rfl⟩ := Int.eq_ofNat_of_zero_le h3.1
      exact good l b a o ho1 ho2 A A2 c d hA hc (by omega) (by omega) (there_in (by omega) h3) w h h2
    · exact bad l b i o A A2 c d hA hc (by omega) (by omega) (there_out (by omega) h3) w h h2
end Go.Proofs.Ytjliaojanmbicaa.mem.stored
