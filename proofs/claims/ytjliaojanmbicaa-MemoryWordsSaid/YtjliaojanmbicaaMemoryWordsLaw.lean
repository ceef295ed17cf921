/- The law MemoryWords: its walk. -/
import Derived.Test.YtjliaojanmbicaaRows
import Derived.Test.YtjliaojanmbicaaMemO
import Derived.Test.YtjliaojanmbicaaMemoryStoredLaw
namespace Go.Proofs.Ytjliaojanmbicaa.mem.words
open Go Go.ChangeShapes Go.WideShapes Go.ChangeAt Go.RowKit Go.Proofs.Ytjliaojanmbicaa.mem Go.Proofs.Ytjliaojanmbicaa.mem.stored
/-! ### The plain law -/
def yk (x k : Nat) : Nat := x / 256 ^ (3 - k) % 256
def zk (x k : Nat) : Nat := x / 256 ^ (4 - k)
theorem four {k : Nat} (hk : k < 4) : k = 0 ∨ k = 1 ∨ k = 2 ∨ k = 3 := by omega
theorem wordBytes_at (x k : Nat) (hk : k < 4) : ∃ y, (wordBytes x)[k]? = some y ∧ y.toNat = yk x k := by
  rcases four hk with rfl | rfl | rfl | rfl
  · exact ⟨_, rfl, by simp [yk]⟩
  · exact ⟨_, rfl, by simp [yk]⟩
  · exact ⟨_, rfl, by simp [yk]⟩
  · exact ⟨_, rfl, by simp [yk]⟩
theorem zk_step (x k : Nat) (hx : x < 4294967296) (hk : k < 4) : zk x (k + 1) = zk x k * 256 + yk x k ∧ zk x k < 16777216 ∧ yk x k < 256 := by
  rcases four hk with rfl | rfl | rfl | rfl <;> simp [zk, yk] <;> omega
theorem or_step (Z b : Nat) (hZ : Z < 16777216) (hb : b < 256) : bits .or .u32 ((Z : Int) * 256) (b : Int) = ((Z * 256 + b : Nat) : Int) := by
  have e1 : (Z : Int) * 256 = ((2 ^ 8 * Z : Nat) : Int) := by omega
  rw [e1, u32_or_nat _ _ (by omega) (by omega), ← Nat.two_pow_add_eq_or_of_lt (i := 8) (by omega) Z]
  congr 1; omega
theorem getD_word (l : List UInt8) (x a k : Nat) (hk : k < 4) (he : thereE l.length a 4 = 0) : ((written l (wordBytes x) a).getD (a + k) 0).toNat = yk x k := by
  obtain ⟨y, h1, h2⟩ := wordBytes_at x k hk
  have he' : thereE l.length a (wordBytes x).length = 0 := he
  rw [List.getD, at_written l (wordBytes x) a he', if_pos (by have : (wordBytes x).length = 4 := rfl; omega), show a + k - a = k by omega, h1]
  exact h2
theorem word_of (l : List UInt8) (x a : Nat) (hx : x < 4294967296) (he : thereE l.length a 4 = 0) : wordAt (written l (wordBytes x) a) a = (x : Int) := by
  have he' : thereE l.length a (wordBytes x).length = 0 := he
  unfold wordAt
  rw [len_written l (wordBytes x) a he', if_pos he]
  simp only [Int.toNat_natCast]
  have h0 := getD_word l x a 0 (by decide) he
  have h1 := getD_word l x a 1 (by decide) he
  have h2 := getD_word l x a 2 (by decide) he
  have h3 := getD_word l x a 3 (by decide) he
  rw [Nat.add_zero] at h0
  rw [h0, h1, h2, h3]
  simp [word4, yk]; omega
theorem byte_of (l : List UInt8) (x a k : Nat) (hk : k < 4) (he : thereE l.length a 4 = 0) : byteAt (written l (wordBytes x) a) ((a : Int) + k) = (yk x k : Int) ∧ thereE l.length ((a : Int) + k) 1 = 0 := by
  have he' : thereE l.length a (wordBytes x).length = 0 := he
  have hin := in_of (m := 4) he
  have ht : thereE l.length ((a : Int) + k) 1 = 0 := there_in hin.1 ⟨by omega, by decide, by omega⟩
  refine ⟨?_, ht⟩
  unfold byteAt
  rw [len_written l (wordBytes x) a he', if_pos ht, show ((a : Int) + k).toNat = a + k by omega, getD_word l x a k hk he]
/-! ### The walk -/
theorem long (l : List UInt8) (i x : Int) (A : Option Addr) (c : Nat) (h : 512 < l.length) (w : World) : Calls Try.prog 5 #[.slice A l.length c, .int .i64 i, .int .u32 x] w fun e w' => e = .returned (.bool true) ∧ Below w.heap.size w w' := by
  have h1 : (512 : Int) < (l.length : Int) := by omega
  go_enter Try.func5, Try.ntmps5
  go_wp2_with fail
  refine (mem.awake _).mono ?_
  rintro e w1 ⟨rfl, hb⟩
  have HB := Lib.hid hb; clear hb
  go_wp2
  go_ret
  exact ⟨rfl, HB.out⟩
theorem bad (l : List UInt8) (i : Int) (x : Nat) (hx : x < 4294967296) (A : Option Addr) (c : Nat) (hA : A = none → c = 0) (hc : l.length ≤ c) (hl : l.length ≤ 512) (he : thereE l.length i 4 = 180) (w : World) (h : Rd w A (bcs l)) :
    Calls Try.prog 5 #[.slice A l.length c, .int .i64 i, .int .u32 (x : Int)] w fun e w' => e = .returned (.bool true) ∧ Below w.heap.size w w' := by
  have T := store32 l A c hA hc i x hx w h
  rw [show written l (wordBytes x) i = [] by unfold written; rw [if_neg (by rw [show ((wordBytes x).length : Int) = 4 from rfl]; omega)], he] at T
  have T2 := fun (A : Option Addr) (c : Nat) (hc : ([] : List UInt8).length ≤ c) (w : World) h => load32 [] A c hc i w h
  have T3 := fun (w : World) (h : Rd w A (bcs l)) => load32 l A c hc i w h
  rw [he] at T3
  have h3 : ¬ (512 : Int) < (l.length : Int) := by omega
  generalize wordAt [] i = X at *
  generalize wordAt l i = Y at *
  rw [List.length_nil] at T2
  generalize thereE 0 i 4 = E0 at *
  have HT := Lib.hid T; have H2 := Lib.hid T2; have H3 := Lib.hid T3; have HH := Lib.hid h
  clear T T2 T3 he hA hc hl h
  generalize l.length = n at *
  go_enter Try.func5, Try.ntmps5
  go_wp2_with fail
  refine HT.out.mono ?_
  rintro e w1 ⟨v, rfl, hv⟩
  obtain ⟨A3, c3, rfl, hc3, _, r3, b1⟩ := copy_form hv
  rw [List.length_nil] at hc3 ⊢
  have B1 := Lib.hid b1; have R3 := Lib.hid r3; clear b1 hv r3
  go_wp2_with fail
  refine (H2.out A3 c3 hc3 _ R3.out).mono ?_
  rintro e w2 ⟨rfl, b2⟩
  have B2 := Lib.hid (B1.out.trans (b2.mono B1.out.size)); clear b2
  go_wp2_with fail
  refine (H3.out _ (HH.out.below B2.out)).mono ?_
  rintro e w3 ⟨rfl, b3⟩
  have B3 := Lib.hid (B2.out.trans (b3.mono B2.out.size)); clear b3
  go_wp2_with fail
  refine (mem.awake _).mono ?_
  rintro e w4 ⟨rfl, b4⟩
  have B4 := Lib.hid (B3.out.trans (b4.mono B3.out.size)); clear b4
  go_wp2
  go_ret
  exact ⟨rfl, B4.out⟩
set_option maxRecDepth 100000 in
set_option maxHeartbeats 2000000 in
theorem good (l : List UInt8) (a x : Nat) (hx : x < 4294967296) (A : Option Addr) (c : Nat) (hA : A = none → c = 0) (hc : l.length ≤ c) (hl : l.length ≤ 512) (he : thereE l.length a 4 = 0) (w : World) (h : Rd w A (bcs l)) :
    Calls Try.prog 5 #[.slice A l.length c, .int .i64 a, .int .u32 (x : Int)] w fun e w' => e = .returned (.bool true) ∧ Below w.heap.size w w' := by
  have hwl := len_written l (wordBytes x) a he
  have T1 := store32 l A c hA hc a x hx w h
  have T2 := fun (A : Option Addr) (c : Nat) (hc : (written l (wordBytes x) a).length ≤ c) (w : World) h => load32 (written l (wordBytes x) a) A c hc a w h
  rw [word_of l x a hx he] at T2
  have T4 := fun (A : Option Addr) (c : Nat) (hc : (written l (wordBytes x) a).length ≤ c) (k : Nat) (hk : k < 4) (w : World) h => load_c (written l (wordBytes x) a) _ rfl ((a : Int) + k) _ 0 (byte_of l x a k hk he).1 (by rw [hwl]; exact (byte_of l x a k hk he).2) A c hc w h
  rw [hwl, he] at T2
  rw [hwl] at T4
  rw [he] at T1
  have h3 : ¬ (512 : Int) < (l.length : Int) := by omega
  have ha : (a : Int) ≤ 512 := by have := in_of (m := 4) he; omega
  have hz0 : zk x 0 = 0 := by unfold zk; omega
  have hz4 : zk x 4 = x := by simp [zk]
  have hzs := fun k hk => zk_step x k hx hk
  generalize written l (wordBytes x) a = W at *
  generalize l.length = n at *
  have H1 := Lib.hid T1; have H2 := Lib.hid T2; have H4 := Lib.hid T4; have HH := Lib.hid h; have HW := Lib.hid hwl; have HZ0 := Lib.hid hz0; have HZ4 := Lib.hid hz4; have HZS := Lib.hid hzs
  clear T1 T2 T4 h hwl he hA hc hl hz0 hz4 hzs hx
  go_enter Try.func5, Try.ntmps5
  go_wp2_with fail
  refine H1.out.mono ?_
  rintro e w1 ⟨v, rfl, hv⟩
  obtain ⟨A3, c3, rfl, hc3, hA3, r3, b1⟩ := copy_form hv
  have HW' : W.length = n := HW.out
  rw [HW'] at hc3 ⊢
  have B1 := Lib.hid b1; have R3 := Lib.hid r3; clear b1 hv r3 HW' hA3
  go_wp2_with fail
  refine (H2.out A3 c3 hc3 _ R3.out).mono ?_
  rintro e w2 ⟨rfl, b2⟩
  have B2 := Lib.hid (B1.out.trans (b2.mono B1.out.size))
  have R3b := Lib.hid (R3.out.below b2)
  clear b2
  go_wp2_with fail
  go_loopw [13, 14] (fun z i wr => ∃ k : Nat, k ≤ 4 ∧ i = .int .i64 k ∧ z = .int .u32 (zk x k : Int) ∧ wr = w2) (fun _ i _ => 4 - (intOf i).toNat)
  case atStart => exact ⟨0, Nat.zero_le _, rfl, by rw [HZ0.out]; rfl, rfl⟩
  case round =>
    obtain ⟨k, hk, rfl, rfl, rfl⟩ := hrel
    by_cases hk4 : k < 4
    · have hki : (k : Int) < 4 := by omega
      have hwr : IntKind.i64.wrap ((a : Int) + (k : Int)) = (a : Int) + (k : Int) := IntWalk.i64_in _ (by omega)
      obtain ⟨q1, q2, q3⟩ := HZS.out k hk4
      have HQ := Lib.hid (or_step (zk x k) (yk x k) q2 q3)
      rw [← q1] at HQ
      have f1 : (0 : Int) ≤ (zk x k : Int) := by omega
      have f2 : (zk x k : Int) < 16777216 := by omega
      have f3 : (0 : Int) ≤ (yk x k : Int) := by omega
      have f4 : (yk x k : Int) < 256 := by omega
      clear q1 q2 q3 hk
      go_wp2_with fail
      refine (H4.out A3 c3 hc3 k hk4 _ R3b.out).mono ?_
      rintro e w2' ⟨rfl, rfl⟩
      obtain ⟨w2, rfl⟩ : ∃ w0 : World, w0 = w2' := ⟨_, rfl⟩
      go_wp2_with fail
      go_roundw
      case rel => exact ⟨k + 1, by omega, by go_num, by rw [HQ.out], trivial⟩
      case measure => simp [intOf]; omega
    · obtain rfl : k = 4 := by omega
      have HZ4' : zk x 4 = x := HZ4.out
      rw [HZ4']
      clear HZ4'
      go_wp2_with fail
      refine (mem.awake _).mono ?_
      rintro e w3 ⟨rfl, b3⟩
      have B3 := Lib.hid (B2.out.trans (b3.mono B2.out.size)); clear b3
      go_wp2
      go_ret
      exact ⟨rfl, B3.out⟩
theorem law (l : List UInt8) (i : Int) (x : Nat) (hx : x < 4294967296) (A : Option Addr) (c : Nat) (hA : A = none → c = 0) (hc : l.length ≤ c) (w : World) (h : Rd w A (bcs l)) :
    Calls Try.prog 5 #[.slice A l.length c, .int .i64 i, .int .u32 (x : Int)] w fun e w' => e = .returned (.bool true) ∧ Below w.heap.size w w' := by
  by_cases h5 : 512 < l.length
  · exact long l i x A c h5 w
  · by_cases h3 : 0 ≤ i ∧ 0 ≤ (4 : Int) ∧ i + 4 ≤ l.length
    · obtain ⟨a, rfl⟩ := Int.eq_ofNat_of_zero_le h3.1
      exact good l a x hx A c hA hc (by omega) (there_in (by omega) h3) w h
    · exact bad l i x hx A c hA hc (by omega) (there_out (by omega) h3) w h
theorem law_int (l : List UInt8) (i x : Int) (hx : IntKind.u32.min ≤ x ∧ x ≤ IntKind.u32.max) (A : Option Addr) (c : Nat) (hA : A = none → c = 0) (hc : l.length ≤ c) (w : World) (h : Rd w A (bcs l)) :
    Calls Try.prog 5 #[.slice A l.length c, .int .i64 i, .int .u32 x] w fun e w' => e = .returned (.bool true) ∧ Below w.heap.size w w' := by
  have h1 : 0 ≤ x := hx.1
  have h2 : x ≤ 4294967295 := hx.2
  obtain ⟨y, rfl⟩ := Int.eq_ofNat_of_zero_le h1
  exact law l i y (by omega) A c hA hc w h
end Go.Proofs.Ytjliaojanmbicaa.mem.words
