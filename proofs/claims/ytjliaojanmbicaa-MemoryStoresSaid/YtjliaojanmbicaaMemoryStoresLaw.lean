/- The law MemoryStores: its walk. -/
import Derived.Test.YtjliaojanmbicaaRows
import Derived.Test.YtjliaojanmbicaaMemO
import Derived.Test.YtjliaojanmbicaaLibC
import Derived.Test.YtjliaojanmbicaaMemoryStoredLaw
namespace Go.Proofs.Ytjliaojanmbicaa.mem.stores
open Go Go.ChangeShapes Go.WideShapes Go.ChangeAt Go.RowKit Go.Proofs.Ytjliaojanmbicaa.mem Go.Proofs.Ytjliaojanmbicaa.mem.stored
theorem bcs_ints (l : List UInt8) : ∀ u ∈ bcs l, ∃ z : Int, u = .int .u8 z := by
  intro u hu; obtain ⟨x, _, rfl⟩ := List.mem_map.1 hu; exact ⟨_, rfl⟩
/-- A copy, as what a law's later part wants of it. -/
theorem copy_form3 {l : List UInt8} {w w' : World} {v : Value} (h : CopyOf l w v w') : ∃ A c, v = .slice A l.length c ∧ l.length ≤ c ∧ (A = none → c = 0) ∧ Rd w' A (bcs l) ∧ Below w.heap.size w w' ∧ BysIn 5 w.heap.size w'.heap.size w' A l.length := by
  obtain ⟨A, c, rfl, ho, hb⟩ := h
  obtain ⟨A', c', e, h1, h2, h3⟩ := own_form2 ho
  injection e with e1 _ e2
  subst e1; subst e2
  exact ⟨A, c, rfl, h1, h2, h3, hb, BysIn.of_own ho (bcs_ints l) (Nat.le_refl _)⟩
theorem long (l b : List UInt8) (i x y : Int) (A A2 : Option Addr) (c d : Nat) (h : 600 < l.length ∨ 600 < b.length) (w : World) : Calls Try.prog 6 #[.slice A l.length c, .int .i64 i, .int .u8 x, .int .u32 y, .slice A2 b.length d] w fun e w' => e = .returned (.bool true) ∧ Below w.heap.size w w' := by
  by_cases h1 : (600 : Int) < (l.length : Int)
  all_goals
    first | (have h3 : (600 : Int) < (b.length : Int) := by omega) | skip
    clear h
    go_enter Try.func6, Try.ntmps6
    go_wp2
    go_ret
    exact ⟨rfl, Below.refl _ _⟩
theorem written_le (l b : List UInt8) (i : Int) : (written l b i).length ≤ l.length := by
  unfold written
  split
  · rename_i h
    have h2 : 0 ≤ i ∧ 0 ≤ (b.length : Int) ∧ i + b.length ≤ l.length := by
      unfold thereE at h; split at h
      · omega
      · split at h
        · assumption
        · omega
    simp; omega
  · simp
set_option maxRecDepth 100000 in
set_option maxHeartbeats 4000000 in
theorem short (l b : List UInt8) (i : Int) (x : UInt8) (y : Nat) (hy : y < 4294967296) (A A2 : Option Addr) (c d : Nat) (hl : l.length ≤ 600) (hb : b.length ≤ 600) (w : World) (h : Rd w A (bcs l)) (h2 : Rd w A2 (bcs b)) :
    Calls Try.prog 6 #[.slice A l.length c, .int .i64 i, .int .u8 (x.toNat : Int), .int .u32 (y : Int), .slice A2 b.length d] w fun e w' => e = .returned (.bool true) ∧ Below w.heap.size w w' := by
  have T1 := lent l A c (by omega) w h
  have T2 := fun (w : World) (h : Rd w A2 (bcs b)) => lent b A2 d (by omega) w h
  have T3 := fun (g cap : Nat) (hcap : l.length ≤ cap) (w : World) h => store l (some ⟨g, 0, none⟩) cap (fun h => by cases h) hcap i x w h
  have T4 := fun (g cap : Nat) (hcap : l.length ≤ cap) (w : World) h => store32 l (some ⟨g, 0, none⟩) cap (fun h => by cases h) hcap i y hy w h
  have T5 := fun (g g2 cap cap2 : Nat) (hcap : l.length ≤ cap) (w : World) h h2 => write l b (some ⟨g, 0, none⟩) (some ⟨g2, 0, none⟩) cap cap2 (fun h => by cases h) hcap i w h h2
  have T6 := fun (w : World) (h : Rd w A (bcs l)) h2 => rwrite l [x] A (some ⟨w.heap.size - 1, 0, none⟩) c 1 i w h h2
  have T7 := fun (w : World) => rword y hy w
  have T8 := fun (g : Nat) (w : World) (h : Rd w A (bcs l)) h2 => rwrite l (wordBytes y) A (some ⟨g, 0, none⟩) c 4 i w h h2
  have T9 := fun (w : World) (h : Rd w A (bcs l)) h2 => rwrite l b A A2 c d i w h h2
  have T10 := fun (g cap : Nat) (hcap : l.length + 1 ≤ cap) (w : World) h h2 => stays l (by omega) A g cap c hcap w h h2
  have T11 := fun (g cap : Nat) (hcap : b.length + 1 ≤ cap) (w : World) h h2 => stays b (by omega) A2 g cap d hcap w h h2
  have htk : (bcs (l ++ [99])).take l.length = bcs l := by simp [bcs, Lib.byteCells]
  have htb : (bcs (b ++ [99])).take b.length = bcs b := by simp [bcs, Lib.byteCells]
  have hP1 := written_le l [x] i
  have hP3 := written_le l b i
  have hl3 : ¬ (600 : Int) < (l.length : Int) := by omega
  have hb3 : ¬ (600 : Int) < (b.length : Int) := by omega
  rw [show ([x] : List UInt8).length = 1 from rfl] at T6
  rw [show (wordBytes y).length = 4 from rfl] at T8
  have hx1 : bcs [x] = [.int .u8 (x.toNat : Int)] := rfl
  generalize thereE l.length i b.length = Em at *
  generalize thereE l.length i 1 = E1 at *
  generalize thereE l.length i 4 = E4 at *
  generalize written l [x] i = P1 at *
  generalize written l (wordBytes y) i = P2 at *
  generalize written l b i = P3 at *
  generalize (x.toNat : Int) = xi at *
  generalize l.length = n at *
  generalize b.length = m at *
  have HTK := Lib.hid htk; have HTB := Lib.hid htb; have H1 := Lib.hid T1; have H2 := Lib.hid T2; have H3 := Lib.hid T3; have H4 := Lib.hid T4; have H5 := Lib.hid T5; have H6 := Lib.hid T6; have H7 := Lib.hid T7; have H8 := Lib.hid T8; have H9 := Lib.hid T9; have H10 := Lib.hid T10; have H11 := Lib.hid T11; have HH := Lib.hid h; have HH2 := Lib.hid h2; have HX := Lib.hid hx1; have HP1 := Lib.hid hP1; have HP3 := Lib.hid hP3
  clear htk htb T1 T2 T3 T4 T5 T6 T7 T8 T9 T10 T11 h h2 hl hb hx1 hP1 hP3 hy
  go_enter Try.func6, Try.ntmps6
  go_wp2_with fail
  refine H1.out.mono ?_
  rintro e w1 ⟨g, cap, rfl, hcap, hown, b1⟩
  have R0 := Rd.of_own hown
  have R1 : Rd w1 (some ⟨g, 0, none⟩) (bcs l) := by have := R0.take n; rwa [HTK.out] at this
  have HR0 := Lib.hid R0; have HR1 := Lib.hid R1; have B1 := Lib.hid b1; clear hown R0 R1 b1
  go_wp2_with fail
  refine (H2.out _ (HH2.out.below B1.out)).mono ?_
  rintro e w2 ⟨g2, cap2, rfl, hcap2, hown, b2⟩
  have R0 := Rd.of_own hown
  have R1 : Rd w2 (some ⟨g2, 0, none⟩) (bcs b) := by have := R0.take m; rwa [HTB.out] at this
  have HQ0 := Lib.hid R0; have HQ1 := Lib.hid R1; have B2 := Lib.hid (B1.out.trans (b2.mono B1.out.size))
  have HM0 := Lib.hid (HR0.out.below b2); have HM1 := Lib.hid (HR1.out.below b2); clear hown R0 R1 b2 HR0 HR1
  go_wp2_with fail
  refine (H3.out g cap (by omega) _ HM1.out).mono ?_
  rintro e w3 ⟨v, rfl, hv⟩
  obtain ⟨A3, c3, rfl, hc3, _, r3, b3, y3⟩ := copy_form3 hv
  have C3 := Lib.hid b3; have R3 := Lib.hid r3; have Y3 := Lib.hid y3; have Z3 := Lib.hid b3.size; clear hv b3 r3 y3 hc3
  go_wp2_with fail
  refine (H4.out g cap (by omega) _ (HM1.out.below C3.out)).mono ?_
  rintro e w4 ⟨v, rfl, hv⟩
  obtain ⟨A4, c4, rfl, hc4, _, r4, b4, _⟩ := copy_form3 hv
  have R3' := Lib.hid (R3.out.below b4); have Y3' := Lib.hid (Y3.out.below b4 (Nat.le_refl _)); have C4 := Lib.hid (C3.out.trans (b4.mono C3.out.size)); have R4 := Lib.hid r4; have Z4 := Lib.hid b4.size; clear hv b4 r4 hc4
  go_wp2_with fail
  refine (H5.out g g2 cap cap2 (by omega) _ (HM1.out.below C4.out) (HQ1.out.below C4.out)).mono ?_
  rintro e w5 ⟨v, rfl, hv⟩
  obtain ⟨A5, c5, rfl, hc5, _, r5, b5, y5⟩ := copy_form3 hv
  have Y3'' := Lib.hid (Y3'.out.below b5 Z4.out)
  have R3'' := Lib.hid (R3'.out.below b5); have R4' := Lib.hid (R4.out.below b5); have C5 := Lib.hid (C4.out.trans (b5.mono C4.out.size)); have R5 := Lib.hid r5; have Y5 := Lib.hid y5; have Z5 := Lib.hid b5.size; clear hv b5 r5 y5 hc5
  have hX : Below w5.heap.size w5 (w5.alloc (.cells #[.int .u8 xi] 5)) := (Below.refl _ _).alloc (Nat.le_refl _) _
  have hrx := Rd.new w5 #[.int .u8 xi] 5
  have HX' : bcs [x] = [.int .u8 xi] := HX.out
  rw [show (#[Value.int .u8 xi] : Array Value).toList = bcs [x] from HX'.symm] at hrx
  have K6 := H6.out (w5.alloc (.cells #[.int .u8 xi] 5)) (((HH.out.below B2.out).below C5.out).below hX) (by simpa using hrx)
  rw [show (w5.alloc (.cells #[.int .u8 xi] 5)).heap.size - 1 = w5.heap.size by simp] at K6
  have L6 := Lib.hid K6; have X6 := Lib.hid hX; clear K6 hX hrx HX'
  go_wp2_with fail
  refine L6.out.mono ?_
  rintro e w6 ⟨v, rfl, hv⟩
  obtain ⟨A6, c6, rfl, hc6, _, r6, b6', _⟩ := copy_form3 hv
  have b6 := X6.out.trans (b6'.mono X6.out.size)
  have R3c := Lib.hid (R3''.out.below b6); have R4c := Lib.hid (R4'.out.below b6); have R5c := Lib.hid (R5.out.below b6); have C6 := Lib.hid (C5.out.trans (b6.mono C5.out.size)); have R6 := Lib.hid r6
  have D6 := Lib.hid b6; clear hv b6 b6' r6 hc6
  go_wp2_with fail
  refine (H7.out _).mono ?_
  rintro e w7 ⟨rfl, r7, b7⟩
  have R3d := Lib.hid (R3c.out.below b7); have R4d := Lib.hid (R4c.out.below b7); have R5d := Lib.hid (R5c.out.below b7); have R6d := Lib.hid (R6.out.below b7); have C7 := Lib.hid (C6.out.trans (b7.mono C6.out.size)); have R7 := Lib.hid r7
  have D7 := Lib.hid (D6.out.trans (b7.mono D6.out.size)); clear b7 r7
  go_wp2_with fail
  refine (H8.out _ _ ((HH.out.below B2.out).below C7.out) R7.out).mono ?_
  rintro e w8 ⟨v, rfl, hv⟩
  obtain ⟨A8, c8, rfl, hc8, _, r8, b8, _⟩ := copy_form3 hv
  have R3e := Lib.hid (R3d.out.below b8); have R4e := Lib.hid (R4d.out.below b8); have R5e := Lib.hid (R5d.out.below b8); have R6e := Lib.hid (R6d.out.below b8); have C8 := Lib.hid (C7.out.trans (b8.mono C7.out.size)); have R8 := Lib.hid r8
  have D8 := Lib.hid (D7.out.trans (b8.mono D7.out.size)); clear hv b8 r8 hc8
  go_wp2_with fail
  refine (H9.out _ ((HH.out.below B2.out).below C8.out) ((HH2.out.below B2.out).below C8.out)).mono ?_
  rintro e w9 ⟨v, rfl, hv⟩
  obtain ⟨A9, c9, rfl, hc9, _, r9, b9, _⟩ := copy_form3 hv
  have C9 := Lib.hid (C8.out.trans (b9.mono C8.out.size))
  have D9 := Lib.hid (D8.out.trans (b9.mono D8.out.size))
  have s1 := str_rd P1 A3 P1.length c3 rfl w9 (R3e.out.below b9)
  have s2 := str_rd P1 A6 P1.length c6 rfl w9 (R6e.out.below b9)
  have s3 := str_rd P2 A4 P2.length c4 rfl w9 (R4e.out.below b9)
  have s4 := str_rd P2 A8 P2.length c8 rfl w9 (R8.out.below b9)
  have s5 := str_rd P3 A5 P3.length c5 rfl w9 (R5e.out.below b9)
  have s6 := str_rd P3 A9 P3.length c9 rfl w9 r9
  generalize (ByteArray.mk P1.toArray) = S1 at *
  generalize (ByteArray.mk P2.toArray) = S2 at *
  generalize (ByteArray.mk P3.toArray) = S3 at *
  have YP := Lib.hid ((Y3''.out.below D9.out (Nat.le_trans Z4.out Z5.out)))
  have YR := Lib.hid (Y5.out.below D9.out (Nat.le_refl _))
  clear hv b9 r9 hc9 R3 R3' R3'' R3c R3d R3e R4 R4' R4c R4d R4e R5 R5c R5d R5e R6 R6d R6e R7 R8 Y3 Y3' Y3'' Y5 D6 D7 D8 D9 C3 C4 C5 C6 C7 C8
  have hp1 : (P1.length : Int) ≤ 600 := by have := HP1.out; omega
  have hp3 : (P3.length : Int) ≤ 600 := by have := HP3.out; omega
  generalize P1.length = n1 at *
  generalize P3.length = n3 at *
  go_wp2_with fail
  go_loopw [25] (fun j wr => ∃ k : Nat, k ≤ n3 ∧ j = .int .i64 k ∧ BysIn 5 w2.heap.size w3.heap.size wr A3 n1 ∧ BysIn 5 w4.heap.size w5.heap.size wr A5 n3 ∧ Below w2.heap.size w2 wr) (fun j _ => n3 - (intOf j).toNat)
  case atStart => exact ⟨0, Nat.zero_le _, rfl, YP.out, YR.out, C9.out⟩
  case round =>
    obtain ⟨k, hk, rfl, hyp, hyr, hbw⟩ := hrel
    by_cases hk3 : k < n3
    · have hki : (k : Int) < (n3 : Int) := by omega
      obtain ⟨g5, z5, rfl, lo5, hi5, hc5, hf5⟩ := hyr.at hk3
      have hs5 : ∀ z : Int, BysIn 5 w4.heap.size w5.heap.size (wr.setCell ⟨g5, k, none⟩ (.int .u8 z)) (some ⟨g5, 0, none⟩) n3 := fun z => hyr.set _ _ z
      have hsp : ∀ z : Int, BysIn 5 w2.heap.size w3.heap.size (wr.setCell ⟨g5, k, none⟩ (.int .u8 z)) A3 n1 := fun z => hyp.set _ _ z
      have z4 := Z4.out
      have hb5 : ∀ z : Int, Below w2.heap.size w2 (wr.setCell ⟨g5, k, none⟩ (.int .u8 z)) := fun z => hbw.setCell (p := ⟨g5, k, none⟩) (by have := Z3.out; have := Z4.out; show w2.heap.size ≤ g5; omega) _
      have HS5 := Lib.hid hs5; have HSP := Lib.hid hsp; have HB5 := Lib.hid hb5
      by_cases hk1 : k < n1
      · have hki1 : (k : Int) < (n1 : Int) := by omega
        obtain ⟨g3, z3, rfl, lo3, hi3, hc3', hf3⟩ := hyp.at hk1
        have hne : g3 ≠ g5 := by omega
        have q1 : ∀ z : Int, (wr.setCell ⟨g5, k, none⟩ (.int .u8 z)).cell? ⟨g3, k, none⟩ = some (.int .u8 z3) := fun z => (cell_set_ne hne).trans hc3'
        have q2 : ∀ z : Int, (wr.setCell ⟨g5, k, none⟩ (.int .u8 z)).frozen? ⟨g3, k, none⟩ = false := fun z => (frozen_set_ne hne).trans hf3
        clear hs5 hsp hb5 hyp hyr hbw
        go_wp2_with fail
        go_roundw
        case rel => exact ⟨k + 1, by omega, by go_num, (HSP.out _).set _ _ _, (HS5.out _).set _ _ _, (HB5.out _).setCell (p := ⟨g3, k, none⟩) (by exact lo3) _⟩
        case measure => simp [intOf]; omega
      · have hki1 : ¬ (k : Int) < (n1 : Int) := by omega
        clear hs5 hsp hb5 hyp hyr hbw
        go_wp2_with fail
        go_roundw
        case rel => exact ⟨k + 1, by omega, by go_num, HSP.out _, HS5.out _, HB5.out _⟩
        case measure => simp [intOf]; omega
    · obtain rfl : k = n3 := by omega
      have HB := Lib.hid hbw
      clear hyp hyr hbw
      go_wp2_with fail
      refine (H10.out g cap (by omega) _ (HM0.out.below HB.out) ((HH.out.below B2.out).below HB.out)).mono ?_
      rintro e w10 ⟨rfl, b10⟩
      have HB10 := Lib.hid (HB.out.trans (b10.mono HB.out.size)); clear b10
      go_wp2_with fail
      refine (H11.out g2 cap2 (by omega) _ (HQ0.out.below HB10.out) ((HH2.out.below B2.out).below HB10.out)).mono ?_
      rintro e w11 ⟨rfl, b11⟩
      have HB11 := Lib.hid (HB10.out.trans (b11.mono HB10.out.size)); clear b11
      go_wp2_with fail
      refine (awake _).mono ?_
      rintro e w12 ⟨rfl, b12⟩
      have HB12 := Lib.hid (HB11.out.trans (b12.mono HB11.out.size)); clear b12
      go_wp2
      go_ret
      exact ⟨rfl, B2.out.trans (HB12.out.mono B2.out.size)⟩
theorem law (l b : List UInt8) (i x y : Int) (hx : IntKind.u8.min ≤ x ∧ x ≤ IntKind.u8.max) (hy : IntKind.u32.min ≤ y ∧ y ≤ IntKind.u32.max) (A A2 : Option Addr) (c d : Nat) (w : World) (h : Rd w A (bcs l)) (h2 : Rd w A2 (bcs b)) :
    Calls Try.prog 6 #[.slice A l.length c, .int .i64 i, .int .u8 x, .int .u32 y, .slice A2 b.length d] w fun e w' => e = .returned (.bool true) ∧ Below w.heap.size w w' := by
  have hx1 : 0 ≤ x := hx.1
  have hx2 : x ≤ 255 := hx.2
  have hy1 : 0 ≤ y := hy.1
  have hy2 : y ≤ 4294967295 := hy.2
  obtain ⟨yn, rfl⟩ := Int.eq_ofNat_of_zero_le hy1
  by_cases h5 : 600 < l.length ∨ 600 < b.length
  · exact long l b i x yn A A2 c d h5 w
  · have e : ((UInt8.ofNat x.toNat).toNat : Int) = x := by simp; omega
    rw [← e]
    exact short l b i (UInt8.ofNat x.toNat) yn (by omega) A A2 c d (by omega) (by omega) w h h2
end Go.Proofs.Ytjliaojanmbicaa.mem.stores
