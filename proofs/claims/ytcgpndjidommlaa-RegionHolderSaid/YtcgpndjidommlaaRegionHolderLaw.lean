/- The law RegionHolder: its walk. -/
import Derived.Test.YtcgpndjidommlaaRows
import Derived.Test.YtcgpndjidommlaaRegG
import Derived.Test.YtcgpndjidommlaaRegP
namespace Go.Proofs.Ytcgpndjidommlaa.reg.hold
open Go Go.ChangeShapes Go.WideShapes Go.ChangeAt Go.RowKit Go.Proofs.Ytcgpndjidommlaa.reg
theorem long (l : List Reg) (A : Option Addr) (c : Nat) (h : 20 < l.length) (w : World) : Calls Try.prog 5 #[.slice A l.length c] w fun e w' => e = .returned (.bool true) ∧ Below w.heap.size w w' := by
  have h1 : (20 : Int) < (l.length : Int) := by omega
  go_enter Try.func5, Try.ntmps5
  go_wp2_with fail
  refine (awake _).mono ?_
  rintro e w1 ⟨rfl, b1⟩
  have B1 := Lib.hid b1; clear b1
  go_wp2
  go_ret
  exact ⟨rfl, B1.out⟩
theorem bad (l : List Reg) (A : Option Addr) (c : Nat) (hc : l.length ≤ c) (h20 : ¬ 20 < l.length) (hE : ¬ allE l = 0) (w : World) (h : Rd w A (regCells l)) : Calls Try.prog 5 #[.slice A l.length c] w fun e w' => e = .returned (.bool true) ∧ Below w.heap.size w w' := by
  have T := all_any l A c hc (by omega) w h
  have h1 : ¬ (20 : Int) < (l.length : Int) := by omega
  have h2 : (allE l == 0) = false := by simpa using hE
  have HT := Lib.hid T
  clear T h hE hc h20
  generalize allE l = E at *
  go_enter Try.func5, Try.ntmps5
  go_wp2_with fail
  refine HT.out.mono ?_
  rintro e w1 ⟨rfl, b1⟩
  have B1 := Lib.hid b1; clear b1
  go_wp2_with fail
  refine (awake _).mono ?_
  rintro e w2 ⟨rfl, b2⟩
  have B2 := Lib.hid (B1.out.trans (b2.mono B1.out.size)); clear b2
  go_wp2
  go_ret
  exact ⟨rfl, B2.out⟩
set_option maxRecDepth 100000 in
set_option maxHeartbeats 4000000 in
theorem good (l : List Reg) (A : Option Addr) (c : Nat) (hc : l.length ≤ c) (h20 : ¬ 20 < l.length) (hE : allE l = 0) (w : World) (h : Rd w A (regCells l)) : Calls Try.prog 5 #[.slice A l.length c] w fun e w' => e = .returned (.bool true) ∧ Below w.heap.size w w' := by
  have T := all_any l A c hc (by omega) w h
  rw [hE] at T
  have T2 := fun (x : Int) (w : World) (h : Rd w A (regCells l)) => holder l A c x (by omega) w h
  have h1 : ¬ (20 : Int) < (l.length : Int) := by omega
  have h20i : (l.length : Int) ≤ 20 := by omega
  have hm : ∀ p ∈ l, 0 ≤ p.2 ∧ p.2 ≤ 512 := fun p hp => by have := mayR_iff.1 (may_of hE hp); omega
  have hH := fun (x : Int) (k : Nat) (p : Reg) (hp : l[k]? = some p) => holder_has hE x hp
  have hS := sum_holder hE
  have ho1 := holder_out (l := l) (x := -1) (by omega); have ho2 := holder_out (l := l) (x := 4096) (by omega)
  have HT := Lib.hid T; have HT2 := Lib.hid T2; have HM := Lib.hid hm; have HH := Lib.hid hH; have HS := Lib.hid hS; have H := Lib.hid h; have HO1 := Lib.hid ho1; have HO2 := Lib.hid ho2
  clear T T2 hm hH hS h hE hc ho1 ho2
  go_enter Try.func5, Try.ntmps5
  go_wp2_with fail
  refine HT.out.mono ?_
  rintro e w1 ⟨rfl, b1⟩
  have B1 := Lib.hid b1; clear b1
  go_wp2_with fail
  go_loopw [3, 5] (fun s i wr => ∃ k : Nat, k ≤ l.length ∧ i = .int .i64 k ∧ s = .int .i64 (sumS (l.take k)) ∧ wr = w1) (fun _ i _ => l.length - (intOf i).toNat)
  case atStart => exact ⟨0, Nat.zero_le _, rfl, rfl, rfl⟩
  case round =>
    obtain ⟨k, hk, rfl, rfl, rfl⟩ := hrel
    by_cases hkl : k < l.length
    · have hki : (k : Int) < (l.length : Int) := by omega
      obtain ⟨p, hp⟩ : ∃ p, l[k]? = some p := ⟨l[k], List.getElem?_eq_getElem hkl⟩
      obtain ⟨b, off, rfl, _⟩ := H.out.addr (by rw [regCells_length]; omega)
      have hw := regCells_at l k _ hp
      have hr := H.out.below B1.out
      have c0 := hr.cell hw.1; have c1 := hr.cell hw.2
      rw [← Nat.add_assoc] at c1
      have hbd := sumS_bd (l.take k) (fun q hq => HM.out q (List.mem_of_mem_take hq))
      rw [List.length_take] at hbd
      have hpb := HM.out p (List.mem_of_getElem? hp)
      have HSN := Lib.hid (sumS_snoc hp)
      obtain ⟨x1, x2⟩ := hbd
      obtain ⟨x3, x4⟩ := hpb
      have x5 : sumS (l.take k) ≤ 100000 := by omega
      have x6 : IntKind.i64.wrap (sumS (l.take k) + p.2) = sumS (l.take k) + p.2 := IntWalk.i64_in _ (by omega)
      clear hw hr hp x2
      go_wp2_with fail
      go_roundw
      case rel => exact ⟨k + 1, by omega, by go_num, by rw [HSN.out], trivial⟩
      case measure => simp [intOf]; omega
    · obtain rfl : k = l.length := by omega
      rw [List.take_length]
      go_wp2_with fail
      obtain ⟨w1, rfl⟩ : ∃ w0 : World, w0 = wr := ⟨_, rfl⟩
      go_loopw [4, 6] (fun n i wr => ∃ a : Nat, a ≤ 4096 ∧ i = .int .i64 a ∧ n = .int .i64 (cnt (fun x => decide (0 ≤ holderR l x)) a) ∧ Below w.heap.size w wr) (fun _ i _ => 4096 - (intOf i).toNat)
      case atStart => exact ⟨0, Nat.zero_le _, rfl, rfl, B1.out⟩
      case round =>
        obtain ⟨w2, rfl⟩ : ∃ w0 : World, w0 = wr := ⟨_, rfl⟩
        obtain ⟨a, ha, rfl, rfl, hb⟩ := hrel
        have HB := Lib.hid hb; clear hb
        by_cases hal : a < 4096
        · have hai : (a : Int) < 4096 := by omega
          have T3 := Lib.hid (HT2.out (a : Int) _ (H.out.below HB.out))
          have HHa := Lib.hid (HH.out (a : Int))
          have HC := Lib.hid (show cnt (fun x => decide (0 ≤ holderR l x)) (a + 1) = cnt (fun x => decide (0 ≤ holderR l x)) a + if decide (0 ≤ holderR l (a : Int)) = true then 1 else 0 from rfl)
          have hcb := cnt_bd (fun x => decide (0 ≤ holderR l x)) a
          generalize cnt (fun x => decide (0 ≤ holderR l x)) a = C0 at *
          generalize holderR l (a : Int) = hv at *
          obtain ⟨x1, x2⟩ := hcb
          have x3 : C0 ≤ 4096 := by omega
          clear x2
          go_wp2_with fail
          refine T3.out.mono ?_
          rintro e w3 ⟨rfl, b3⟩
          have B3 := Lib.hid (HB.out.trans (b3.mono HB.out.size)); clear b3
          go_wp2_with fail
          go_loopw [8] (fun i wr => ∃ k : Nat, k ≤ l.length ∧ i = .int .i64 k ∧ Below w.heap.size w wr) (fun i _ => l.length - (intOf i).toNat)
          case atStart => exact ⟨0, Nat.zero_le _, rfl, B3.out⟩
          case round =>
            obtain ⟨k, hk, rfl, hb4⟩ := hrel
            have HB4 := Lib.hid hb4; clear hb4
            by_cases hkl : k < l.length
            · have hki : (k : Int) < (l.length : Int) := by omega
              obtain ⟨p, hp⟩ : ∃ p, l[k]? = some p := ⟨l[k], List.getElem?_eq_getElem hkl⟩
              obtain ⟨b, off, rfl, _⟩ := H.out.addr (by rw [regCells_length]; omega)
              have hw := regCells_at l k _ hp
              have hr := H.out.below HB4.out
              have c0 := hr.cell hw.1; have c1 := hr.cell hw.2
              rw [← Nat.add_assoc] at c1
              have T5 := has p.1 p.2 (a : Int) wr
              rw [HHa.out k p hp] at T5
              clear hw hr hp
              cases hq : ((k : Int) == hv) with
              | true =>
                rw [hq] at T5
                have T5 := Lib.hid T5
                go_wp2_with fail
                refine T5.out.mono ?_
                rintro e w5 ⟨rfl, b5⟩
                have B5 := Lib.hid (HB4.out.trans (b5.mono HB4.out.size)); clear b5
                go_wp2_with fail
                go_roundw
                case rel => exact ⟨k + 1, by omega, by go_num, B5.out⟩
                case measure => simp [intOf]; omega
              | false =>
                rw [hq] at T5
                have T5 := Lib.hid T5
                go_wp2_with fail
                refine T5.out.mono ?_
                rintro e w5 ⟨rfl, b5⟩
                have B5 := Lib.hid (HB4.out.trans (b5.mono HB4.out.size)); clear b5
                go_wp2_with fail
                go_roundw
                case rel => exact ⟨k + 1, by omega, by go_num, B5.out⟩
                case measure => simp [intOf]; omega
            · obtain rfl : k = l.length := by omega
              by_cases h0 : 0 ≤ hv
              · go_wp2_with fail
                go_roundw
                case rel => exact ⟨a + 1, by omega, by go_num, by rw [HC.out, if_pos (decide_eq_true h0)], HB4.out⟩
                case measure => simp [intOf]; omega
              · go_wp2_with fail
                go_roundw
                case rel => exact ⟨a + 1, by omega, by go_num, by rw [HC.out, if_neg (by simpa using h0)]; simp, HB4.out⟩
                case measure => simp [intOf]; omega
        · obtain rfl : a = 4096 := by omega
          have hs := HS.out
          rw [hs]
          have T6 := HT2.out (-1) _ (H.out.below HB.out)
          rw [HO1.out] at T6
          have T6 := Lib.hid T6
          clear hs
          generalize sumS l = S at *
          go_wp2_with fail
          refine T6.out.mono ?_
          rintro e w5 ⟨rfl, b5⟩
          have B5 := Lib.hid (HB.out.trans (b5.mono HB.out.size)); clear b5
          have T7 := HT2.out 4096 _ (H.out.below B5.out)
          rw [HO2.out] at T7
          have T7 := Lib.hid T7
          go_wp2_with fail
          refine T7.out.mono ?_
          rintro e w6 ⟨rfl, b6⟩
          have B6 := Lib.hid (B5.out.trans (b6.mono B5.out.size)); clear b6
          go_wp2_with fail
          refine (awake _).mono ?_
          rintro e w7 ⟨rfl, b7⟩
          have B7 := Lib.hid (B6.out.trans (b7.mono B6.out.size)); clear b7
          go_wp2
          go_ret
          exact ⟨rfl, B7.out⟩
theorem law (l : List Reg) (A : Option Addr) (c : Nat) (hc : l.length ≤ c) (w : World) (h : Rd w A (regCells l)) : Calls Try.prog 5 #[.slice A l.length c] w fun e w' => e = .returned (.bool true) ∧ Below w.heap.size w w' := by
  by_cases h20 : 20 < l.length
  · exact long l A c h20 w
  by_cases hE : allE l = 0
  · exact good l A c hc h20 hE w h
  · exact bad l A c hc h20 hE w h
end Go.Proofs.Ytcgpndjidommlaa.reg.hold
