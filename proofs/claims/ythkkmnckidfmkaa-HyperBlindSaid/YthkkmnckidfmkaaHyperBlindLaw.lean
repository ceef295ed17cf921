/- Calls of a partition: the law HyperBlind; no condition. -/
import Derived.Test.YthkkmnckidfmkaaRows
import Derived.Test.YthkkmnckidfmkaaHyX
import Derived.Test.YthkkmnckidfmkaaHyZ
import Derived.Test.YthkkmnckidfmkaaHyO
import Derived.Test.YthkkmnckidfmkaaHyP
import Derived.Deep.CutRange
import Derived.Deep.RegionHeld3
import Derived.BigRegion
import Derived.Deep.Light
import Derived.RegionTactic
namespace Go.Proofs.Ythkkmnckidfmkaa.hy
open Go Go.ChangeShapes Go.WideShapes Go.ChangeAt Go.RowKit Go.Proofs.Ythkkmnckidfmkaa.rows
set_option linter.unusedVariables false in
set_option maxRecDepth 100000 in
set_option maxHeartbeats 8000000 in
theorem blindLaw (HAW : ∀ W : World, Calls Try.prog 7 #[] W fun e w' => e = .returned (.bool true) ∧ Below W.heap.size W w') (x : Pt) (Am : Option Addr) (ml cm : Nat) (hml : x.mem.length = ml) (hmc : ml ≤ cm) (hmA : Am = none → cm = 0) (hr : (0 ≤ x.r0 ∧ x.r0 < 4294967296) ∧ (0 ≤ x.r1 ∧ x.r1 < 4294967296) ∧ 0 ≤ x.r2 ∧ x.r2 < 4294967296) (fr tk ver : Int) (qs : List Qu) (inp : Msg) (B : Option Addr) (nq d : Nat) (Ci : Option Addr) (ni ci : Nat) (hnq : qs.length = nq) (hni : inp.length = ni) (hqm : ∀ q ∈ qs, q.msgs.length ≤ 140737488355328 ∧ ∀ m ∈ q.msgs, m.length ≤ 140737488355328) (fr2 tk2 ver2 : Int) (qs2 : List Qu) (inp2 : Msg) (B2 : Option Addr) (nq2 d2 : Nat) (Ci2 : Option Addr) (ni2 ci2 : Nat) (hnq2 : qs2.length = nq2) (hni2 : inp2.length = ni2) (hqm2 : ∀ q ∈ qs2, q.msgs.length ≤ 140737488355328 ∧ ∀ m ∈ q.msgs, m.length ≤ 140737488355328) (w : World) (hm : Rd w Am (bcs x.mem)) (h1 : WIn w B d qs Ci ci inp) (h2 : WIn w B2 d2 qs2 Ci2 ci2 inp2) : Calls Try.prog 3 #[.agg #[.int .i64 x.id, .int .i64 x.size, .bool x.keep, .int .u32 x.r0, .int .u32 x.r1, .int .u32 x.r2, .int .u32 x.r3, .int .u32 x.r4, .int .u32 x.r5, .int .u32 x.r6, .int .u32 x.r7, .int .u32 x.pc, .int .u8 x.st, .slice Am ml cm], .agg #[.int .i64 fr, .int .i64 tk, .int .i64 ver, .slice B nq d, .slice Ci ni ci], .agg #[.int .i64 fr2, .int .i64 tk2, .int .i64 ver2, .slice B2 nq2 d2, .slice Ci2 ni2 ci2]] w fun e w' => e = .returned (.bool true) ∧ Below w.heap.size w w' := by
  have HA := Lib.hid HAW; clear HAW
  have E1 := Lib.hid (ext1 w (.cells #[.int .i64 x.id, .int .i64 x.size, .bool x.keep, .int .u32 x.r0, .int .u32 x.r1, .int .u32 x.r2, .int .u32 x.r3, .int .u32 x.r4, .int .u32 x.r5, .int .u32 x.r6, .int .u32 x.r7, .int .u32 x.pc, .int .u8 x.st, .slice Am ml cm] 26)); have E2 := Lib.hid (E1.out.trans ((ext1 (w.alloc (.cells #[.int .i64 x.id, .int .i64 x.size, .bool x.keep, .int .u32 x.r0, .int .u32 x.r1, .int .u32 x.r2, .int .u32 x.r3, .int .u32 x.r4, .int .u32 x.r5, .int .u32 x.r6, .int .u32 x.r7, .int .u32 x.pc, .int .u8 x.st, .slice Am ml cm] 26)) (.cells #[.int .i64 fr, .int .i64 tk, .int .i64 ver, .slice B nq d, .slice Ci ni ci] 29)).mono E1.out.size)); have HB := Lib.hid (E2.out.trans ((ext1 ((w.alloc (.cells #[.int .i64 x.id, .int .i64 x.size, .bool x.keep, .int .u32 x.r0, .int .u32 x.r1, .int .u32 x.r2, .int .u32 x.r3, .int .u32 x.r4, .int .u32 x.r5, .int .u32 x.r6, .int .u32 x.r7, .int .u32 x.pc, .int .u8 x.st, .slice Am ml cm] 26)).alloc (.cells #[.int .i64 fr, .int .i64 tk, .int .i64 ver, .slice B nq d, .slice Ci ni ci] 29)) (.cells #[.int .i64 fr2, .int .i64 tk2, .int .i64 ver2, .slice B2 nq2 d2, .slice Ci2 ni2 ci2] 29)).mono E2.out.size))
  have G0 := Lib.hid (blk_alloc (blk_alloc (blk_new w #[.int .i64 x.id, .int .i64 x.size, .bool x.keep, .int .u32 x.r0, .int .u32 x.r1, .int .u32 x.r2, .int .u32 x.r3, .int .u32 x.r4, .int .u32 x.r5, .int .u32 x.r6, .int .u32 x.r7, .int .u32 x.pc, .int .u8 x.st, .slice Am ml cm] 26) (.cells #[.int .i64 fr, .int .i64 tk, .int .i64 ver, .slice B nq d, .slice Ci ni ci] 29)) (.cells #[.int .i64 fr2, .int .i64 tk2, .int .i64 ver2, .slice B2 nq2 d2, .slice Ci2 ni2 ci2] 29))
  have G1 := Lib.hid (blk_alloc (blk_new2 w (.cells #[.int .i64 x.id, .int .i64 x.size, .bool x.keep, .int .u32 x.r0, .int .u32 x.r1, .int .u32 x.r2, .int .u32 x.r3, .int .u32 x.r4, .int .u32 x.r5, .int .u32 x.r6, .int .u32 x.r7, .int .u32 x.pc, .int .u8 x.st, .slice Am ml cm] 26) #[.int .i64 fr, .int .i64 tk, .int .i64 ver, .slice B nq d, .slice Ci ni ci] 29) (.cells #[.int .i64 fr2, .int .i64 tk2, .int .i64 ver2, .slice B2 nq2 d2, .slice Ci2 ni2 ci2] 29))
  have G2 := Lib.hid (show (((w.alloc (.cells #[.int .i64 x.id, .int .i64 x.size, .bool x.keep, .int .u32 x.r0, .int .u32 x.r1, .int .u32 x.r2, .int .u32 x.r3, .int .u32 x.r4, .int .u32 x.r5, .int .u32 x.r6, .int .u32 x.r7, .int .u32 x.pc, .int .u8 x.st, .slice Am ml cm] 26)).alloc (.cells #[.int .i64 fr, .int .i64 tk, .int .i64 ver, .slice B nq d, .slice Ci ni ci] 29)).alloc (.cells #[.int .i64 fr2, .int .i64 tk2, .int .i64 ver2, .slice B2 nq2 d2, .slice Ci2 ni2 ci2] 29)).heap[w.heap.size + 2]? = some (.cells #[.int .i64 fr2, .int .i64 tk2, .int .i64 ver2, .slice B2 nq2 d2, .slice Ci2 ni2 ci2] 29 (0, 0)) by have := blk_new2 (w.alloc (.cells #[.int .i64 x.id, .int .i64 x.size, .bool x.keep, .int .u32 x.r0, .int .u32 x.r1, .int .u32 x.r2, .int .u32 x.r3, .int .u32 x.r4, .int .u32 x.r5, .int .u32 x.r6, .int .u32 x.r7, .int .u32 x.pc, .int .u8 x.st, .slice Am ml cm] 26)) (.cells #[.int .i64 fr, .int .i64 tk, .int .i64 ver, .slice B nq d, .slice Ci ni ci] 29) #[.int .i64 fr2, .int .i64 tk2, .int .i64 ver2, .slice B2 nq2 d2, .slice Ci2 ni2 ci2] 29; simpa using this)
  have HM := Lib.hid (hm.below HB.out); have H1 := Lib.hid (h1.below HB.out); have H2 := Lib.hid (h2.below HB.out); have H20 := Lib.hid h2; have H10 := Lib.hid h1; have HM0 := Lib.hid hm
  have HQM := Lib.hid hqm; have HQM2 := Lib.hid hqm2
  have HNQ := Lib.hid hnq; have HNI := Lib.hid hni; have HNQ2 := Lib.hid hnq2; have HNI2 := Lib.hid hni2; have HML := Lib.hid hml; have HMC := Lib.hid hmc; have HMA := Lib.hid hmA; have HR := Lib.hid hr
  clear hm h1 h2 hqm hqm2 hnq hni hnq2 hni2 hml hmc hmA hr E1 E2
  go_enter Try.func3, Try.ntmps3
  go_wp2_with fail
  generalize (((w.alloc (.cells #[.int .i64 x.id, .int .i64 x.size, .bool x.keep, .int .u32 x.r0, .int .u32 x.r1, .int .u32 x.r2, .int .u32 x.r3, .int .u32 x.r4, .int .u32 x.r5, .int .u32 x.r6, .int .u32 x.r7, .int .u32 x.pc, .int .u8 x.st, .slice Am ml cm] 26)).alloc (.cells #[.int .i64 fr, .int .i64 tk, .int .i64 ver, .slice B nq d, .slice Ci ni ci] 29)).alloc (.cells #[.int .i64 fr2, .int .i64 tk2, .int .i64 ver2, .slice B2 nq2 d2, .slice Ci2 ni2 ci2] 29)) = wb at *
  have a0 := blk_cell G0.out 0
  have a1 := blk_cell G0.out 1
  have a2 := blk_cell G0.out 2
  have a3 := blk_cell G0.out 3
  have a4 := blk_cell G0.out 4
  have a5 := blk_cell G0.out 5
  have a6 := blk_cell G0.out 6
  have a7 := blk_cell G0.out 7
  have a8 := blk_cell G0.out 8
  have a9 := blk_cell G0.out 9
  have a10 := blk_cell G0.out 10
  have a11 := blk_cell G0.out 11
  have a12 := blk_cell G0.out 12
  have a13 := blk_cell G0.out 13
  have y0 := blk_cell G1.out 0
  have y1 := blk_cell G1.out 1
  have y2 := blk_cell G1.out 2
  have y3 := blk_cell G1.out 3
  have y4 := blk_cell G1.out 4
  have T1 := Lib.hid (great x Am ml cm fr tk ver qs inp B nq d Ci ni ci HNQ.out HNI.out HQM.out wb H1.out.1)
  go_wp2_with fail
  refine T1.out.mono ?_
  rintro e w1 ⟨rfl, b1⟩
  clear a0 a1 a2 a3 a4 a5 a6 a7 a8 a9 a10 a11 a12 a13 y0 y1 y2 y3 y4 T1
  have D1 := Lib.hid b1; clear b1
  cases hg1 : greatV ml qs inp
  case true =>
    go_wp2_with fail
    refine (HA.out _).mono ?_
    rintro e w8 ⟨rfl, b8⟩
    have D8 := Lib.hid (HB.out.trans ((D1.out.trans (b8.mono D1.out.size)).mono HB.out.size)); clear b8
    go_wp2
    go_ret
    exact ⟨rfl, D8.out⟩
  case false =>
    have S1 := Lib.hid (greatV_small hg1); have ST1 := Lib.hid (greatV_tame hg1)
    clear hg1
    have K0 := Lib.hid (blk_below G0.out D1.out (blk_lt G0.out)); have K1 := Lib.hid (blk_below G1.out D1.out (blk_lt G1.out)); have K2 := Lib.hid (blk_below G2.out D1.out (blk_lt G2.out))
    have a0 := blk_cell K0.out 0
    have a1 := blk_cell K0.out 1
    have a2 := blk_cell K0.out 2
    have a3 := blk_cell K0.out 3
    have a4 := blk_cell K0.out 4
    have a5 := blk_cell K0.out 5
    have a6 := blk_cell K0.out 6
    have a7 := blk_cell K0.out 7
    have a8 := blk_cell K0.out 8
    have a9 := blk_cell K0.out 9
    have a10 := blk_cell K0.out 10
    have a11 := blk_cell K0.out 11
    have a12 := blk_cell K0.out 12
    have a13 := blk_cell K0.out 13
    have z0 := blk_cell K2.out 0
    have z1 := blk_cell K2.out 1
    have z2 := blk_cell K2.out 2
    have z3 := blk_cell K2.out 3
    have z4 := blk_cell K2.out 4
    have T2 := Lib.hid (great x Am ml cm fr2 tk2 ver2 qs2 inp2 B2 nq2 d2 Ci2 ni2 ci2 HNQ2.out HNI2.out HQM2.out w1 (H2.out.1.below D1.out))
    go_wp2_with fail
    refine T2.out.mono ?_
    rintro e w2 ⟨rfl, b2⟩
    clear a0 a1 a2 a3 a4 a5 a6 a7 a8 a9 a10 a11 a12 a13 z0 z1 z2 z3 z4 T2
    have D2 := Lib.hid (D1.out.trans (b2.mono D1.out.size)); clear b2 K0 K1 K2
    cases hg2 : greatV ml qs2 inp2
    case true =>
      go_wp2_with fail
      refine (HA.out _).mono ?_
      rintro e w8 ⟨rfl, b8⟩
      have D8 := Lib.hid (HB.out.trans ((D2.out.trans (b8.mono D2.out.size)).mono HB.out.size)); clear b8
      go_wp2
      go_ret
      exact ⟨rfl, D8.out⟩
    case false =>
      have S2 := Lib.hid (greatV_small hg2); have ST2 := Lib.hid (greatV_tame hg2)
      clear hg2 D1
      have K1 := Lib.hid (blk_below G1.out D2.out (blk_lt G1.out)); have K2 := Lib.hid (blk_below G2.out D2.out (blk_lt G2.out))
      have y3 := blk_cell K1.out 3; have z3 := blk_cell K2.out 3
      by_cases hnn : nq = nq2
      case neg =>
        have e1 : ((nq : Int) == (nq2 : Int)) = false := by rw [beq_eq_false_iff_ne]; omega
        have e2 : ((nq : Int) != (nq2 : Int)) = true := by rw [bne_iff_ne]; omega
        have e3 : (nq == nq2) = false := by rw [beq_eq_false_iff_ne]; exact hnn
        have e4 : (nq != nq2) = true := by rw [bne_iff_ne]; exact hnn
        clear hnn
        go_wp2_with fail
        refine (HA.out _).mono ?_
        rintro e w8 ⟨rfl, b8⟩
        have D8 := Lib.hid (HB.out.trans ((D2.out.trans (b8.mono D2.out.size)).mono HB.out.size)); clear b8
        go_wp2
        go_ret
        exact ⟨rfl, D8.out⟩
      case pos =>
        subst hnn
        have K0 := Lib.hid (blk_below G0.out D2.out (blk_lt G0.out))
        have BW := Lib.hid (HB.out.trans (D2.out.mono HB.out.size))
        have MID := Lib.hid (show Mid w #[.int .i64 x.id, .int .i64 x.size, .bool x.keep, .int .u32 x.r0, .int .u32 x.r1, .int .u32 x.r2, .int .u32 x.r3, .int .u32 x.r4, .int .u32 x.r5, .int .u32 x.r6, .int .u32 x.r7, .int .u32 x.pc, .int .u8 x.st, .slice Am ml cm] #[.int .i64 fr, .int .i64 tk, .int .i64 ver, .slice B nq d, .slice Ci ni ci] fr2 tk2 ver2 qs nq Ci2 ni2 ci2 0 w2 from by
          obtain ⟨⟨us, e1, e2, e3⟩, k2, k3, _⟩ := H20.out
          exact ⟨us, B2, d2, by rw [← HNQ2.out, ← e1, List.length_map], fun u hu => ⟨e3 u hu, S2.out.2.2 u.1 (by rw [← e1]; exact List.mem_map_of_mem hu)⟩, rfl, e2.below BW.out, by rw [← HNQ2.out]; exact k2, k3, K0.out, K1.out, K2.out, BW.out⟩)
        have LQ := Lib.hid (show nq ≤ 1000000 by rw [← HNQ.out]; exact S1.out.1)
        clear H2 HM K0 K2 G0 G1 G2 HQM HQM2 HNQ2 D2 H1
        go_wp2_with fail
        clear y3 z3 K1
        go_loopw [7] (fun i wr => ∃ k : Nat, k ≤ nq ∧ i = .int .i64 k ∧ Mid w #[.int .i64 x.id, .int .i64 x.size, .bool x.keep, .int .u32 x.r0, .int .u32 x.r1, .int .u32 x.r2, .int .u32 x.r3, .int .u32 x.r4, .int .u32 x.r5, .int .u32 x.r6, .int .u32 x.r7, .int .u32 x.pc, .int .u8 x.st, .slice Am ml cm] #[.int .i64 fr, .int .i64 tk, .int .i64 ver, .slice B nq d, .slice Ci ni ci] fr2 tk2 ver2 qs nq Ci2 ni2 ci2 k wr) (fun i _ => nq - (intOf i).toNat)
        case atStart => exact ⟨0, Nat.zero_le _, rfl, MID.out⟩
        case round =>
          obtain ⟨k, hk, rfl, hmid⟩ := hrel
          obtain ⟨us, Bk, dk, m1, m2, m3, m4, m5, m6, m7, m8, m9, m10⟩ := hmid
          have U1 := Lib.hid m1; have U2 := Lib.hid m2; have U3 := Lib.hid m3; have U4 := Lib.hid m4; have U5 := Lib.hid m5; have U6 := Lib.hid m6; have X0 := Lib.hid m7; have X1 := Lib.hid m8; have X2 := Lib.hid m9; have BR := Lib.hid m10
          clear m1 m2 m3 m4 m5 m6 m7 m8 m9 m10
          have y3 := blk_cell X1.out 3; have z3 := blk_cell X2.out 3; have zf := blk_frozen X2.out 3
          have h63 : (nq : Int) ≤ 1000000 := by have := LQ.out; omega
          by_cases hkl : k < nq
          · have hki : (k : Int) < (nq : Int) := by omega
            have hk0 : (0 : Int) ≤ (k : Int) := by omega
            obtain ⟨i0, hi, hz0, hz1, hz2⟩ := info_parts info_quz
            have hown : (wr.alloc (.cells #[] 36)).ownsRow wr.heap.size 36 6 (.slice (some ⟨wr.heap.size, 0, none⟩) 0 0) 0 [] := World.ownsRow_lit wr #[] 0 (Nat.le_refl _) (by decide) rfl
            have y3a := Lib.cell?_alloc_marked (.cells #[] 36) y3; have z3a := Lib.cell?_alloc_marked (.cells #[] 36) z3
            have HOWN := Lib.hid hown; clear hown
            go_wp2_with (at_builtin; refine wpList_append_rd _ rfl (.tmp 43) (.tmp 45) 27 rfl wr.heap.size 36 i0 (.agg #[.int .i64 0, .int .i64 0, .int .i64 0, .int .i64 0, .int .i64 0, .slice none 0 0]) 6 64 Try.underlying27 hi hz0 hz1 hz2 rfl (by decide) _ 0 [] rfl HOWN.out _ nq _ (flat Qu.cells us) rfl (by rw [flat_length Qu.cells 6 qu_len, U1.out]) (U4.out.alloc _) (flat_one us) ?c3 ?c4 (by simp) ?_)
            case c3 => have := LQ.out; unfold maxLen; omega
            case c4 => have := LQ.out; omega
            intro v' w3 hown3 hg3
            have B3 := Lib.hid (below_own (ext1 wr (.cells #[] 36)) HOWN.out hg3 (by simp) : Below wr.heap.size wr w3)
            obtain ⟨gq, c3, rfl, hc3, hcr⟩ := CRow.of_own hown3 (by omega)
            have HC := Lib.hid hcr; have HC3 := Lib.hid hc3; clear hown3 hg3 hcr hc3 HOWN y3 z3 zf y3a z3a hz0 hz1 hz2 hi i0
            have Y1 := Lib.hid (blk_below X1.out B3.out (blk_lt X1.out)); have Y0 := Lib.hid (blk_below X0.out B3.out (blk_lt X0.out)); have Y2 := Lib.hid (blk_below X2.out B3.out (blk_lt X2.out))
            have zf3 := blk_frozen Y2.out 3; have z30 := blk_cell Y2.out 3
            have KS := Lib.hid (KeptX.set Y2.out 3 (.slice (some ⟨gq, 0, none⟩) nq c3))
            have Z0 := Lib.hid (KS.out.2 _ _ _ (by decide) Y0.out); have Z2 := Lib.hid (show (w3.setCell ⟨w.heap.size + 2, 3, none⟩ (.slice (some ⟨gq, 0, none⟩) nq c3)).heap[w.heap.size + 2]? = some (.cells #[.int .i64 fr2, .int .i64 tk2, .int .i64 ver2, .slice (some ⟨gq, 0, none⟩) nq c3, .slice Ci2 ni2 ci2] 29 (0, 0)) from blk_set Y2.out 3 (.slice (some ⟨gq, 0, none⟩) nq c3))
            have Z1 := Lib.hid (blk_far Y1.out (p := ⟨w.heap.size + 2, 3, none⟩) (by simp) (.slice (some ⟨gq, 0, none⟩) nq c3))
            have ZC := Lib.hid (HC.out.keptX (by decide) KS.out)
            have ZB := Lib.hid ((BR.out.trans (B3.out.mono BR.out.size)).setCell (p := ⟨w.heap.size + 2, 3, none⟩) (by simp) (.slice (some ⟨gq, 0, none⟩) nq c3))
            clear KS Y0 Y1 Y2 HC
            go_wp2_with fail
            generalize w3.setCell ⟨w.heap.size + 2, 3, none⟩ (.slice (some ⟨gq, 0, none⟩) nq c3) = w4 at *
            obtain ⟨u, hu⟩ : ∃ u, us[k]? = some u := ⟨_, List.getElem?_eq_getElem (by rw [U1.out]; exact hkl)⟩
            obtain ⟨q, hq⟩ : ∃ q, qs[k]? = some q := ⟨_, List.getElem?_eq_getElem (by rw [HNQ.out]; exact hkl)⟩
            obtain ⟨b1, o1, hB1, _⟩ := Rws.addr qu_len (by decide) H10.out.1 (by rw [HNQ.out]; omega)
            have H11 := Lib.hid (H10.out.1.below ZB.out)
            rw [hB1] at H11
            obtain ⟨Ax, cx, _, gx⟩ := Rws.at qu_len H11.out hq
            have q0 := gx 0 _ rfl
            have q1 := gx 1 _ rfl
            have q2 := gx 2 _ rfl
            have q3 := gx 3 _ rfl
            have q4 := gx 4 _ rfl
            dsimp only [Nat.add_zero] at q0
            clear gx H11
            obtain ⟨gc, gf⟩ := ZC.out.cell hu
            have g0 := gc 0 _ rfl
            have g1 := gc 1 _ rfl
            have g2 := gc 2 _ rfl
            have g3 := gc 3 _ rfl
            have g4 := gc 4 _ rfl
            dsimp only [Nat.add_zero] at g0
            have y3 := blk_cell Z1.out 3; have z3 := blk_cell Z2.out 3
            rw [hB1] at y3
            have HU := Lib.hid hu; have HQ := Lib.hid hq; have HB1 := Lib.hid hB1
            clear hu hq gc hB1
            go_region
            go_wp2_with fail
            go_roundw
            case rel => exact ⟨k + 1, by omega, by go_num, (Mid.next U1.out U2.out U3.out HU.out HQ.out ZC.out BR.out.size HC3.out Z0.out Z1.out Z2.out ZB.out).drew⟩
            case measure => simp [intOf]; omega
          · obtain rfl : k = nq := by omega
            have MD := Lib.hid (Mid.done (inp2 := inp2) (show Mid w #[.int .i64 x.id, .int .i64 x.size, .bool x.keep, .int .u32 x.r0, .int .u32 x.r1, .int .u32 x.r2, .int .u32 x.r3, .int .u32 x.r4, .int .u32 x.r5, .int .u32 x.r6, .int .u32 x.r7, .int .u32 x.pc, .int .u8 x.st, .slice Am ml cm] #[.int .i64 fr, .int .i64 tk, .int .i64 ver, .slice B k d, .slice Ci ni ci] fr2 tk2 ver2 qs k Ci2 ni2 ci2 k wr from ⟨us, Bk, dk, U1.out, U2.out, U3.out, U4.out, U5.out, U6.out, X0.out, X1.out, X2.out, BR.out⟩) HNQ.out LQ.out S2.out.2.1 H20.out.2.2.2)
            clear U1 U2 U3 U4 U5 U6 X0 X1 X2 BR zf MID
            skip
            go_upto_region 8 with fail
            clear y3 z3
            obtain ⟨qs3, Bl, dl, t1, t2, t3, t4, t5, t6, t7, t8⟩ := MD.out
            clear MD hk hkl h63
            have N3 := Lib.hid t1; have CH := Lib.hid t2; have S3 := Lib.hid t3; have W3 := Lib.hid t4; have X0 := Lib.hid t5; have X1 := Lib.hid t6; have X2 := Lib.hid t7; have BR := Lib.hid t8
            clear t1 t2 t3 t4 t5 t6 t7 t8
            obtain ⟨L, hL⟩ : ∃ l, wr.heap.size = l := ⟨_, rfl⟩
            go_cut [8, 9] from 59 to 62 (fun tX tY wc => Res2 L wr (fun B d C c => #[.int .i64 fr, .int .i64 tk, .int .i64 ver, .slice B k d, .slice C ni c]) (fun B d C c => #[.int .i64 fr2, .int .i64 tk2, .int .i64 ver2, .slice B k d, .slice C ni2 c]) qs inp qs3 inp2 tX tY wc)
            case first =>
              rename_i J0 K0 hJ0 hK0
              exact blindReg_any X1.out X2.out (H10.out.below BR.out) W3.out S1.out S3.out HNQ.out HNI.out N3.out HNI2.out hL rfl _ _ (fun _ _ _ _ _ _ _ h => hK0 _ _ (hJ0 _ _ ⟨_, _, _, _, _, _, h, rfl⟩))
            case rest =>
              obtain ⟨a, b, B7, d7, C7, c7, B8, d8, C8, c8, rfl, rfl, ⟨_, _, p3, p4, p5⟩, o1, o2⟩ := hcut
              dsimp only at p3 p4
              obtain ⟨w5, hw5⟩ : ∃ z : World, z = wc := ⟨_, rfl⟩
              subst hw5
              subst hL
              have D5 := Lib.hid (BR.out.trans (p5.mono BR.out.size))
              have Y0 := Lib.hid (blk_below X0.out p5 (blk_lt X0.out))
              have PA := Lib.hid p3; have PB := Lib.hid p4; have O1 := Lib.hid o1; have O2 := Lib.hid o2
              clear p3 p4 p5 o1 o2 X0 X1 X2 W3 BR
              have a0 := blk_cell Y0.out 0
              have a1 := blk_cell Y0.out 1
              have a2 := blk_cell Y0.out 2
              have a3 := blk_cell Y0.out 3
              have a4 := blk_cell Y0.out 4
              have a5 := blk_cell Y0.out 5
              have a6 := blk_cell Y0.out 6
              have a7 := blk_cell Y0.out 7
              have a8 := blk_cell Y0.out 8
              have a9 := blk_cell Y0.out 9
              have a10 := blk_cell Y0.out 10
              have a11 := blk_cell Y0.out 11
              have a12 := blk_cell Y0.out 12
              have a13 := blk_cell Y0.out 13
              have y0 := blk_cell PA.out 0
              have y1 := blk_cell PA.out 1
              have y2 := blk_cell PA.out 2
              have y3 := blk_cell PA.out 3
              have y4 := blk_cell PA.out 4
              have T1 := Lib.hid (do_one x Am ml cm fr tk ver qs inp B7 k d7 C7 ni c7 HML.out HNQ.out HNI.out S1.out HR.out HMC.out HMA.out w5 (HM0.out.below D5.out) O1.out.win)
              go_wp2_with fail
              refine T1.out.mono ?_
              rintro e w6 ⟨Aq, cq, f1, t1, v1, Bq, n1, dq, Cq, m1, k1, rfl, r1, b6⟩
              obtain ⟨P1, hP1⟩ : ∃ P, oneP x qs = P := ⟨_, rfl⟩
              obtain ⟨E1, hE1⟩ : ∃ P, oneE x qs = P := ⟨_, rfl⟩
              obtain ⟨l1, hl1⟩ : ∃ l, P1.mem.length = l := ⟨_, rfl⟩
              rw [hP1] at r1 ⊢; rw [hE1, hl1]
              have HP1 := Lib.hid hP1; have HE1 := Lib.hid hE1; have HL1 := Lib.hid hl1
              clear a0 a1 a2 a3 a4 a5 a6 a7 a8 a9 a10 a11 a12 a13 y0 y1 y2 y3 y4 T1 hP1 hE1 hl1
              have E6 := Lib.hid ((ext1 w6 (.cells #[.int .i64 P1.id, .int .i64 P1.size, .bool P1.keep, .int .u32 P1.r0, .int .u32 P1.r1, .int .u32 P1.r2, .int .u32 P1.r3, .int .u32 P1.r4, .int .u32 P1.r5, .int .u32 P1.r6, .int .u32 P1.r7, .int .u32 P1.pc, .int .u8 P1.st, .slice Aq l1 cq] 26)).trans ((ext1 (w6.alloc (.cells #[.int .i64 P1.id, .int .i64 P1.size, .bool P1.keep, .int .u32 P1.r0, .int .u32 P1.r1, .int .u32 P1.r2, .int .u32 P1.r3, .int .u32 P1.r4, .int .u32 P1.r5, .int .u32 P1.r6, .int .u32 P1.r7, .int .u32 P1.pc, .int .u8 P1.st, .slice Aq l1 cq] 26)) (.cells #[.int .i64 f1, .int .i64 t1, .int .i64 v1, .slice Bq n1 dq, .slice Cq m1 k1] 37)).mono (ext1 w6 (.cells #[.int .i64 P1.id, .int .i64 P1.size, .bool P1.keep, .int .u32 P1.r0, .int .u32 P1.r1, .int .u32 P1.r2, .int .u32 P1.r3, .int .u32 P1.r4, .int .u32 P1.r5, .int .u32 P1.r6, .int .u32 P1.r7, .int .u32 P1.pc, .int .u8 P1.st, .slice Aq l1 cq] 26)).size))
              have GQ := Lib.hid (blk_alloc (blk_new w6 #[.int .i64 P1.id, .int .i64 P1.size, .bool P1.keep, .int .u32 P1.r0, .int .u32 P1.r1, .int .u32 P1.r2, .int .u32 P1.r3, .int .u32 P1.r4, .int .u32 P1.r5, .int .u32 P1.r6, .int .u32 P1.r7, .int .u32 P1.pc, .int .u8 P1.st, .slice Aq l1 cq] 26) (.cells #[.int .i64 f1, .int .i64 t1, .int .i64 v1, .slice Bq n1 dq, .slice Cq m1 k1] 37))
              have F6 := Lib.hid (b6.trans (E6.out.mono b6.size))
              have RQ := Lib.hid (r1.below E6.out)
              have D6 := Lib.hid (D5.out.trans (F6.out.mono D5.out.size))
              replace Y0 := Lib.hid (blk_below Y0.out F6.out (blk_lt Y0.out))
              replace PB := Lib.hid (blk_below PB.out F6.out (blk_lt PB.out))
              replace O2 := Lib.hid (O2.out.below F6.out)
              clear r1 b6 E6 F6 PA O1 D5
              have a0 := blk_cell Y0.out 0
              have a1 := blk_cell Y0.out 1
              have a2 := blk_cell Y0.out 2
              have a3 := blk_cell Y0.out 3
              have a4 := blk_cell Y0.out 4
              have a5 := blk_cell Y0.out 5
              have a6 := blk_cell Y0.out 6
              have a7 := blk_cell Y0.out 7
              have a8 := blk_cell Y0.out 8
              have a9 := blk_cell Y0.out 9
              have a10 := blk_cell Y0.out 10
              have a11 := blk_cell Y0.out 11
              have a12 := blk_cell Y0.out 12
              have a13 := blk_cell Y0.out 13
              have y0 := blk_cell PB.out 0
              have y1 := blk_cell PB.out 1
              have y2 := blk_cell PB.out 2
              have y3 := blk_cell PB.out 3
              have y4 := blk_cell PB.out 4
              go_upto_region 10 with fail
              generalize ((w6.alloc (.cells #[.int .i64 P1.id, .int .i64 P1.size, .bool P1.keep, .int .u32 P1.r0, .int .u32 P1.r1, .int .u32 P1.r2, .int .u32 P1.r3, .int .u32 P1.r4, .int .u32 P1.r5, .int .u32 P1.r6, .int .u32 P1.r7, .int .u32 P1.pc, .int .u8 P1.st, .slice Aq l1 cq] 26)).alloc (.cells #[.int .i64 f1, .int .i64 t1, .int .i64 v1, .slice Bq n1 dq, .slice Cq m1 k1] 37)) = w7 at *
              have T2 := Lib.hid (do_one x Am ml cm fr2 tk2 ver2 qs3 inp2 B8 k d8 C8 ni2 c8 HML.out N3.out HNI2.out S3.out HR.out HMC.out HMA.out w7 (HM0.out.below D6.out) O2.out.win)
              go_wp2_with fail
              refine T2.out.mono ?_
              rintro e w8 ⟨Ar, cr, f2, t2, v2, Br, n2, dr, Cr, m2, k2, rfl, r2, b8⟩
              obtain ⟨P2, hP2⟩ : ∃ P, oneP x qs3 = P := ⟨_, rfl⟩
              obtain ⟨E2, hE2⟩ : ∃ P, oneE x qs3 = P := ⟨_, rfl⟩
              obtain ⟨l2, hl2⟩ : ∃ l, P2.mem.length = l := ⟨_, rfl⟩
              rw [hP2] at r2 ⊢; rw [hE2, hl2]
              have HP2 := Lib.hid hP2; have HE2 := Lib.hid hE2; have HL2 := Lib.hid hl2
              clear a0 a1 a2 a3 a4 a5 a6 a7 a8 a9 a10 a11 a12 a13 y0 y1 y2 y3 y4 T2 hP2 hE2 hl2
              have E8 := Lib.hid ((ext1 w8 (.cells #[.int .i64 P2.id, .int .i64 P2.size, .bool P2.keep, .int .u32 P2.r0, .int .u32 P2.r1, .int .u32 P2.r2, .int .u32 P2.r3, .int .u32 P2.r4, .int .u32 P2.r5, .int .u32 P2.r6, .int .u32 P2.r7, .int .u32 P2.pc, .int .u8 P2.st, .slice Ar l2 cr] 26)).trans ((ext1 (w8.alloc (.cells #[.int .i64 P2.id, .int .i64 P2.size, .bool P2.keep, .int .u32 P2.r0, .int .u32 P2.r1, .int .u32 P2.r2, .int .u32 P2.r3, .int .u32 P2.r4, .int .u32 P2.r5, .int .u32 P2.r6, .int .u32 P2.r7, .int .u32 P2.pc, .int .u8 P2.st, .slice Ar l2 cr] 26)) (.cells #[.int .i64 f2, .int .i64 t2, .int .i64 v2, .slice Br n2 dr, .slice Cr m2 k2] 37)).mono (ext1 w8 (.cells #[.int .i64 P2.id, .int .i64 P2.size, .bool P2.keep, .int .u32 P2.r0, .int .u32 P2.r1, .int .u32 P2.r2, .int .u32 P2.r3, .int .u32 P2.r4, .int .u32 P2.r5, .int .u32 P2.r6, .int .u32 P2.r7, .int .u32 P2.pc, .int .u8 P2.st, .slice Ar l2 cr] 26)).size))
              have GR := Lib.hid (blk_alloc (blk_new w8 #[.int .i64 P2.id, .int .i64 P2.size, .bool P2.keep, .int .u32 P2.r0, .int .u32 P2.r1, .int .u32 P2.r2, .int .u32 P2.r3, .int .u32 P2.r4, .int .u32 P2.r5, .int .u32 P2.r6, .int .u32 P2.r7, .int .u32 P2.pc, .int .u8 P2.st, .slice Ar l2 cr] 26) (.cells #[.int .i64 f2, .int .i64 t2, .int .i64 v2, .slice Br n2 dr, .slice Cr m2 k2] 37))
              have F8 := Lib.hid (b8.trans (E8.out.mono b8.size))
              have RR := Lib.hid (r2.below E8.out)
              have D8 := Lib.hid (D6.out.trans (F8.out.mono D6.out.size))
              replace GQ := Lib.hid (blk_below GQ.out F8.out (blk_lt GQ.out))
              replace RQ := Lib.hid (RQ.out.below F8.out)
              clear r2 b8 E8 F8 PB O2 Y0 D6
              go_upto_region 11 with fail
              generalize ((w8.alloc (.cells #[.int .i64 P2.id, .int .i64 P2.size, .bool P2.keep, .int .u32 P2.r0, .int .u32 P2.r1, .int .u32 P2.r2, .int .u32 P2.r3, .int .u32 P2.r4, .int .u32 P2.r5, .int .u32 P2.r6, .int .u32 P2.r7, .int .u32 P2.pc, .int .u8 P2.st, .slice Ar l2 cr] 26)).alloc (.cells #[.int .i64 f2, .int .i64 t2, .int .i64 v2, .slice Br n2 dr, .slice Cr m2 k2] 37)) = w9 at *
              by_cases hE : E1 = E2
              case neg =>
                have e1 : (E1 == E2) = false := by rw [beq_eq_false_iff_ne]; exact hE
                have e2 : (E1 != E2) = true := by rw [bne_iff_ne]; exact hE
                have e3 := hE
                clear hE
                go_wp2_with fail
                refine (HA.out _).mono ?_
                rintro e w10 ⟨rfl, b10⟩
                have D10 := Lib.hid (D8.out.trans (b10.mono D8.out.size)); clear b10
                go_wp2
                go_ret
                exact ⟨rfl, D10.out⟩
              case pos =>
                have hPP : P1 = P2 := by rw [← HP1.out, ← HP2.out]; exact oneP_map CH.out (by rw [HE1.out, HE2.out]; exact hE)
                subst hE
                clear HP1 HP2 HE1 HE2
                subst hPP
                obtain rfl : l1 = l2 := HL1.out.symm.trans HL2.out
                have a0 := blk_cell GQ.out 0
                have a1 := blk_cell GQ.out 1
                have a2 := blk_cell GQ.out 2
                have a3 := blk_cell GQ.out 3
                have a4 := blk_cell GQ.out 4
                have a5 := blk_cell GQ.out 5
                have a6 := blk_cell GQ.out 6
                have a7 := blk_cell GQ.out 7
                have a8 := blk_cell GQ.out 8
                have a9 := blk_cell GQ.out 9
                have a10 := blk_cell GQ.out 10
                have a11 := blk_cell GQ.out 11
                have a12 := blk_cell GQ.out 12
                have a13 := blk_cell GQ.out 13
                have y0 := blk_cell GR.out 0
                have y1 := blk_cell GR.out 1
                have y2 := blk_cell GR.out 2
                have y3 := blk_cell GR.out 3
                have y4 := blk_cell GR.out 4
                have y5 := blk_cell GR.out 5
                have y6 := blk_cell GR.out 6
                have y7 := blk_cell GR.out 7
                have y8 := blk_cell GR.out 8
                have y9 := blk_cell GR.out 9
                have y10 := blk_cell GR.out 10
                have y11 := blk_cell GR.out 11
                have y12 := blk_cell GR.out 12
                have y13 := blk_cell GR.out 13
                have T3 := Lib.hid (vmSame P1 Aq Ar l1 cq cr HL1.out w9 RQ.out RR.out)
                go_wp2_with fail
                refine T3.out.mono ?_
                rintro e w10 ⟨rfl, b10⟩
                have D10 := Lib.hid (D8.out.trans (b10.mono D8.out.size))
                clear a0 a1 a2 a3 a4 a5 a6 a7 a8 a9 a10 a11 a12 a13 y0 y1 y2 y3 y4 y5 y6 y7 y8 y9 y10 y11 y12 y13 b10 T3
                go_wp2_with fail
                refine (HA.out _).mono ?_
                rintro e w11 ⟨rfl, b11⟩
                have D11 := Lib.hid (D10.out.trans (b11.mono D10.out.size)); clear b11
                go_wp2
                go_ret
                exact ⟨rfl, D11.out⟩
end Go.Proofs.Ythkkmnckidfmkaa.hy
