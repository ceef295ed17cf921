/- Calls of a partition: the law HyperWhose; no condition. -/
import Derived.Test.YthkkmnckidfmkaaRows
import Derived.Test.YthkkmnckidfmkaaHyV
import Derived.Test.YthkkmnckidfmkaaHyY
import Derived.Test.YthkkmnckidfmkaaHyO
import Derived.Test.YthkkmnckidfmkaaHyQ
import Derived.Deep.CutRange
import Derived.Deep.RegionHeld3
import Derived.BigRegion
import Derived.Deep.Light
import Derived.RegionTactic
namespace Go.Proofs.Ythkkmnckidfmkaa.hy
open Go Go.ChangeShapes Go.WideShapes Go.ChangeAt Go.RowKit Go.Proofs.Ythkkmnckidfmkaa.rows
set_option linter.unusedVariables false in
set_option maxRecDepth 100000 in
set_option maxHeartbeats 8000000 in
theorem whoseLaw (HAW : ∀ W : World, Calls Try.prog 7 #[] W fun e w' => e = .returned (.bool true) ∧ Below W.heap.size W w') (call : Int) (x : Pt) (Am : Option Addr) (ml cm : Nat) (hml : x.mem.length = ml) (hmc : ml ≤ cm) (hmA : Am = none → cm = 0) (hr : (0 ≤ x.r0 ∧ x.r0 < 4294967296) ∧ (0 ≤ x.r1 ∧ x.r1 < 4294967296) ∧ 0 ≤ x.r2 ∧ x.r2 < 4294967296) (fr tk ver : Int) (qs : List Qu) (inp : Msg) (B : Option Addr) (nq d : Nat) (Ci : Option Addr) (ni ci : Nat) (hnq : qs.length = nq) (hni : inp.length = ni) (hqm : ∀ q ∈ qs, q.msgs.length ≤ 140737488355328 ∧ ∀ m ∈ q.msgs, m.length ≤ 140737488355328) (w : World) (hm : Rd w Am (bcs x.mem)) (h1 : WIn w B d qs Ci ci inp) : Calls Try.prog 5 #[.int .i64 call, .agg #[.int .i64 x.id, .int .i64 x.size, .bool x.keep, .int .u32 x.r0, .int .u32 x.r1, .int .u32 x.r2, .int .u32 x.r3, .int .u32 x.r4, .int .u32 x.r5, .int .u32 x.r6, .int .u32 x.r7, .int .u32 x.pc, .int .u8 x.st, .slice Am ml cm], .agg #[.int .i64 fr, .int .i64 tk, .int .i64 ver, .slice B nq d, .slice Ci ni ci]] w fun e w' => e = .returned (.bool true) ∧ Below w.heap.size w w' := by
  have HA := Lib.hid HAW; clear HAW
  have HB := Lib.hid ((ext1 w (.cells #[.int .i64 x.id, .int .i64 x.size, .bool x.keep, .int .u32 x.r0, .int .u32 x.r1, .int .u32 x.r2, .int .u32 x.r3, .int .u32 x.r4, .int .u32 x.r5, .int .u32 x.r6, .int .u32 x.r7, .int .u32 x.pc, .int .u8 x.st, .slice Am ml cm] 26)).trans ((ext1 (w.alloc (.cells #[.int .i64 x.id, .int .i64 x.size, .bool x.keep, .int .u32 x.r0, .int .u32 x.r1, .int .u32 x.r2, .int .u32 x.r3, .int .u32 x.r4, .int .u32 x.r5, .int .u32 x.r6, .int .u32 x.r7, .int .u32 x.pc, .int .u8 x.st, .slice Am ml cm] 26)) (.cells #[.int .i64 fr, .int .i64 tk, .int .i64 ver, .slice B nq d, .slice Ci ni ci] 29)).mono (ext1 w (.cells #[.int .i64 x.id, .int .i64 x.size, .bool x.keep, .int .u32 x.r0, .int .u32 x.r1, .int .u32 x.r2, .int .u32 x.r3, .int .u32 x.r4, .int .u32 x.r5, .int .u32 x.r6, .int .u32 x.r7, .int .u32 x.pc, .int .u8 x.st, .slice Am ml cm] 26)).size))
  have G0 := Lib.hid (blk_alloc (blk_new w #[.int .i64 x.id, .int .i64 x.size, .bool x.keep, .int .u32 x.r0, .int .u32 x.r1, .int .u32 x.r2, .int .u32 x.r3, .int .u32 x.r4, .int .u32 x.r5, .int .u32 x.r6, .int .u32 x.r7, .int .u32 x.pc, .int .u8 x.st, .slice Am ml cm] 26) (.cells #[.int .i64 fr, .int .i64 tk, .int .i64 ver, .slice B nq d, .slice Ci ni ci] 29))
  have G1 := Lib.hid (blk_new2 w (.cells #[.int .i64 x.id, .int .i64 x.size, .bool x.keep, .int .u32 x.r0, .int .u32 x.r1, .int .u32 x.r2, .int .u32 x.r3, .int .u32 x.r4, .int .u32 x.r5, .int .u32 x.r6, .int .u32 x.r7, .int .u32 x.pc, .int .u8 x.st, .slice Am ml cm] 26) #[.int .i64 fr, .int .i64 tk, .int .i64 ver, .slice B nq d, .slice Ci ni ci] 29)
  have H1 := Lib.hid (h1.below HB.out); have H10 := Lib.hid h1; have HM0 := Lib.hid hm
  have HQM := Lib.hid hqm; have HNQ := Lib.hid hnq; have HNI := Lib.hid hni; have HML := Lib.hid hml; have HMC := Lib.hid hmc; have HMA := Lib.hid hmA; have HR := Lib.hid hr
  clear hm h1 hqm hnq hni hml hmc hmA hr
  go_enter Try.func5, Try.ntmps5
  go_wp2_with fail
  generalize ((w.alloc (.cells #[.int .i64 x.id, .int .i64 x.size, .bool x.keep, .int .u32 x.r0, .int .u32 x.r1, .int .u32 x.r2, .int .u32 x.r3, .int .u32 x.r4, .int .u32 x.r5, .int .u32 x.r6, .int .u32 x.r7, .int .u32 x.pc, .int .u8 x.st, .slice Am ml cm] 26)).alloc (.cells #[.int .i64 fr, .int .i64 tk, .int .i64 ver, .slice B nq d, .slice Ci ni ci] 29)) = wb at *
  have a0 := blk_cell G0.out 0
  have a1 := blk_cell G0.out 1
  have a2 := blk_cell G0.out 2
  have a3 := blk_cell G0.out 3
  have a4 := blk_cell G0.out 4
  have a5 := blk_cell G0.out 5
  have a6 := blk_cell G0.out 6
  have a7 := blk_cell G0.out 7
  have a8 := blk_cell G0.out 8
  have a9 := blk_cell G0.out 9
  have a10 := blk_cell G0.out 10
  have a11 := blk_cell G0.out 11
  have a12 := blk_cell G0.out 12
  have a13 := blk_cell G0.out 13
  have y0 := blk_cell G1.out 0
  have y1 := blk_cell G1.out 1
  have y2 := blk_cell G1.out 2
  have y3 := blk_cell G1.out 3
  have y4 := blk_cell G1.out 4
  have T1 := Lib.hid (great x Am ml cm fr tk ver qs inp B nq d Ci ni ci HNQ.out HNI.out HQM.out wb H1.out.1)
  go_wp2_with fail
  refine T1.out.mono ?_
  rintro e w1 ⟨rfl, b1⟩
  clear a0 a1 a2 a3 a4 a5 a6 a7 a8 a9 a10 a11 a12 a13 y0 y1 y2 y3 y4 T1
  have D1 := Lib.hid b1; clear b1
  cases hg1 : greatV ml qs inp
  case true =>
    go_wp2_with fail
    refine (HA.out _).mono ?_
    rintro e w8 ⟨rfl, b8⟩
    have D8 := Lib.hid (HB.out.trans ((D1.out.trans (b8.mono D1.out.size)).mono HB.out.size)); clear b8
    go_wp2
    go_ret
    exact ⟨rfl, D8.out⟩
  case false =>
    have S1 := Lib.hid (greatV_small hg1); have ST1 := Lib.hid (greatV_tame hg1)
    clear hg1 HQM
    replace G0 := Lib.hid (blk_below G0.out D1.out (blk_lt G0.out))
    replace G1 := Lib.hid (blk_below G1.out D1.out (blk_lt G1.out))
    replace H1 := Lib.hid (H1.out.below D1.out)
    have y0 := blk_cell G1.out 0
    have y1 := blk_cell G1.out 1
    have y2 := blk_cell G1.out 2
    have y3 := blk_cell G1.out 3
    have y4 := blk_cell G1.out 4
    have T2 := to_ fr tk ver qs inp B d Ci ci S1.out w1 H1.out
    rw [HNQ.out, HNI.out] at T2
    have HT2 := Lib.hid T2; clear T2
    go_wp2_with fail
    refine HT2.out.mono ?_
    rintro e w2 ⟨B1, d1, C1, c1, rfl, ho, b2⟩
    have D2 := Lib.hid (D1.out.trans (b2.mono D1.out.size)); have HO := Lib.hid ho
    clear y0 y1 y2 y3 y4 HT2
    replace G0 := Lib.hid (blk_below G0.out b2 (blk_lt G0.out))
    replace G1 := Lib.hid (blk_below G1.out b2 (blk_lt G1.out))
    clear b2 ho
    have GW := Lib.hid (blk_new w2 #[.int .i64 fr, .int .i64 tk, .int .i64 ver, .slice B1 nq d1, .slice C1 ni c1] 37); have E3 := Lib.hid (ext1 w2 (.cells #[.int .i64 fr, .int .i64 tk, .int .i64 ver, .slice B1 nq d1, .slice C1 ni c1] 37))
    have W1 := Lib.hid (HO.out.below E3.out)
    have D3 := Lib.hid (D2.out.trans (E3.out.mono D2.out.size))
    replace G0 := Lib.hid (blk_below G0.out E3.out (blk_lt G0.out))
    replace G1 := Lib.hid (blk_below G1.out E3.out (blk_lt G1.out))
    clear HO D1 D2 E3 H1
    have a0 := blk_cell G0.out 0
    have a1 := blk_cell G0.out 1
    have a2 := blk_cell G0.out 2
    have a3 := blk_cell G0.out 3
    have a4 := blk_cell G0.out 4
    have a5 := blk_cell G0.out 5
    have a6 := blk_cell G0.out 6
    have a7 := blk_cell G0.out 7
    have a8 := blk_cell G0.out 8
    have a9 := blk_cell G0.out 9
    have a10 := blk_cell G0.out 10
    have a11 := blk_cell G0.out 11
    have a12 := blk_cell G0.out 12
    have a13 := blk_cell G0.out 13
    have y0 := blk_cell GW.out 0
    have y1 := blk_cell GW.out 1
    have y2 := blk_cell GW.out 2
    have y3 := blk_cell GW.out 3
    have y4 := blk_cell GW.out 4
    go_upto_region 4 with fail
    generalize (w2.alloc (.cells #[.int .i64 fr, .int .i64 tk, .int .i64 ver, .slice B1 nq d1, .slice C1 ni c1] 37)) = w3 at *
    cases hok : okD x qs
    case false =>
      have T3 := do_bad call x Am cm fr tk ver qs inp B1 d1 C1 c1 S1.out hok w3 W1.out.win
      rw [HML.out, HNQ.out, HNI.out] at T3
      have HT3 := Lib.hid T3; clear T3 hok
      go_wp2_with fail
      refine HT3.out.mono ?_
      rintro e w4 ⟨rfl, b4⟩
      clear a0 a1 a2 a3 a4 a5 a6 a7 a8 a9 a10 a11 a12 a13 y0 y1 y2 y3 y4 HT3
      have D4 := Lib.hid (D3.out.trans (b4.mono D3.out.size)); clear b4
      have q9 := blk_new2 w4 (.cells #[.int .i64 0, .int .i64 0, .bool false, .int .u32 0, .int .u32 0, .int .u32 0, .int .u32 0, .int .u32 0, .int .u32 0, .int .u32 0, .int .u32 0, .int .u32 0, .int .u8 0, .slice none 0 0] 26) #[.int .i64 0, .int .i64 0, .int .i64 0, .slice none 0 0, .slice none 0 0] 37
      have q93 := blk_cell q9 3
      clear q9
      have D5 := Lib.hid (D4.out.trans (((ext1 w4 (.cells #[.int .i64 0, .int .i64 0, .bool false, .int .u32 0, .int .u32 0, .int .u32 0, .int .u32 0, .int .u32 0, .int .u32 0, .int .u32 0, .int .u32 0, .int .u32 0, .int .u8 0, .slice none 0 0] 26)).trans ((ext1 (w4.alloc (.cells #[.int .i64 0, .int .i64 0, .bool false, .int .u32 0, .int .u32 0, .int .u32 0, .int .u32 0, .int .u32 0, .int .u32 0, .int .u32 0, .int .u32 0, .int .u32 0, .int .u8 0, .slice none 0 0] 26)) (.cells #[.int .i64 0, .int .i64 0, .int .i64 0, .slice none 0 0, .slice none 0 0] 37)).mono (ext1 w4 (.cells #[.int .i64 0, .int .i64 0, .bool false, .int .u32 0, .int .u32 0, .int .u32 0, .int .u32 0, .int .u32 0, .int .u32 0, .int .u32 0, .int .u32 0, .int .u32 0, .int .u8 0, .slice none 0 0] 26)).size)).mono D4.out.size))
      go_wp2_with fail
      refine (HA.out _).mono ?_
      rintro e w8 ⟨rfl, b8⟩
      have D8 := Lib.hid (HB.out.trans ((D5.out.trans (b8.mono D5.out.size)).mono HB.out.size)); clear b8
      go_wp2
      go_ret
      exact ⟨rfl, D8.out⟩
    case true =>
      obtain ⟨p, qs', inp', y, hV⟩ : ∃ p qs' inp' y, doV call x fr tk ver qs inp = (p, qs', inp', y) := ⟨_, _, _, _, rfl⟩
      have T3 := do_ok call x Am cm fr tk ver qs inp B1 d1 C1 c1 S1.out hok HR.out.1.1 HR.out.1.2 HR.out.2.1.1 HR.out.2.1.2 HR.out.2.2.1 HR.out.2.2.2 (by rw [HML.out]; exact HMC.out) HMA.out w3 (HM0.out.below (HB.out.trans (D3.out.mono HB.out.size))) W1.out.win
      unfold DOut at T3
      rw [hV, HML.out, HNQ.out, HNI.out] at T3
      dsimp only at T3
      have HT3 := Lib.hid T3; clear T3
      have CHG := Lib.hid (doV_changes (by unfold okD at hok; by_cases h : x.st = 0; exact h; simp [h] at hok) hV)
      have HVV := Lib.hid hV
      clear hok hV
      go_wp2_with fail
      refine HT3.out.mono ?_
      rintro e w4 ⟨b4, Ap, cp, B4, d4, C4, c4, rfl, hp, ho⟩
      clear a0 a1 a2 a3 a4 a5 a6 a7 a8 a9 a10 a11 a12 a13 y0 y1 y2 y3 y4 HT3
      have hqs : qs'.length = nq := by rw [← HNQ.out]; exact CHG.out.len
      have HMQ := Lib.hid (show ∀ q ∈ qs', q.msgs.length ≤ 1000000 from fun q hq => Nat.le_trans (CHG.out.lens (fun q hq => (ST1.out.2.2.2 q hq).1) q hq) (by decide))
      obtain ⟨mp, hmp⟩ : ∃ k, p.mem.length = k := ⟨_, rfl⟩
      obtain ⟨ni', hni'⟩ : ∃ k, inp'.length = k := ⟨_, rfl⟩
      rw [hqs, hmp, hni']
      have E5 := Lib.hid ((ext1 w4 (.cells #[.int .i64 p.id, .int .i64 p.size, .bool p.keep, .int .u32 p.r0, .int .u32 p.r1, .int .u32 p.r2, .int .u32 p.r3, .int .u32 p.r4, .int .u32 p.r5, .int .u32 p.r6, .int .u32 p.r7, .int .u32 p.pc, .int .u8 p.st, .slice Ap mp cp] 26)).trans ((ext1 (w4.alloc (.cells #[.int .i64 p.id, .int .i64 p.size, .bool p.keep, .int .u32 p.r0, .int .u32 p.r1, .int .u32 p.r2, .int .u32 p.r3, .int .u32 p.r4, .int .u32 p.r5, .int .u32 p.r6, .int .u32 p.r7, .int .u32 p.pc, .int .u8 p.st, .slice Ap mp cp] 26)) (.cells #[.int .i64 fr, .int .i64 tk, .int .i64 ver, .slice B4 nq d4, .slice C4 ni' c4] 37)).mono (ext1 w4 (.cells #[.int .i64 p.id, .int .i64 p.size, .bool p.keep, .int .u32 p.r0, .int .u32 p.r1, .int .u32 p.r2, .int .u32 p.r3, .int .u32 p.r4, .int .u32 p.r5, .int .u32 p.r6, .int .u32 p.r7, .int .u32 p.pc, .int .u8 p.st, .slice Ap mp cp] 26)).size))
      have HP := Lib.hid (hp.below E5.out); have WO := Lib.hid (ho.below E5.out)
      have HMP := Lib.hid hmp; have HNI' := Lib.hid hni'; have HQS := Lib.hid hqs
      clear hp ho hmp hni' hqs
      have D4 := Lib.hid (D3.out.trans (b4.mono D3.out.size))
      have D5 := Lib.hid (D4.out.trans (E5.out.mono D4.out.size))
      replace G0 := Lib.hid (blk_below (blk_below G0.out b4 (blk_lt G0.out)) E5.out (blk_lt (blk_below G0.out b4 (blk_lt G0.out))))
      replace G1 := Lib.hid (blk_below (blk_below G1.out b4 (blk_lt G1.out)) E5.out (blk_lt (blk_below G1.out b4 (blk_lt G1.out))))
      replace GW := Lib.hid (blk_below (blk_below GW.out b4 (blk_lt GW.out)) E5.out (blk_lt (blk_below GW.out b4 (blk_lt GW.out))))
      replace W1 := Lib.hid ((W1.out.below b4).below E5.out)
      have GP := Lib.hid (blk_alloc (blk_new w4 #[.int .i64 p.id, .int .i64 p.size, .bool p.keep, .int .u32 p.r0, .int .u32 p.r1, .int .u32 p.r2, .int .u32 p.r3, .int .u32 p.r4, .int .u32 p.r5, .int .u32 p.r6, .int .u32 p.r7, .int .u32 p.pc, .int .u8 p.st, .slice Ap mp cp] 26) (.cells #[.int .i64 fr, .int .i64 tk, .int .i64 ver, .slice B4 nq d4, .slice C4 ni' c4] 37)); have GV := Lib.hid (blk_new2 w4 (.cells #[.int .i64 p.id, .int .i64 p.size, .bool p.keep, .int .u32 p.r0, .int .u32 p.r1, .int .u32 p.r2, .int .u32 p.r3, .int .u32 p.r4, .int .u32 p.r5, .int .u32 p.r6, .int .u32 p.r7, .int .u32 p.pc, .int .u8 p.st, .slice Ap mp cp] 26) #[.int .i64 fr, .int .i64 tk, .int .i64 ver, .slice B4 nq d4, .slice C4 ni' c4] 37)
      clear b4 E5 D4 D3
      go_upto_region 7 with fail
      generalize ((w4.alloc (.cells #[.int .i64 p.id, .int .i64 p.size, .bool p.keep, .int .u32 p.r0, .int .u32 p.r1, .int .u32 p.r2, .int .u32 p.r3, .int .u32 p.r4, .int .u32 p.r5, .int .u32 p.r6, .int .u32 p.r7, .int .u32 p.pc, .int .u8 p.st, .slice Ap mp cp] 26)).alloc (.cells #[.int .i64 fr, .int .i64 tk, .int .i64 ver, .slice B4 nq d4, .slice C4 ni' c4] 37)) = w5 at *
      have v0 := blk_cell GV.out 0
      have v1 := blk_cell GV.out 1
      have v2 := blk_cell GV.out 2
      have v3 := blk_cell GV.out 3
      have v4 := blk_cell GV.out 4
      have y0 := blk_cell GW.out 0
      have y1 := blk_cell GW.out 1
      have y2 := blk_cell GW.out 2
      have y3 := blk_cell GW.out 3
      have y4 := blk_cell GW.out 4
      have z0 := blk_cell G1.out 0
      have z1 := blk_cell G1.out 1
      have z2 := blk_cell G1.out 2
      have z3 := blk_cell G1.out 3
      have z4 := blk_cell G1.out 4
      go_wp2_with fail
      clear v0 v1 v2 v3 v4 y0 y1 y2 y3 y4 z0 z1 z2 z3 z4
      have h63 : (nq : Int) ≤ 1000000 := by rw [← HNQ.out]; have := S1.out.1; omega
      skip
      go_loopw [12, 13] (fun cv iv wr => ∃ k : Nat, k ≤ nq ∧ cv = .int .i64 (cnt qs' qs k) ∧ iv = .int .i64 k ∧ Below w5.heap.size w5 wr) (fun _ iv _ => nq - (intOf iv).toNat)
      case atStart => exact ⟨0, Nat.zero_le _, rfl, rfl, Below.refl _ _⟩
      case round =>
        obtain ⟨k, hk, rfl, rfl, hb⟩ := hrel
        have BR := Lib.hid hb; have hz := hb.size; clear hb
        have GVr := Lib.hid (blk_below GV.out BR.out (blk_lt GV.out)); have GWr := Lib.hid (blk_below GW.out BR.out (blk_lt GW.out))
        have v3 := blk_cell GVr.out 3; have y3 := blk_cell GWr.out 3
        by_cases hkl : k < nq
        · have hki : (k : Int) < (nq : Int) := by omega
          have hk0 : (0 : Int) ≤ (k : Int) := by omega
          obtain ⟨a, ha⟩ : ∃ a, qs'[k]? = some a := ⟨_, List.getElem?_eq_getElem (by rw [HQS.out]; exact hkl)⟩
          obtain ⟨b, hb⟩ : ∃ b, qs[k]? = some b := ⟨_, List.getElem?_eq_getElem (by rw [HNQ.out]; exact hkl)⟩
          have QA := Lib.hid (WO.out.win.1.below BR.out); have QB := Lib.hid (W1.out.win.1.below BR.out)
          obtain ⟨ba, oa, hBa, _⟩ := Rws.addr qu_len (by decide) QA.out (by rw [HQS.out]; omega)
          obtain ⟨bb, ob, hBb, _⟩ := Rws.addr qu_len (by decide) QB.out (by rw [HNQ.out]; omega)
          rw [hBa] at QA v3; rw [hBb] at QB y3
          obtain ⟨Aa, ca, ia, ga⟩ := Rws.at qu_len QA.out ha
          obtain ⟨Ab, cb, ib, gb⟩ := Rws.at qu_len QB.out hb
          have p0 := ga 0 _ rfl; have q0 := gb 0 _ rfl
          have p1 := ga 1 _ rfl; have q1 := gb 1 _ rfl
          have p2 := ga 2 _ rfl; have q2 := gb 2 _ rfl
          have p3 := ga 3 _ rfl; have q3 := gb 3 _ rfl
          have p4 := ga 4 _ rfl; have q4 := gb 4 _ rfl
          have p5 := ga 5 _ rfl; have q5 := gb 5 _ rfl
          dsimp only [Nat.add_zero] at p0 q0
          have IA := Lib.hid ia; have IB := Lib.hid ib; have HAk := Lib.hid ha; have HBk := Lib.hid hb; have HBa := Lib.hid hBa; have HBb := Lib.hid hBb
          clear ga gb ia ib ha hb hBa hBb QA QB
          go_upto_region 14 with fail
          have E6 := Lib.hid (ext1 wr (.cells #[.int .i64 b.ch.id, .int .i64 b.ch.fr, .int .i64 b.ch.to, .int .i64 b.ch.cap, .int .i64 b.ch.sz] 33))
          have GC := Lib.hid (blk_new wr #[.int .i64 b.ch.id, .int .i64 b.ch.fr, .int .i64 b.ch.to, .int .i64 b.ch.cap, .int .i64 b.ch.sz] 33)
          have B6 := Lib.hid (BR.out.trans (E6.out.mono BR.out.size))
          replace GVr := Lib.hid (blk_below GVr.out E6.out (blk_lt GVr.out)); replace GWr := Lib.hid (blk_below GWr.out E6.out (blk_lt GWr.out)); replace IA := Lib.hid (inM_below _ _ _ _ _ IA.out E6.out); replace IB := Lib.hid (inM_below _ _ _ _ _ IB.out E6.out)
          replace p0 := (E6.out.cell (World.block_lt_of_cell? wr _ p0)).trans p0
          replace p1 := (E6.out.cell (World.block_lt_of_cell? wr _ p1)).trans p1
          replace p2 := (E6.out.cell (World.block_lt_of_cell? wr _ p2)).trans p2
          replace p3 := (E6.out.cell (World.block_lt_of_cell? wr _ p3)).trans p3
          replace p4 := (E6.out.cell (World.block_lt_of_cell? wr _ p4)).trans p4
          replace p5 := (E6.out.cell (World.block_lt_of_cell? wr _ p5)).trans p5
          replace q0 := (E6.out.cell (World.block_lt_of_cell? wr _ q0)).trans q0
          replace q1 := (E6.out.cell (World.block_lt_of_cell? wr _ q1)).trans q1
          replace q2 := (E6.out.cell (World.block_lt_of_cell? wr _ q2)).trans q2
          replace q3 := (E6.out.cell (World.block_lt_of_cell? wr _ q3)).trans q3
          replace q4 := (E6.out.cell (World.block_lt_of_cell? wr _ q4)).trans q4
          replace q5 := (E6.out.cell (World.block_lt_of_cell? wr _ q5)).trans q5
          clear v3 y3 E6
          generalize (wr.alloc (.cells #[.int .i64 b.ch.id, .int .i64 b.ch.fr, .int .i64 b.ch.to, .int .i64 b.ch.cap, .int .i64 b.ch.sz] 33)) = w6 at *
          have v3 := blk_cell GVr.out 3; have y3 := blk_cell GWr.out 3
          rw [HBa.out] at v3; rw [HBb.out] at y3
          have pz0 := xc p0
          have pz1 := xc p1
          have pz2 := xc p2
          have pz3 := xc p3
          have pz4 := xc p4
          have pz5 := xc p5
          have qz0 := xc q0
          have qz1 := xc q1
          have qz2 := xc q2
          have qz3 := xc q3
          have qz4 := xc q4
          have qz5 := xc q5
          have vz := xc v3; have yz := xc y3
          have T := fun v : Ext w6.heap.size w6 => chan.same a.ch b.ch a.msgs b.msgs Aa Ab ca cb (HMQ.out a (List.mem_of_getElem? HAk.out)) v.world (IA.out.2.2.below v.below) (IB.out.2.2.below v.below)
          rw [sameQ_dec] at T
          dsimp only [chan.qcells] at T
          by_cases hab : a = b
          · rw [decide_eq_true hab] at T
            have HCN := Lib.hid (show cnt qs' qs (k + 1) = cnt qs' qs k by simp only [cnt]; rw [HAk.out, HBk.out, hab, if_pos rfl, Nat.add_zero])
            clear hab
            go_wp2_with fail
            refine region_ext (by kernel_rfl) (by kernel_rfl) ?_
            try simp only [List.append_eq, List.cons_append, List.nil_append]
            repeat (go_big_quiet_step (with_reducible exact calls_ext (Nat.le_refl _) (T _)))
            refine wpQuiet_nil ?_
            intro v
            have BV := Lib.hid v.below
            go_wp2_with fail
            go_roundw
            case rel => exact ⟨k + 1, by omega, by rw [HCN.out], by go_num, B6.out.trans (BV.out.mono B6.out.size)⟩
            case measure => simp [intOf]; omega
          · rw [decide_eq_false hab] at T
            obtain ⟨hch0, hwho0⟩ := CHG.out.turned HAk.out HBk.out hab
            have HCH := Lib.hid hch0; have HWHO := Lib.hid hwho0; clear hch0 hwho0
            have HCN := Lib.hid (show cnt qs' qs (k + 1) = cnt qs' qs k + 1 by simp only [cnt]; rw [HAk.out, HBk.out, if_neg (fun h => hab (by injection h))])
            have hc1 : cnt qs' qs k ≤ 1 := CHG.out.cnt_le k
            obtain ⟨cc, hcc⟩ : ∃ c, cnt qs' qs k = c := ⟨_, rfl⟩
            rw [hcc] at HCN hc1 ⊢
            have hcI : (cc : Int) ≤ 1 := by omega
            have HCC := Lib.hid hcc
            clear hab hcc
            go_wp2_with fail
            refine region_ext (by kernel_rfl) (by kernel_rfl) ?_
            try simp only [List.append_eq, List.cons_append, List.nil_append]
            repeat (go_big_quiet_step (with_reducible exact calls_ext (Nat.le_refl _) (T _)))
            refine wpQuiet_nil ?_
            intro v
            have BV := Lib.hid v.below
            go_upto_region 16 with fail
            obtain ⟨w7, hw7⟩ : ∃ z : World, z = v.world := ⟨_, rfl⟩
            rw [← hw7] at BV ⊢
            clear hw7 v
            clear pz0
            clear pz1
            clear pz2
            clear pz3
            clear pz4
            clear pz5
            clear qz0
            clear qz1
            clear qz2
            clear qz3
            clear qz4
            clear qz5
            clear vz yz T
            have GC7 := blk_below GC.out BV.out (blk_lt GC.out); have G07 := blk_below (blk_below G0.out B6.out (blk_lt G0.out)) BV.out (blk_lt (blk_below G0.out B6.out (blk_lt G0.out))); have GV7 := blk_below GVr.out BV.out (blk_lt GVr.out)
            have r0 := blk_cell GC7 0
            have r1 := blk_cell GC7 1
            have r2 := blk_cell GC7 2
            have r3 := blk_cell GC7 3
            have r4 := blk_cell GC7 4
            have x0 := blk_cell G07 0
            have v73 := blk_cell GV7 3
            rw [HBa.out] at v73
            replace p0 := (BV.out.cell (World.block_lt_of_cell? w6 _ p0)).trans p0
            replace p1 := (BV.out.cell (World.block_lt_of_cell? w6 _ p1)).trans p1
            replace p2 := (BV.out.cell (World.block_lt_of_cell? w6 _ p2)).trans p2
            replace p3 := (BV.out.cell (World.block_lt_of_cell? w6 _ p3)).trans p3
            replace p4 := (BV.out.cell (World.block_lt_of_cell? w6 _ p4)).trans p4
            rw [HCH.out] at p0 p1 p2 p3 p4
            clear v3 y3 GC7 G07 GV7 p5 q0 q1 q2 q3 q4 q5
            rcases HWHO.out with ⟨h1, h2⟩ | ⟨h1, h2⟩
            · subst h1
              have h2b : (b.ch.fr == x.id) = true := by simp [h2]
              have h2c : (b.ch.fr != x.id) = false := by simp [h2]
              have H2 := Lib.hid h2; clear h2
              go_wp2_with fail
              go_quiet (fail)
              go_wp2_with fail
              go_roundw
              case rel => exact ⟨k + 1, by omega, by rw [HCN.out]; go_num, by go_num, below_drewN (B6.out.trans (BV.out.mono B6.out.size)) _⟩
              case measure => simp [intOf]; omega
            · subst h1
              have h2b : (b.ch.to == x.id) = true := by simp [h2]
              have h2c : (b.ch.to != x.id) = false := by simp [h2]
              have H2 := Lib.hid h2; clear h2
              go_wp2_with fail
              go_quiet (fail)
              go_wp2_with fail
              go_roundw
              case rel => exact ⟨k + 1, by omega, by rw [HCN.out]; go_num, by go_num, below_drewN (B6.out.trans (BV.out.mono B6.out.size)) _⟩
              case measure => simp [intOf]; omega
        · obtain rfl : k = nq := by omega
          have GPr := Lib.hid (blk_below GP.out BR.out (blk_lt GP.out)); have G0r := Lib.hid (blk_below G0.out BR.out (blk_lt G0.out)); have G1r := Lib.hid (blk_below G1.out BR.out (blk_lt G1.out))
          have DB := Lib.hid (D5.out.trans (BR.out.mono D5.out.size))
          have DW := Lib.hid (HB.out.trans (DB.out.mono HB.out.size))
          have RV := Lib.hid (show Rd wr C4 (bcs inp') from (WO.out.below BR.out).2.2.2.rd)
          have RW := Lib.hid (show Rd wr Ci (bcs inp) from H10.out.2.2.2.1.below DW.out)
          have RP := Lib.hid (show Rd wr Ap (bcs p.mem) from HP.out.2.2.rd.below BR.out)
          have hc1 : cnt qs' qs k ≤ 1 := CHG.out.cnt_le k
          obtain ⟨cc, hcc⟩ : ∃ c, cnt qs' qs k = c := ⟨_, rfl⟩
          rw [hcc] at hc1 ⊢
          have HCC := Lib.hid hcc
          have HC1 := Lib.hid hc1
          have HV5 := Lib.hid WO.out.2; have HP5 := HP
          clear hcc hc1 hkl hk WO W1 HP GV GW GP G0 G1 GWr y3
          go_upto_region 18 with fail
          clear v3
          go_cut [159] from 129 to 158 (fun t wc => t = .bool false ∧ Below wr.heap.size wr wc)
          case first =>
            have v4 := blk_cell GVr.out 4; have z4 := blk_cell G1r.out 4
            have S1 := fun nq : Nat => mem.str_rd inp' C4 ni' c4 HNI'.out (wr.drewN nq) RV.out
            have S2 := fun nq : Nat => mem.str_rd inp Ci ni ci HNI.out (wr.drewN nq) RW.out
            have he := chan.str_eq inp' inp
            obtain ⟨SX, hSX⟩ : ∃ x, ByteArray.mk inp'.toArray = x := ⟨_, rfl⟩
            obtain ⟨SY, hSY⟩ : ∃ x, ByteArray.mk inp.toArray = x := ⟨_, rfl⟩
            rw [hSX] at S1 he; rw [hSY] at S2 he
            have HSX := Lib.hid hSX; clear hSX hSY
            have hcI : (cc : Int) ≤ 1 := by have := HC1.out; omega
            have hgt : decide ((1 : Int) < (cc : Int)) = false := decide_eq_false (by omega)
            by_cases hin : inp' = inp
            · rw [decide_eq_true hin] at he
              have hen : (SX.toList != SY.toList) = false := by rw [bne, he]; rfl
              clear hin
              go_wp2_with fail
              go_quiet (fail)
              go_wp2_with fail
              go_meet
              exact ⟨rfl, below_drewN (Below.refl _ _) _⟩
            · rw [decide_eq_false hin] at he
              obtain ⟨hn4, hne, hdr⟩ := CHG.out.input.resolve_left hin
              have hen : (SX.toList != SY.toList) = true := by rw [bne, he]; rfl
              subst hn4
              have hni1 : 0 < ni := by rw [← HNI.out]; exact List.length_pos_iff.2 hne
              obtain ⟨m, rfl⟩ : ∃ m, ni = m + 1 := ⟨ni - 1, by omega⟩
              have hci : m + 1 ≤ ci := by rw [← HNI.out]; exact H10.out.2.2.2.2.1
              obtain ⟨bc, oc, hCi, _⟩ := RW.out.addr (by rw [bcs_length, HNI.out]; omega)
              rw [hCi] at z4
              have RW2 := Lib.hid (show Rd wr (some ⟨bc, oc, none⟩) (bcs inp) by rw [← hCi]; exact RW.out)
              have S2b := S2
              rw [hCi] at S2b
              clear S2
              have hdl : (inp.drop 1).length = m := by rw [List.length_drop, HNI.out]; omega
              have hm0 : (0 : Int) < (m : Int) + 1 := by omega
              have hm1 : (((m : Int) + 1) == 0) = false := by rw [beq_eq_false_iff_ne]; omega
              have hm2 : (m : Int) + 1 ≠ 0 := by omega
              have HDR := Lib.hid hdr; have HDL := Lib.hid hdl
              clear hin hne hdr hdl hCi hni1
              have hmI : (m : Int) + 1 ≤ (ci : Int) := by omega
              have hez : ∀ SZ, ByteArray.mk (inp.drop 1).toArray = SZ → (SX.toList != SZ.toList) = false := fun SZ h => by rw [← h, ← HSX.out, HDR.out, bne, chan.str_eq, decide_eq_true rfl]; rfl
              have HEZ := Lib.hid hez; clear hez
              by_cases hc1 : ci = 1
              · subst hc1
                have hm00 : m = 0 := by omega
                subst hm00
                have S3 := fun nq : Nat => mem.str_rd (inp.drop 1) (some ⟨bc, oc, none⟩) 0 0 HDL.out (wr.drewN nq) (.inl (by rw [List.eq_nil_of_length_eq_zero HDL.out]; rfl))
                obtain ⟨SZ, hSZ⟩ : ∃ x, ByteArray.mk (inp.drop 1).toArray = x := ⟨_, rfl⟩
                rw [hSZ] at S3
                have hez := HEZ.out SZ hSZ
                clear hSZ
                go_wp2_with fail
                go_quiet (fail)
                go_wp2_with fail
                go_meet
                exact ⟨by rw [show (!(SX.toList == SZ.toList)) = false from hez], below_drewN (Below.refl _ _) _⟩
              · have hc2 : 1 ≤ ci := by omega
                have S3 := fun nq : Nat => mem.str_rd (inp.drop 1) (some ⟨bc, oc + 1, none⟩) m (ci - 1) HDL.out (wr.drewN nq) (show Rd wr _ _ by have := RW2.out.dropAt 1; rwa [show (bcs inp).drop 1 = bcs (inp.drop 1) by simp [bcs, Lib.byteCells]] at this)
                obtain ⟨SZ, hSZ⟩ : ∃ x, ByteArray.mk (inp.drop 1).toArray = x := ⟨_, rfl⟩
                rw [hSZ] at S3
                have hez := HEZ.out SZ hSZ
                clear hSZ
                go_wp2_with fail
                go_quiet (fail)
                go_wp2_with fail
                go_meet
                exact ⟨by rw [show (!(SX.toList == SZ.toList)) = false from hez], below_drewN (Below.refl _ _) _⟩
          case rest =>
            obtain ⟨rfl, b9⟩ := hcut
            obtain ⟨w8, hw8⟩ : ∃ z : World, z = wc := ⟨_, rfl⟩
            subst hw8
            have D8 := Lib.hid (DB.out.trans (b9.mono DB.out.size))
            have G0s := Lib.hid (blk_below G0r.out b9 (blk_lt G0r.out))
            have GPs := Lib.hid (blk_below GPr.out b9 (blk_lt GPr.out))
            have GVs := Lib.hid (blk_below GVr.out b9 (blk_lt GVr.out))
            have G1s := Lib.hid (blk_below G1r.out b9 (blk_lt G1r.out))
            have B58 := Lib.hid (BR.out.trans (b9.mono BR.out.size))
            have LP := Lib.hid (blk_lt GPs.out); have LX := Lib.hid (blk_lt G0s.out)
            clear b9 G0r GPr GVr G1r RV RW RP DB DW
            have a0 := blk_cell G0s.out 0
            have a1 := blk_cell G0s.out 1
            have a2 := blk_cell G0s.out 2
            have a3 := blk_cell G0s.out 3
            have a4 := blk_cell G0s.out 4
            have a5 := blk_cell G0s.out 5
            have a6 := blk_cell G0s.out 6
            have a7 := blk_cell G0s.out 7
            have a8 := blk_cell G0s.out 8
            have a9 := blk_cell G0s.out 9
            have a10 := blk_cell G0s.out 10
            have a11 := blk_cell G0s.out 11
            have a12 := blk_cell G0s.out 12
            have a13 := blk_cell G0s.out 13
            have v0 := blk_cell GPs.out 0
            have v1 := blk_cell GPs.out 1
            have v2 := blk_cell GPs.out 2
            have v3 := blk_cell GPs.out 3
            have v4 := blk_cell GPs.out 4
            have v5 := blk_cell GPs.out 5
            have v6 := blk_cell GPs.out 6
            have v7 := blk_cell GPs.out 7
            have v8 := blk_cell GPs.out 8
            have v9 := blk_cell GPs.out 9
            have v10 := blk_cell GPs.out 10
            have v11 := blk_cell GPs.out 11
            have v12 := blk_cell GPs.out 12
            have v13 := blk_cell GPs.out 13
            go_upto_region 21 with fail
            have E9 := Lib.hid (ext1 w8 (.cells #[.int .i64 x.id, .int .i64 x.size, .bool x.keep, .int .u32 x.r0, .int .u32 x.r1, .int .u32 x.r2, .int .u32 x.r3, .int .u32 x.r4, .int .u32 x.r5, .int .u32 x.r6, .int .u32 x.r7, .int .u32 x.pc, .int .u8 x.st, .slice Am ml cm] 26))
            have GX := Lib.hid (blk_new w8 #[.int .i64 x.id, .int .i64 x.size, .bool x.keep, .int .u32 x.r0, .int .u32 x.r1, .int .u32 x.r2, .int .u32 x.r3, .int .u32 x.r4, .int .u32 x.r5, .int .u32 x.r6, .int .u32 x.r7, .int .u32 x.pc, .int .u8 x.st, .slice Am ml cm] 26)
            replace G0s := Lib.hid (blk_below G0s.out E9.out (blk_lt G0s.out))
            replace GPs := Lib.hid (blk_below GPs.out E9.out (blk_lt GPs.out))
            replace GVs := Lib.hid (blk_below GVs.out E9.out (blk_lt GVs.out))
            replace G1s := Lib.hid (blk_below G1s.out E9.out (blk_lt G1s.out))
            have B59 := Lib.hid (B58.out.trans (E9.out.mono B58.out.size))
            have LW := Lib.hid D8.out.size
            skip
            have D9 := Lib.hid (D8.out.trans (E9.out.mono D8.out.size))
            clear a0 a1 a2 a3 a4 a5 a6 a7 a8 a9 a10 a11 a12 a13 v0 v1 v2 v3 v4 v5 v6 v7 v8 v9 v10 v11 v12 v13
            clear E9 D8
            generalize (w8.alloc (.cells #[.int .i64 x.id, .int .i64 x.size, .bool x.keep, .int .u32 x.r0, .int .u32 x.r1, .int .u32 x.r2, .int .u32 x.r3, .int .u32 x.r4, .int .u32 x.r5, .int .u32 x.r6, .int .u32 x.r7, .int .u32 x.pc, .int .u8 x.st, .slice Am ml cm] 26)) = w9 at *
            have x12 := blk_cell GX.out 12; have xf := blk_frozen GX.out 12; have v12 := blk_cell GPs.out 12
            go_upto_region 22 with fail
            have GR := Lib.hid (show (w9.setCell ⟨w8.heap.size, 12, none⟩ (.int .u8 p.st)).heap[w8.heap.size]? = some (.cells #[.int .i64 x.id, .int .i64 x.size, .bool x.keep, .int .u32 x.r0, .int .u32 x.r1, .int .u32 x.r2, .int .u32 x.r3, .int .u32 x.r4, .int .u32 x.r5, .int .u32 x.r6, .int .u32 x.r7, .int .u32 x.pc, .int .u8 p.st, .slice Am ml cm] 26 (0, 0)) from blk_set GX.out 12 (.int .u8 p.st))
            replace G0s := Lib.hid (blk_far G0s.out (p := ⟨w8.heap.size, 12, none⟩) (Nat.ne_of_lt LX.out) (.int .u8 p.st))
            replace GPs := Lib.hid (blk_far GPs.out (p := ⟨w8.heap.size, 12, none⟩) (Nat.ne_of_lt LP.out) (.int .u8 p.st))
            replace GVs := Lib.hid ((KeptX.set GX.out 12 (.int .u8 p.st)).2 _ _ _ (by decide) GVs.out)
            replace G1s := Lib.hid ((KeptX.set GX.out 12 (.int .u8 p.st)).2 _ _ _ (by decide) G1s.out)
            have KX := Lib.hid (KeptX.set GX.out 12 (.int .u8 p.st))
            have HV10 := Lib.hid (((HV5.out.below B59.out).keptX (by decide) KX.out)); have HP10 := Lib.hid ((HP5.out.below B59.out).keptX (by decide) KX.out)
            have D10 := Lib.hid (D9.out.setCell (p := ⟨w8.heap.size, 12, none⟩) LW.out (.int .u8 p.st))
            generalize (w9.setCell ⟨w8.heap.size, 12, none⟩ (.int .u8 p.st)) = w10 at *
            have DW := Lib.hid (HB.out.trans (D10.out.mono HB.out.size))
            have RM := Lib.hid (HM0.out.below DW.out); have RW := Lib.hid (H10.out.2.2.2.1.below DW.out)
            clear GX KX HV5 HP5 B58 B59 D9 x12 xf v12 LP LX
            by_cases hd : p.st = 4 ∨ call = 1 ∨ call = 0 ∨ call = 6
            case neg =>
              obtain ⟨r1, r2, r3⟩ := CHG.out.rest hd
              have n1 : (p.st == 4) = false := by rw [beq_eq_false_iff_ne]; exact fun h => hd (.inl h)
              have n2 : (call == 1) = false := by rw [beq_eq_false_iff_ne]; exact fun h => hd (.inr (.inl h))
              have n3 : (call == 0) = false := by rw [beq_eq_false_iff_ne]; exact fun h => hd (.inr (.inr (.inl h)))
              have n4 : (call == 6) = false := by rw [beq_eq_false_iff_ne]; exact fun h => hd (.inr (.inr (.inr h)))
              have m1 : ¬ p.st = 4 := fun h => hd (.inl h)
              have m2 : ¬ call = 1 := fun h => hd (.inr (.inl h))
              have m3 : ¬ call = 0 := fun h => hd (.inr (.inr (.inl h)))
              have m4 : ¬ call = 6 := fun h => hd (.inr (.inr (.inr h)))
              have v0 := blk_cell GPs.out 0; have v11 := blk_cell GPs.out 11; have v12 := blk_cell GPs.out 12; have a0 := blk_cell G0s.out 0; have a11 := blk_cell G0s.out 11; have a12 := blk_cell G0s.out 12
              have R3 := Lib.hid r3
              rw [show (#[.int .i64 p.id, .int .i64 p.size, .bool p.keep, .int .u32 p.r0, .int .u32 p.r1, .int .u32 p.r2, .int .u32 p.r3, .int .u32 p.r4, .int .u32 p.r5, .int .u32 p.r6, .int .u32 p.r7, .int .u32 p.pc, .int .u8 p.st, .slice Ap mp cp] : Array Value)[0]? = some (.int .i64 x.id) by rw [← r2]; rfl] at v0
              rw [show (#[.int .i64 p.id, .int .i64 p.size, .bool p.keep, .int .u32 p.r0, .int .u32 p.r1, .int .u32 p.r2, .int .u32 p.r3, .int .u32 p.r4, .int .u32 p.r5, .int .u32 p.r6, .int .u32 p.r7, .int .u32 p.pc, .int .u8 p.st, .slice Ap mp cp] : Array Value)[11]? = some (.int .u32 x.pc) by rw [← r1]; rfl] at v11
              clear hd r1 r2 r3
              have qz : (p.st == x.st) = true := by rw [R3.out]; exact beq_self_eq_true _
              go_wp2_with fail
              refine (HA.out _).mono ?_
              rintro e w20 ⟨rfl, b20⟩
              have D20 := Lib.hid (HB.out.trans ((D10.out.trans (b20.mono D10.out.size)).mono HB.out.size)); clear b20
              go_wp2
              go_ret
              exact ⟨rfl, D20.out⟩
            case pos =>
              have hp := CHG.out.part hd
              obtain ⟨z, hz⟩ : ∃ z, p.st = z := ⟨_, rfl⟩
              rw [hz] at hp
              subst hp
              clear hz
              (try dsimp only at GPs); (try dsimp only at GR); (try dsimp only at HMP); (try dsimp only at hd); (try dsimp only at HP10); (try dsimp only at ⊢)
              obtain rfl : mp = ml := HMP.out.symm.trans HML.out
              have v0 := blk_cell GPs.out 0
              have v1 := blk_cell GPs.out 1
              have v2 := blk_cell GPs.out 2
              have v3 := blk_cell GPs.out 3
              have v4 := blk_cell GPs.out 4
              have v5 := blk_cell GPs.out 5
              have v6 := blk_cell GPs.out 6
              have v7 := blk_cell GPs.out 7
              have v8 := blk_cell GPs.out 8
              have v9 := blk_cell GPs.out 9
              have v10 := blk_cell GPs.out 10
              have v11 := blk_cell GPs.out 11
              have v12 := blk_cell GPs.out 12
              have v13 := blk_cell GPs.out 13
              have a0 := blk_cell GR.out 0
              have a1 := blk_cell GR.out 1
              have a2 := blk_cell GR.out 2
              have a3 := blk_cell GR.out 3
              have a4 := blk_cell GR.out 4
              have a5 := blk_cell GR.out 5
              have a6 := blk_cell GR.out 6
              have a7 := blk_cell GR.out 7
              have a8 := blk_cell GR.out 8
              have a9 := blk_cell GR.out 9
              have a10 := blk_cell GR.out 10
              have a11 := blk_cell GR.out 11
              have a12 := blk_cell GR.out 12
              have a13 := blk_cell GR.out 13
              have TS := vmSame { x with st := z } Ap Am mp cp cm HMP.out w10 HP10.out.2.2.rd RM.out
              (try dsimp only at TS)
              have T := Lib.hid TS; clear TS
              by_cases hz4 : z = 4
              · subst hz4
                obtain ⟨hq, hi⟩ := CHG.out.bad rfl
                have hcc : cc = 0 := by rw [← HCC.out, hq, cnt_same]
                subst hcc
                have HI := Lib.hid hi
                clear hq hi hd
                go_wp2_with fail
                refine T.out.mono ?_
                rintro e w11 ⟨rfl, b11⟩
                clear v0 v1 v2 v3 v4 v5 v6 v7 v8 v9 v10 v11 v12 v13 a0 a1 a2 a3 a4 a5 a6 a7 a8 a9 a10 a11 a12 a13 T
                have D11 := Lib.hid (D10.out.trans (b11.mono D10.out.size))
                have v12 := blk_cell (blk_below GPs.out b11 (blk_lt GPs.out)) 12; have y4 := blk_cell (blk_below GVs.out b11 (blk_lt GVs.out)) 4; have z4 := blk_cell (blk_below G1s.out b11 (blk_lt G1s.out)) 4
                have U1 := mem.str_rd inp' C4 ni' c4 HNI'.out w11 (HV10.out.below b11).2.2.rd
                have U2 := mem.str_rd inp Ci ni ci HNI.out w11 (RW.out.below b11)
                have he := chan.str_eq inp' inp
                obtain ⟨SX, hSX⟩ : ∃ x, ByteArray.mk inp'.toArray = x := ⟨_, rfl⟩
                obtain ⟨SY, hSY⟩ : ∃ x, ByteArray.mk inp.toArray = x := ⟨_, rfl⟩
                rw [hSX] at U1 he; rw [hSY] at U2 he
                rw [decide_eq_true HI.out] at he
                clear hSX hSY b11
                (try dsimp only at v12); (try dsimp only at y4); (try dsimp only at z4)
                go_wp2_with fail
                refine (HA.out _).mono ?_
                rintro e w20 ⟨rfl, b20⟩
                have D20 := Lib.hid (HB.out.trans ((D11.out.trans (b20.mono D11.out.size)).mono HB.out.size)); clear b20
                go_wp2
                go_ret
                exact ⟨rfl, D20.out⟩
              · have n1 : (z == 4) = false := by rw [beq_eq_false_iff_ne]; exact hz4
                have n2 : (z != 4) = true := by rw [bne_iff_ne]; exact hz4
                have n3 := hz4
                clear hz4
                rcases hd with h | h | h | h
                · exact (n3 h).elim
                · subst h
                  go_wp2_with fail
                  refine T.out.mono ?_
                  rintro e w11 ⟨rfl, b11⟩
                  clear v0 v1 v2 v3 v4 v5 v6 v7 v8 v9 v10 v11 v12 v13 a0 a1 a2 a3 a4 a5 a6 a7 a8 a9 a10 a11 a12 a13 T
                  have D11 := Lib.hid (D10.out.trans (b11.mono D10.out.size))
                  have v12 := blk_cell (blk_below GPs.out b11 (blk_lt GPs.out)) 12
                  clear b11
                  go_wp2_with fail
                  refine (HA.out _).mono ?_
                  rintro e w20 ⟨rfl, b20⟩
                  have D20 := Lib.hid (HB.out.trans ((D11.out.trans (b20.mono D11.out.size)).mono HB.out.size)); clear b20
                  go_wp2
                  go_ret
                  exact ⟨rfl, D20.out⟩
                · subst h
                  go_wp2_with fail
                  refine T.out.mono ?_
                  rintro e w11 ⟨rfl, b11⟩
                  clear v0 v1 v2 v3 v4 v5 v6 v7 v8 v9 v10 v11 v12 v13 a0 a1 a2 a3 a4 a5 a6 a7 a8 a9 a10 a11 a12 a13 T
                  have D11 := Lib.hid (D10.out.trans (b11.mono D10.out.size))
                  have v12 := blk_cell (blk_below GPs.out b11 (blk_lt GPs.out)) 12
                  clear b11
                  go_wp2_with fail
                  refine (HA.out _).mono ?_
                  rintro e w20 ⟨rfl, b20⟩
                  have D20 := Lib.hid (HB.out.trans ((D11.out.trans (b20.mono D11.out.size)).mono HB.out.size)); clear b20
                  go_wp2
                  go_ret
                  exact ⟨rfl, D20.out⟩
                · subst h
                  go_wp2_with fail
                  refine T.out.mono ?_
                  rintro e w11 ⟨rfl, b11⟩
                  clear v0 v1 v2 v3 v4 v5 v6 v7 v8 v9 v10 v11 v12 v13 a0 a1 a2 a3 a4 a5 a6 a7 a8 a9 a10 a11 a12 a13 T
                  have D11 := Lib.hid (D10.out.trans (b11.mono D10.out.size))
                  have v12 := blk_cell (blk_below GPs.out b11 (blk_lt GPs.out)) 12
                  clear b11
                  go_wp2_with fail
                  refine (HA.out _).mono ?_
                  rintro e w20 ⟨rfl, b20⟩
                  have D20 := Lib.hid (HB.out.trans ((D11.out.trans (b20.mono D11.out.size)).mono HB.out.size)); clear b20
                  go_wp2
                  go_ret
                  exact ⟨rfl, D20.out⟩
end Go.Proofs.Ythkkmnckidfmkaa.hy
