/- Calls of a partition: the law HyperNames; no condition. -/
import Derived.Test.YthkkmnckidfmkaaRows
import Derived.Test.YthkkmnckidfmkaaHyN
import Derived.Test.YthkkmnckidfmkaaHyO
import Derived.Test.YthkkmnckidfmkaaHyP
import Derived.Test.YthkkmnckidfmkaaHyS
import Derived.Test.YthkkmnckidfmkaaHyU
import Derived.Deep.CutRange
import Derived.Deep.RegionHeld3
import Derived.BigRegion
import Derived.Deep.Light
namespace Go.Proofs.Ythkkmnckidfmkaa.hy
open Go Go.ChangeShapes Go.WideShapes Go.ChangeAt Go.RowKit Go.Proofs.Ythkkmnckidfmkaa.rows
theorem sameW_self (a b c : Int) (qs : List Qu) (inp : Msg) : sameW a b c qs inp a b c qs inp = true := decide_eq_true ⟨rfl, rfl, rfl, rfl, rfl⟩
set_option linter.unusedVariables false in
set_option maxRecDepth 100000 in
set_option maxHeartbeats 8000000 in
theorem namesLaw (HAW : ∀ W : World, Calls Try.prog 7 #[] W fun e w' => e = .returned (.bool true) ∧ Below W.heap.size W w') (call : Int) (fr tk ver : Int) (qs : List Qu) (inp : Msg) (B : Option Addr) (nq d : Nat) (Ci : Option Addr) (ni ci : Nat) (hnq : qs.length = nq) (hni : inp.length = ni) (hqm : ∀ q ∈ qs, q.msgs.length ≤ 140737488355328 ∧ ∀ m ∈ q.msgs, m.length ≤ 140737488355328) (fr2 tk2 ver2 : Int) (qs2 : List Qu) (inp2 : Msg) (B2 : Option Addr) (nq2 d2 : Nat) (Ci2 : Option Addr) (ni2 ci2 : Nat) (hnq2 : qs2.length = nq2) (hni2 : inp2.length = ni2) (hqm2 : ∀ q ∈ qs2, q.msgs.length ≤ 140737488355328 ∧ ∀ m ∈ q.msgs, m.length ≤ 140737488355328) (w : World) (h1 : WIn w B d qs Ci ci inp) (h2 : WIn w B2 d2 qs2 Ci2 ci2 inp2) : Calls Try.prog 4 #[.int .i64 call, .agg #[.int .i64 fr, .int .i64 tk, .int .i64 ver, .slice B nq d, .slice Ci ni ci], .agg #[.int .i64 fr2, .int .i64 tk2, .int .i64 ver2, .slice B2 nq2 d2, .slice Ci2 ni2 ci2]] w fun e w' => e = .returned (.bool true) ∧ Below w.heap.size w w' := by
  have HA := Lib.hid HAW; clear HAW
  have HB := Lib.hid ((ext1 w (.cells #[.int .i64 fr, .int .i64 tk, .int .i64 ver, .slice B nq d, .slice Ci ni ci] 29)).trans ((ext1 (w.alloc (.cells #[.int .i64 fr, .int .i64 tk, .int .i64 ver, .slice B nq d, .slice Ci ni ci] 29)) (.cells #[.int .i64 fr2, .int .i64 tk2, .int .i64 ver2, .slice B2 nq2 d2, .slice Ci2 ni2 ci2] 29)).mono (ext1 w (.cells #[.int .i64 fr, .int .i64 tk, .int .i64 ver, .slice B nq d, .slice Ci ni ci] 29)).size))
  have G0 := Lib.hid (blk_alloc (blk_new w #[.int .i64 fr, .int .i64 tk, .int .i64 ver, .slice B nq d, .slice Ci ni ci] 29) (.cells #[.int .i64 fr2, .int .i64 tk2, .int .i64 ver2, .slice B2 nq2 d2, .slice Ci2 ni2 ci2] 29))
  have G1 := Lib.hid (blk_new2 w (.cells #[.int .i64 fr, .int .i64 tk, .int .i64 ver, .slice B nq d, .slice Ci ni ci] 29) #[.int .i64 fr2, .int .i64 tk2, .int .i64 ver2, .slice B2 nq2 d2, .slice Ci2 ni2 ci2] 29)
  have H1 := Lib.hid (h1.below HB.out); have H2 := Lib.hid (h2.below HB.out)
  have HQM := Lib.hid hqm; have HQM2 := Lib.hid hqm2
  have HNQ := Lib.hid hnq; have HNI := Lib.hid hni; have HNQ2 := Lib.hid hnq2; have HNI2 := Lib.hid hni2
  clear h1 h2 hqm hqm2 hnq hni hnq2 hni2
  go_enter Try.func4, Try.ntmps4
  go_wp2_with fail
  generalize ((w.alloc (.cells #[.int .i64 fr, .int .i64 tk, .int .i64 ver, .slice B nq d, .slice Ci ni ci] 29)).alloc (.cells #[.int .i64 fr2, .int .i64 tk2, .int .i64 ver2, .slice B2 nq2 d2, .slice Ci2 ni2 ci2] 29)) = wb at *
  have a0 := blk_cell G0.out 0
  have a1 := blk_cell G0.out 1
  have a2 := blk_cell G0.out 2
  have a3 := blk_cell G0.out 3
  have a4 := blk_cell G0.out 4
  have y0 := blk_cell G1.out 0
  have y1 := blk_cell G1.out 1
  have y2 := blk_cell G1.out 2
  have y3 := blk_cell G1.out 3
  have y4 := blk_cell G1.out 4
  have T1 := Lib.hid (great ⟨0, 0, false, 0, 0, 0, 0, 0, 0, 0, 0, 0, 0, []⟩ none 0 0 fr tk ver qs inp B nq d Ci ni ci HNQ.out HNI.out HQM.out wb H1.out.1)
  go_wp2_with fail
  refine T1.out.mono ?_
  rintro e w1 ⟨rfl, b1⟩
  clear a0 a1 a2 a3 a4 y0 y1 y2 y3 y4 T1
  have D1 := Lib.hid b1; clear b1
  cases hg1 : greatV 0 qs inp
  case true =>
    go_wp2
    go_ret
    exact ⟨rfl, HB.out.trans (D1.out.mono HB.out.size)⟩
  case false =>
    have S1 := Lib.hid (greatV_small hg1)
    clear hg1
    have K1 := Lib.hid (blk_below G1.out D1.out (blk_lt G1.out))
    have y0 := blk_cell K1.out 0
    have y1 := blk_cell K1.out 1
    have y2 := blk_cell K1.out 2
    have y3 := blk_cell K1.out 3
    have y4 := blk_cell K1.out 4
    have T2 := Lib.hid (great ⟨0, 0, false, 0, 0, 0, 0, 0, 0, 0, 0, 0, 0, []⟩ none 0 0 fr2 tk2 ver2 qs2 inp2 B2 nq2 d2 Ci2 ni2 ci2 HNQ2.out HNI2.out HQM2.out w1 (H2.out.1.below D1.out))
    go_wp2_with fail
    refine T2.out.mono ?_
    rintro e w2 ⟨rfl, b2⟩
    clear y0 y1 y2 y3 y4 T2
    have D2 := Lib.hid (D1.out.trans (b2.mono D1.out.size)); clear b2
    cases hg2 : greatV 0 qs2 inp2
    case true =>
      go_wp2
      go_ret
      exact ⟨rfl, HB.out.trans (D2.out.mono HB.out.size)⟩
    case false =>
      have S2 := Lib.hid (greatV_small hg2)
      clear hg2 D1 K1
      go_upto_region 4 with fail
      go_cut [23] from 16 to 22 (fun t wc => t = .bool (decide (0 ≤ call ∧ call < 7)) ∧ Below w2.heap.size w2 wc)
      case first =>
        by_cases hc0 : 0 ≤ call
        · have N1 := Lib.hid (names w2)
          have hk0 : call ≥ 0 := hc0
          by_cases hc7 : call < 7
          · go_wp2_with fail
            refine N1.out.mono ?_
            rintro e w3 ⟨rfl, _, b3⟩
            have D3 := Lib.hid b3; clear b3 N1
            go_wp2_with fail
            go_meet
            exact ⟨by rw [decide_eq_true ⟨hc0, hc7⟩], D3.out⟩
          · go_wp2_with fail
            refine N1.out.mono ?_
            rintro e w3 ⟨rfl, _, b3⟩
            have D3 := Lib.hid b3; clear b3 N1
            go_wp2_with fail
            go_meet
            exact ⟨by rw [decide_eq_false (show ¬ (0 ≤ call ∧ call < 7) by omega), decide_eq_false (show ¬ call < 7 by omega)], D3.out⟩
        · go_wp2_with fail
          go_meet
          exact ⟨by rw [decide_eq_false (show ¬ (0 ≤ call ∧ call < 7) by omega)], Below.refl _ _⟩
      case rest =>
        obtain ⟨rfl, b3⟩ := hcut
        obtain ⟨w3, hw3⟩ : ∃ z : World, z = wc := ⟨_, rfl⟩
        subst hw3
        have D3 := Lib.hid (D2.out.trans (b3.mono D2.out.size)); clear b3
        go_upto_if 23 with fail
        go_cut [7] from 23 to 27 (fun t wc => t = .string (nameV call) ∧ Below w3.heap.size w3 wc)
        case first =>
          by_cases hc : 0 ≤ call ∧ call < 7
          · rw [decide_eq_true hc]
            obtain ⟨k, rfl⟩ : ∃ k : Nat, call = (k : Int) := ⟨call.toNat, (Int.toNat_of_nonneg hc.1).symm⟩
            have hk7 : k < 7 := by have := hc.2; omega
            have hk7i : (k : Int) < 7 := hc.2; have hk0 : (0 : Int) ≤ (k : Int) := hc.1
            have N2 := Lib.hid (names w3)
            clear hc
            go_wp2_with fail
            refine N2.out.mono ?_
            rintro e w4 ⟨rfl, g4, b4⟩
            have D4 := Lib.hid b4; clear b4 N2
            have c0 : w4.cell? ⟨w3.heap.size, k, none⟩ = some (.string (nameV (k : Int))) := by
              rw [blk_cell g4]
              have hh : ∀ j : Nat, j < 7 → (#[.string ⟨#[121, 105, 101, 108, 100]⟩, .string ⟨#[115, 101, 110, 100]⟩, .string ⟨#[114, 101, 99, 101, 105, 118, 101]⟩, .string ⟨#[110, 111, 119]⟩, .string ⟨#[105, 110, 112, 117, 116]⟩, .string ⟨#[115, 101, 108, 102]⟩, .string ⟨#[104, 97, 108, 116]⟩] : Array Value)[j]? = some (.string (nameV (j : Int))) := by
                intro j hj
                match j, hj with
                | 0, _ => rfl
                | 1, _ => rfl
                | 2, _ => rfl
                | 3, _ => rfl
                | 4, _ => rfl
                | 5, _ => rfl
                | 6, _ => rfl
              exact hh k hk7
            generalize nameV (k : Int) = nm at *
            clear g4
            go_wp2_with fail
            go_meet
            exact ⟨rfl, D4.out⟩
          · rw [decide_eq_false hc]
            go_wp2_with fail
            go_meet
            exact ⟨by rw [nameV_out (by omega)], Below.refl _ _⟩
        case rest =>
          obtain ⟨rfl, b4⟩ := hcut
          obtain ⟨w4, hw4⟩ : ∃ z : World, z = wc := ⟨_, rfl⟩
          subst hw4
          have D4 := Lib.hid (D3.out.trans (b4.mono D3.out.size)); clear b4 D2 D3
          obtain ⟨v, hv⟩ : ∃ z : World, z = w4 := ⟨_, rfl⟩
          subst hv
          replace G0 := Lib.hid (blk_below G0.out D4.out (blk_lt G0.out)); replace G1 := Lib.hid (blk_below G1.out D4.out (blk_lt G1.out)); replace H1 := Lib.hid (H1.out.below D4.out); replace H2 := Lib.hid (H2.out.below D4.out)
          obtain ⟨bv, hbv⟩ : ∃ x, sameW fr tk ver qs inp fr2 tk2 ver2 qs2 inp2 = x := ⟨_, rfl⟩
          have HSALL := Lib.hid (show ∀ w', Below v.heap.size v w' → (Below v.heap.size v w' ∧ w'.cell? ⟨w.heap.size, 0, none⟩ = some (.int .i64 fr) ∧ w'.cell? ⟨w.heap.size, 1, none⟩ = some (.int .i64 tk) ∧ w'.cell? ⟨w.heap.size, 2, none⟩ = some (.int .i64 ver) ∧ w'.cell? ⟨w.heap.size, 3, none⟩ = some (.slice B nq d) ∧ w'.cell? ⟨w.heap.size, 4, none⟩ = some (.slice Ci ni ci) ∧ w'.cell? ⟨w.heap.size + 1, 0, none⟩ = some (.int .i64 fr2) ∧ w'.cell? ⟨w.heap.size + 1, 1, none⟩ = some (.int .i64 tk2) ∧ w'.cell? ⟨w.heap.size + 1, 2, none⟩ = some (.int .i64 ver2) ∧ w'.cell? ⟨w.heap.size + 1, 3, none⟩ = some (.slice B2 nq2 d2) ∧ w'.cell? ⟨w.heap.size + 1, 4, none⟩ = some (.slice Ci2 ni2 ci2)) from fun w' hb => ⟨hb, blk_cell (blk_below G0.out hb (blk_lt G0.out)) 0, blk_cell (blk_below G0.out hb (blk_lt G0.out)) 1, blk_cell (blk_below G0.out hb (blk_lt G0.out)) 2, blk_cell (blk_below G0.out hb (blk_lt G0.out)) 3, blk_cell (blk_below G0.out hb (blk_lt G0.out)) 4, blk_cell (blk_below G1.out hb (blk_lt G1.out)) 0, blk_cell (blk_below G1.out hb (blk_lt G1.out)) 1, blk_cell (blk_below G1.out hb (blk_lt G1.out)) 2, blk_cell (blk_below G1.out hb (blk_lt G1.out)) 3, blk_cell (blk_below G1.out hb (blk_lt G1.out)) 4⟩)
          have HN := Lib.hid (fun W => name call W)
          have HT1 := Lib.hid (show ∀ W, Below v.heap.size v W → Calls Try.prog 8 #[.agg #[.int .i64 fr, .int .i64 tk, .int .i64 ver, .slice B nq d, .slice Ci ni ci]] W (CdOut fr tk ver nq ni qs inp W) from fun W hW => by have h := to_ fr tk ver qs inp B d Ci ci S1.out W (H1.out.below hW); rw [HNQ.out, HNI.out] at h; exact h)
          have HT2 := Lib.hid (show ∀ W, Below v.heap.size v W → Calls Try.prog 8 #[.agg #[.int .i64 fr2, .int .i64 tk2, .int .i64 ver2, .slice B2 nq2 d2, .slice Ci2 ni2 ci2]] W (CdOut fr2 tk2 ver2 nq2 ni2 qs2 inp2 W) from fun W hW => by have h := to_ fr2 tk2 ver2 qs2 inp2 B2 d2 Ci2 ci2 S2.out W (H2.out.below hW); rw [HNQ2.out, HNI2.out] at h; exact h)
          have HC := Lib.hid (show ∀ W B d C c, WIn W B d qs C c inp → Calls Try.prog 15 #[.agg #[.int .i64 fr, .int .i64 tk, .int .i64 ver, .slice B nq d, .slice C ni c]] W (COut fr tk ver nq ni qs inp W) from fun W B d C c h => by have k := hCopy fr tk ver qs inp B d C c S1.out W h; rw [HNQ.out, HNI.out] at k; exact k)
          have HF := Lib.hid (fun W B d C c => from_ fr tk ver B nq d C ni c W)
          have HS1 := Lib.hid (show ∀ W B d C c B' d' C' c', WIn W B d qs C c inp → WIn W B' d' qs C' c' inp → Calls Try.prog 13 #[.agg #[.int .i64 fr, .int .i64 tk, .int .i64 ver, .slice B nq d, .slice C ni c], .agg #[.int .i64 fr, .int .i64 tk, .int .i64 ver, .slice B' nq d', .slice C' ni c']] W (fun e w' => e = .returned (.bool (true)) ∧ Below W.heap.size W w') from fun W B d C c B' d' C' c' h h' => by have k := rSame fr tk ver fr tk ver qs qs inp inp B B' C C' d d' c c' S1.out.1 (fun q hq => (S1.out.2.2 q hq).1) W h.1 h'.1 h.2.2.2.1 h'.2.2.2.1; rw [HNQ.out, HNI.out, sameW_self] at k; exact k)
          have HS2 := Lib.hid (show ∀ W B d C c B' d' C' c', WIn W B d qs C c inp → WIn W B' d' qs2 C' c' inp2 → Calls Try.prog 13 #[.agg #[.int .i64 fr, .int .i64 tk, .int .i64 ver, .slice B nq d, .slice C ni c], .agg #[.int .i64 fr2, .int .i64 tk2, .int .i64 ver2, .slice B' nq2 d', .slice C' ni2 c']] W (fun e w' => e = .returned (.bool (bv)) ∧ Below W.heap.size W w') from fun W B d C c B' d' C' c' h h' => by have k := rSame fr tk ver fr2 tk2 ver2 qs qs2 inp inp2 B B' C C' d d' c c' S1.out.1 (fun q hq => (S1.out.2.2 q hq).1) W h.1 h'.1 h.2.2.2.1 h'.2.2.2.1; rw [HNQ2.out, HNI2.out, HNQ.out, HNI.out, hbv] at k; exact k)
          have HS3 := Lib.hid (show ∀ W B d C c B' d' C' c', WIn W B d qs C c inp → WIn W B' d' qs C' c' inp → Calls Try.prog 16 #[.agg #[.int .i64 fr, .int .i64 tk, .int .i64 ver, .slice B nq d, .slice C ni c], .agg #[.int .i64 fr, .int .i64 tk, .int .i64 ver, .slice B' nq d', .slice C' ni c']] W (fun e w' => e = .returned (.bool (true)) ∧ Below W.heap.size W w') from fun W B d C c B' d' C' c' h h' => by have k := hSame fr tk ver fr tk ver qs qs inp inp B B' C C' d d' c c' S1.out.1 (fun q hq => (S1.out.2.2 q hq).1) W h.1 h'.1 h.2.2.2.1 h'.2.2.2.1; rw [HNQ.out, HNI.out, sameW_self] at k; exact k)
          have HS4 := Lib.hid (show ∀ W B d C c B' d' C' c', WIn W B d qs C c inp → WIn W B' d' qs2 C' c' inp2 → Calls Try.prog 16 #[.agg #[.int .i64 fr, .int .i64 tk, .int .i64 ver, .slice B nq d, .slice C ni c], .agg #[.int .i64 fr2, .int .i64 tk2, .int .i64 ver2, .slice B' nq2 d', .slice C' ni2 c']] W (fun e w' => e = .returned (.bool (bv)) ∧ Below W.heap.size W w') from fun W B d C c B' d' C' c' h h' => by have k := hSame fr tk ver fr2 tk2 ver2 qs qs2 inp inp2 B B' C C' d d' c c' S1.out.1 (fun q hq => (S1.out.2.2 q hq).1) W h.1 h'.1 h.2.2.2.1 h'.2.2.2.1; rw [HNQ2.out, HNI2.out, HNQ.out, HNI.out, hbv] at k; exact k)
          have HW1 := Lib.hid (fun W (hW : Below v.heap.size v W) => H1.out.below hW); have HW2 := Lib.hid (fun W (hW : Below v.heap.size v W) => H2.out.below hW)
          have hk1 : Below v.heap.size v v.drew := (Below.refl v.heap.size v).drew
          clear hbv
          generalize nameV call = nm at *
          go_wp2_with fail
          go_region_held3 (fun w' => Below v.heap.size v w' ∧ w'.cell? ⟨w.heap.size, 0, none⟩ = some (.int .i64 fr) ∧ w'.cell? ⟨w.heap.size, 1, none⟩ = some (.int .i64 tk) ∧ w'.cell? ⟨w.heap.size, 2, none⟩ = some (.int .i64 ver) ∧ w'.cell? ⟨w.heap.size, 3, none⟩ = some (.slice B nq d) ∧ w'.cell? ⟨w.heap.size, 4, none⟩ = some (.slice Ci ni ci) ∧ w'.cell? ⟨w.heap.size + 1, 0, none⟩ = some (.int .i64 fr2) ∧ w'.cell? ⟨w.heap.size + 1, 1, none⟩ = some (.int .i64 tk2) ∧ w'.cell? ⟨w.heap.size + 1, 2, none⟩ = some (.int .i64 ver2) ∧ w'.cell? ⟨w.heap.size + 1, 3, none⟩ = some (.slice B2 nq2 d2) ∧ w'.cell? ⟨w.heap.size + 1, 4, none⟩ = some (.slice Ci2 ni2 ci2))
            (first | (with_reducible exact HSALL.out _ hk1) | (with_reducible exact HSALL.out _ (by assumption)))
            (first
              | ((with_reducible refine (HN.out _).mono ?_); rintro e u1 ⟨rfl, d1⟩; have l1 : Below v.heap.size v u1 := Below.trans (And.left (by assumption)) (Below.mono d1 (Below.size (And.left (by assumption)))))
              | ((with_reducible refine (HT1.out _ (And.left (by assumption))).mono ?_); rintro e u2 ⟨Ba, da, Ca, ca, rfl, ho, d2⟩; (try (have kz := WIn.below ka d2)); (try replace kb := WIn.below kb d2); have ka := WOut.win ho; clear ho; have l2 : Below v.heap.size v u2 := Below.trans (And.left (by assumption)) (Below.mono d2 (Below.size (And.left (by assumption)))))
              | ((with_reducible refine (HT2.out _ (And.left (by assumption))).mono ?_); rintro e u3 ⟨Bb, db, Cb, cb, rfl, ho, d3⟩; (try replace ka := WIn.below ka d3); (try replace kb := WIn.below kb d3); (try replace kz := WIn.below kz d3); (try replace kc := WIn.below kc d3); have kb := WOut.win ho; clear ho; have l3 : Below v.heap.size v u3 := Below.trans (And.left (by assumption)) (Below.mono d3 (Below.size (And.left (by assumption)))))
              | ((with_reducible refine (HC.out _ _ _ _ _ (by assumption)).mono ?_); rintro e u4 ⟨Bc, dc, Cc, cc, rfl, ho, d4⟩; (try replace ka := WIn.below ka d4); (try replace kb := WIn.below kb d4); (try replace kz := WIn.below kz d4); (try replace kc := WIn.below kc d4); have kc := WOut.win ho; clear ho; have l4 : Below v.heap.size v u4 := Below.trans (And.left (by assumption)) (Below.mono d4 (Below.size (And.left (by assumption)))))
              | ((with_reducible refine (HF.out _ _ _ _ _).mono ?_); rintro e u5 ⟨rfl, d5⟩; (try replace ka := WIn.below ka d5); (try replace kb := WIn.below kb d5); (try replace kz := WIn.below kz d5); (try replace kc := WIn.below kc d5); have l5 : Below v.heap.size v u5 := Below.trans (And.left (by assumption)) (Below.mono d5 (Below.size (And.left (by assumption)))))
              | ((with_reducible refine (HS1.out _ _ _ _ _ _ _ _ _ (by assumption) (HW1.out _ (And.left (by assumption)))).mono ?_); rintro e u6 ⟨rfl, d6⟩; (try replace ka := WIn.below ka d6); (try replace kb := WIn.below kb d6); (try replace kz := WIn.below kz d6); (try replace kc := WIn.below kc d6); have l6 : Below v.heap.size v u6 := Below.trans (And.left (by assumption)) (Below.mono d6 (Below.size (And.left (by assumption)))))
              | ((with_reducible refine (HS2.out _ _ _ _ _ _ _ _ _ (HW1.out _ (And.left (by assumption))) (HW2.out _ (And.left (by assumption)))).mono ?_); rintro e u7 ⟨rfl, d7⟩; (try replace ka := WIn.below ka d7); (try replace kb := WIn.below kb d7); (try replace kz := WIn.below kz d7); (try replace kc := WIn.below kc d7); have l7 : Below v.heap.size v u7 := Below.trans (And.left (by assumption)) (Below.mono d7 (Below.size (And.left (by assumption)))))
              | ((with_reducible refine (HS3.out _ _ _ _ _ _ _ _ _ (by assumption) (by assumption)).mono ?_); rintro e u8 ⟨rfl, d8⟩; have l8 : Below v.heap.size v u8 := Below.trans (And.left (by assumption)) (Below.mono d8 (Below.size (And.left (by assumption)))))
              | ((with_reducible refine (HS4.out _ _ _ _ _ _ _ _ _ (by assumption) (by assumption)).mono ?_); rintro e u9 ⟨rfl, d9⟩; have l9 : Below v.heap.size v u9 := Below.trans (And.left (by assumption)) (Below.mono d9 (Below.size (And.left (by assumption)))))
              | ((with_reducible refine (HA.out _).mono ?_); rintro e u10 ⟨rfl, d10⟩; have l10 : Below v.heap.size v u10 := Below.trans (And.left (by assumption)) (Below.mono d10 (Below.size (And.left (by assumption))))))
          all_goals go_wp2_with fail
          all_goals go_ret
          all_goals exact ⟨rfl, HB.out.trans ((D4.out.trans (l10.mono D4.out.size)).mono HB.out.size)⟩
end Go.Proofs.Ythkkmnckidfmkaa.hy
