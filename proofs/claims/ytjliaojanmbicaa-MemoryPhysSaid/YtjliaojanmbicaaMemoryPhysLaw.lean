/- The law MemoryPhys: physical memory, and a memory that begins with an image, is as the document says; no condition. -/
import Derived.Test.YtjliaojanmbicaaRows
import Derived.Test.YtjliaojanmbicaaMemS
import Derived.Test.YtjliaojanmbicaaMemF
import Derived.Test.YtjliaojanmbicaaMemG
namespace Go.Proofs.Ytjliaojanmbicaa.phys
open Go Go.ChangeShapes Go.WideShapes Go.ChangeAt Go.RowKit Go.Proofs.Ytjliaojanmbicaa.rows Go.Proofs.Ytjliaojanmbicaa.reg
theorem big1 (A A2 A3 : Option Addr) (n c n2 c2 r3 c3 : Nat) (fb : Bool) (size : Int) (h0 : (20 : Int) < (n : Int)) (w : World) : Calls Try.prog 7 #[.slice A n c, .slice A2 n2 c2, .bool fb, .int .i64 size, .slice A3 r3 c3] w fun e w' => e = .returned (.bool true) ∧ Below w.heap.size w w' := by
  go_enter Try.func7, Try.ntmps7
  go_wp2
  go_ret
  exact ⟨rfl, Below.refl _ _⟩
theorem big2 (A A2 A3 : Option Addr) (n c n2 c2 r3 c3 : Nat) (fb : Bool) (size : Int) (h0 : (n : Int) ≤ 20) (h1 : (20 : Int) < (n2 : Int)) (w : World) : Calls Try.prog 7 #[.slice A n c, .slice A2 n2 c2, .bool fb, .int .i64 size, .slice A3 r3 c3] w fun e w' => e = .returned (.bool true) ∧ Below w.heap.size w w' := by
  go_enter Try.func7, Try.ntmps7
  go_wp2
  go_ret
  exact ⟨rfl, Below.refl _ _⟩
theorem big3 (A A2 A3 : Option Addr) (n c n2 c2 r3 c3 : Nat) (fb : Bool) (size : Int) (h0 : (n : Int) ≤ 20) (h1 : (n2 : Int) ≤ 20) (h2 : (600 : Int) < (r3 : Int)) (w : World) : Calls Try.prog 7 #[.slice A n c, .slice A2 n2 c2, .bool fb, .int .i64 size, .slice A3 r3 c3] w fun e w' => e = .returned (.bool true) ∧ Below w.heap.size w w' := by
  go_enter Try.func7, Try.ntmps7
  go_wp2
  go_ret
  exact ⟨rfl, Below.refl _ _⟩
theorem lent_msg {lo n g cap : Nat} {w' : World} {l : Msg} (hown : w'.ownsRow lo 5 1 (.slice (some ⟨g, 0, none⟩) (n + 1) cap) (n + 1) (bcs (l ++ [99]))) (hle : n + 1 ≤ cap) (hn : l.length = n) : MsgAt lo w'.heap.size w' (.slice (some ⟨g, 0, none⟩) n cap) l := by
  subst hn
  refine ⟨_, cap, rfl, by omega, (fun h => by cases h), .inl ⟨g, rfl⟩, ?_⟩
  have := (RowIn.of_own hown (Nat.le_refl _)).take l.length
  rw [bcs_take, List.take_left] at this
  exact this
set_option maxRecDepth 100000 in
set_option maxHeartbeats 4000000 in
theorem law_main (l : List Reg) (ms : List Msg) (im : Msg) (A A2 A3 : Option Addr) (n c n2 c2 r3 c3 : Nat) (fb : Bool) (size : Int) (hn : l.length = n) (hnc : n ≤ c) (hn2 : ms.length = n2) (hr3 : im.length = r3) (h0 : (n : Int) ≤ 20) (h1 : (n2 : Int) ≤ 20) (h2 : (r3 : Int) ≤ 600) (w : World) (h : Rd w A (regCells l)) (hm2 : Rms w A2 ms) (him : Rd w A3 (bcs im)) : Calls Try.prog 7 #[.slice A n c, .slice A2 n2 c2, .bool fb, .int .i64 size, .slice A3 r3 c3] w fun e w' => e = .returned (.bool true) ∧ Below w.heap.size w w' := by
  obtain ⟨i0, hi, hz0, hz1, hz2⟩ := info_parts info_row
  have H := Lib.hid h; have H2 := Lib.hid hm2; have HN := Lib.hid hn; have HN2 := Lib.hid hn2; have HIM := Lib.hid him; have HR3 := Lib.hid hr3
  have HTW := Lib.hid mem.awake
  have TI := fun (W : World) (g : Rd W A3 (bcs im)) => mem.lent im A3 c3 (by omega) W g
  have TF := fun (g : Nat) (cap : Nat) (W : World) (hh : Rd W (some ⟨g, 0, none⟩) (bcs im)) => fill_any size im (some ⟨g, 0, none⟩) r3 cap hr3 W hh
  have TR := fun (W : World) (hh : Rd W A3 (bcs im)) => rfill_any size im A3 r3 c3 hr3 W hh
  have TP := fun (qs : List Msg) (A5 : Option Addr) (c5 : Nat) (hq : qs.length = n2) (W : World) (g1 : Rd W A (regCells l)) (g2 : Rms W A5 qs) => (phys l qs A A5 n c c5 hn hnc n2 hq (by omega) (by omega) W g1 g2).mono fun e w' h => POut.any h
  have TQ := fun (qs : List Msg) (A5 : Option Addr) (c5 : Nat) (hq : qs.length = n2) (W : World) (g1 : Rd W A (regCells l)) (g2 : Rms W A5 qs) => (rphys l qs A A5 n c c5 hn n2 hq (by omega) (by omega) W g1 g2).mono fun e w' h => POut.any h
  rw [hr3] at TI
  have HTI := Lib.hid TI; have HTF := Lib.hid TF; have HTR := Lib.hid TR; have HTP := Lib.hid TP; have HTQ := Lib.hid TQ
  clear TI TF TR TP TQ h hm2 him hn hn2 hr3
  go_enter Try.func7, Try.ntmps7
  go_wp2
  go_loopw [11, 12] (fun v iv wr => ∃ k : Nat, k ≤ n2 ∧ iv = .int .i64 k ∧ ∃ qs : List Msg, qs.length = k ∧ Grow w.heap.size wr v qs ∧ Below w.heap.size w wr) (fun _ iv _ => n2 - (intOf iv).toNat)
  case atStart => exact ⟨0, Nat.zero_le _, rfl, [], rfl, Grow.nil _ _, Below.refl _ _⟩
  case round =>
    obtain ⟨k, hk, rfl, qs, hqk, hg, hb⟩ := hrel
    obtain ⟨A5, c5, rfl, hc5, hA5, hf5, ho5⟩ := hg.form
    have HO5 := Lib.hid ho5.rows
    rw [hqk] at hg ⊢
    have HB := Lib.hid hb; have HG := Lib.hid hg; have HQL := Lib.hid hqk; have hz := hb.size
    clear hb hg hqk hf5 hA5 ho5
    by_cases hkl : k < n2
    · have hki : (k : Int) < (n2 : Int) := by omega
      have hk0 : (0 : Int) ≤ (k : Int) := by omega
      obtain ⟨b2, off2, rfl⟩ := H2.out.addr (by rw [HN2.out]; omega)
      obtain ⟨m, hm⟩ : ∃ m, ms[k]? = some m := ⟨_, List.getElem?_eq_getElem (by rw [HN2.out]; exact hkl)⟩
      obtain ⟨Am, cm, cmw, hmc, hmA, hrm⟩ := H2.out.at hm
      obtain ⟨r, hr⟩ : ∃ r, m.length = r := ⟨_, rfl⟩
      rw [hr] at cmw
      have LTW := Lib.hid (World.block_lt_of_cell? w _ cmw)
      have HCW := Lib.hid cmw; have HRM := Lib.hid hrm; have HR := Lib.hid hr
      have cm0 := (HB.out.cell (p := ⟨b2, off2 + k, none⟩) LTW.out).trans cmw
      clear hm cmw hmc hmA hrm hr
      by_cases h6 : 600 < r
      · have h6i : (600 : Int) < (r : Int) := by omega
        go_wp2
        go_ret
        exact ⟨rfl, HB.out⟩
      have h6i : (r : Int) ≤ 600 := by omega
      have TL := mem.lent m Am cm (by rw [HR.out]; omega) wr (HRM.out.below HB.out)
      rw [HR.out] at TL
      have HTL := Lib.hid TL
      clear TL
      by_cases hfit : fb = true ∧ k < n
      · obtain ⟨rfl, hkn⟩ := hfit
        have hkni : (k : Int) < (n : Int) := by omega
        obtain ⟨b, off, rfl, hlt⟩ := H.out.addr (by rw [regCells_length, HN.out]; omega)
        obtain ⟨⟨x, y⟩, hp⟩ : ∃ p, l[k]? = some p := ⟨l[k]'(by rw [HN.out]; exact hkn), List.getElem?_eq_getElem (by rw [HN.out]; exact hkn)⟩
        have hw := regCells_at l k _ hp
        have c1w := H.out.cell hw.2
        rw [← Nat.add_assoc] at c1w
        simp only at c1w
        have L1 := Lib.hid (World.block_lt_of_cell? w _ c1w)
        have HC1 := Lib.hid c1w
        clear hw hp c1w hlt
        go_wp2_with fail
        refine HTL.out.mono ?_
        rintro e w3 ⟨g3, cap3, rfl, _, _, b3⟩
        have z3 := b3.size
        have c1 := ((HB.out.trans (b3.mono hz)).cell (p := ⟨b, off + k * 2 + 1, none⟩) L1.out).trans HC1.out
        have B3 := Lib.hid b3
        clear b3
        go_wp2_with fail
        refine (rfill_any y [] none 0 0 rfl w3 Rd.nil).mono ?_
        rintro e w4 ⟨v4, bs, E4, rfl, hfil, hmsg, b4⟩
        have hl512 := hfil.len
        obtain ⟨A4, c4, rfl, k1, k2, k3, k4⟩ := hmsg
        obtain ⟨L, hL⟩ : ∃ L, bs.length = L := ⟨_, rfl⟩
        have B4 := Lib.hid (B3.out.trans (b4.mono z3))
        have M4 := Lib.hid (show MsgAt wr.heap.size w4.heap.size w4 (.slice A4 L c4) bs from ⟨A4, c4, by rw [hL], k1, k2, k3, k4.mono z3 (Nat.le_refl _)⟩)
        rw [hL] at hl512 ⊢
        have HL := Lib.hid hL
        clear hfil b4 k1 k2 k3 k4 hL c1
        go_wp2_with fail
        obtain ⟨w9, hw9⟩ : ∃ w9 : World, w9 = wr := ⟨_, rfl⟩
        rw [← hw9] at HB HG HO5 HTL B3 B4 M4 hz cm0 z3
        clear hw9
        go_loopw [14] (fun jv wi => ∃ j : Nat, j ≤ L ∧ jv = .int .i64 j ∧ ∃ ml : Msg, ml.length = L ∧ MsgAt w9.heap.size wi.heap.size wi (.slice A4 L c4) ml ∧ Below w9.heap.size w9 wi) (fun jv _ => L - (intOf jv).toNat)
        case atStart => exact ⟨0, Nat.zero_le _, rfl, bs, HL.out, M4.out, B4.out⟩
        case round =>
          obtain ⟨j, hj, rfl, ml, hml, hmsg, hb⟩ := hrel
          have BI := Lib.hid hb; have MI := Lib.hid hmsg; have HML := Lib.hid hml
          have hj0 : (0 : Int) ≤ (j : Int) := by omega
          clear hb hmsg hml
          by_cases hjL : j < L
          · have hji : (j : Int) < (L : Int) := by omega
            obtain ⟨g4, rfl⟩ : ∃ g4, A4 = some ⟨g4, 0, none⟩ := by
              obtain ⟨A', c', e, _, _, h5, _⟩ := MI.out
              injection e with eA _ _
              subst eA
              rcases h5 with h5 | h5
              · exact h5
              · exfalso; have := HML.out; rw [h5] at this; simp at this; omega
            obtain ⟨z1, hz1⟩ : ∃ z1 : UInt8, (k : Int) + 1 = (z1.toNat : Int) := ⟨UInt8.ofNat (k + 1), by simp; omega⟩
            have hjm : j < ml.length := by rw [HML.out]; exact hjL
            have MI' : MsgAt w9.heap.size wr.heap.size wr (.slice (some ⟨g4, 0, none⟩) ml.length c4) ml := by rw [HML.out]; exact MI.out
            obtain ⟨S1, hlo, ⟨u1, hu1⟩, hf1⟩ := MsgAt.set MI' hjm z1
            have BW := HB.out.trans (BI.out.mono hz)
            have hlow : w.heap.size ≤ g4 := Nat.le_trans hz hlo
            have cmI : ∀ u, (wr.setCell ⟨g4, j, none⟩ u).cell? ⟨b2, off2 + k, none⟩ = some (.slice Am r cm) := fun u => ((BW.setCell (p := ⟨g4, j, none⟩) hlow u).cell (p := ⟨b2, off2 + k, none⟩) LTW.out).trans HCW.out
            have B1 := Lib.hid (BI.out.setCell (p := ⟨g4, j, none⟩) hlo (.int .u8 ((k : Int) + 1)))
            have M1 := Lib.hid (show MsgAt w9.heap.size (wr.setCell ⟨g4, j, none⟩ (.int .u8 ((k : Int) + 1))).heap.size (wr.setCell ⟨g4, j, none⟩ (.int .u8 ((k : Int) + 1))) (.slice (some ⟨g4, 0, none⟩) L c4) (ml.set j z1) by
              rw [hz1, ← HML.out]
              simpa using S1)
            have HM1 := Lib.hid (show (ml.set j z1).length = L by rw [List.length_set, HML.out])
            have HBW := Lib.hid BW; have HLO := Lib.hid hlo; have HLW := Lib.hid hlow
            clear S1 MI' hjm hz1 BW hlo hlow
            by_cases hjr : j < r
            · have hjri : (j : Int) < (r : Int) := by omega
              obtain ⟨z2, hz2'⟩ : ∃ z2, m[j]? = some z2 := ⟨_, List.getElem?_eq_getElem (by rw [HR.out]; exact hjr)⟩
              obtain ⟨b3, o3, rfl, hb3⟩ := HRM.out.addr (by rw [bcs_length, HR.out]; omega)
              have HZ2 := Lib.hid (HRM.out.cell (bcs_at hz2'))
              have LT3 := Lib.hid hb3
              have czI : ∀ u, (wr.setCell ⟨g4, j, none⟩ u).cell? ⟨b3, o3 + j, none⟩ = some (.int .u8 (z2.toNat : Int)) := fun u => ((HBW.out.setCell (p := ⟨g4, j, none⟩) HLW.out u).cell (p := ⟨b3, o3 + j, none⟩) LT3.out).trans HZ2.out
              have M1' : MsgAt w9.heap.size (wr.setCell ⟨g4, j, none⟩ (.int .u8 ((k : Int) + 1))).heap.size (wr.setCell ⟨g4, j, none⟩ (.int .u8 ((k : Int) + 1))) (.slice (some ⟨g4, 0, none⟩) (ml.set j z1).length c4) (ml.set j z1) := by rw [HM1.out]; exact M1.out
              obtain ⟨S2, _, ⟨u2, hu2⟩, hf2⟩ := MsgAt.set M1' (k := j) (by rw [HM1.out]; exact hjL) z2
              have M2 := Lib.hid (show MsgAt w9.heap.size ((wr.setCell ⟨g4, j, none⟩ (.int .u8 ((k : Int) + 1))).setCell ⟨g4, j, none⟩ (.int .u8 (z2.toNat : Int))).heap.size ((wr.setCell ⟨g4, j, none⟩ (.int .u8 ((k : Int) + 1))).setCell ⟨g4, j, none⟩ (.int .u8 (z2.toNat : Int))) (.slice (some ⟨g4, 0, none⟩) L c4) ((ml.set j z1).set j z2) by
                rw [HM1.out] at S2
                simpa using S2)
              have HM2 := Lib.hid (show ((ml.set j z1).set j z2).length = L by rw [List.length_set, HM1.out])
              have B2 := Lib.hid (B1.out.setCell (p := ⟨g4, j, none⟩) HLO.out (.int .u8 (z2.toNat : Int)))
              clear S2 M1' hz2' hb3
              go_wp2_with fail
              go_roundw
              case rel => exact ⟨j + 1, by omega, by go_num, _, HM2.out, M2.out, B2.out⟩
              case measure => simp [intOf]; omega
            · have hjri : ¬ (j : Int) < (r : Int) := by omega
              go_wp2_with fail
              go_roundw
              case rel => exact ⟨j + 1, by omega, by go_num, _, HM1.out, M1.out, B1.out⟩
              case measure => simp [intOf]; omega
          · have hji : ¬ (j : Int) < (L : Int) := by omega
            have hgw := HG.out.below BI.out
            obtain ⟨vs, hown, hvl, hms⟩ := hgw.own
            rw [HQL.out] at hown hvl
            have HOWN := Lib.hid hown; have HVL := Lib.hid hvl; have HMS := Lib.hid hms
            have hsz := Nat.le_trans hz BI.out.size
            have HMSG := Lib.hid MI.out
            clear hgw hown hvl hms
            go_wp2_with (at_builtin; refine wpList_append_rd _ rfl (.tmp 98) (.tmp 100) 49 rfl w.heap.size 22 i0 (.slice none 0 0) 1 24 Try.underlying49 hi hz0 hz1 hz2 rfl (by decide) _ k vs rfl (HOWN.out.alloc _) _ 1 _ [.slice A4 L c4] rfl rfl (Rd.new _ _ _) ?d2 ?d3 ?d4 ?d5 ?_)
            case d2 => first | rfl | (intro u hu; simp at hu; subst hu; rfl)
            case d3 => unfold maxLen; omega
            case d4 => omega
            case d5 => first | omega | (simp; omega)
            intro v5 w5 hown5 hg5
            have hb5 := below_own ((HB.out.trans (BI.out.mono hz)).alloc hsz (.cells #[.slice A4 L c4] 22)) (HOWN.out.alloc _) hg5 (by simp; omega)
            have HG5 := Lib.hid (show Grow w.heap.size w5 v5 (qs ++ [ml]) from by
              have hBA := (Below.refl wr.heap.size wr).alloc (Nat.le_refl _) (.cells #[.slice A4 L c4] 22)
              refine Grow.snoc (vs := vs) (by rw [HQL.out]; exact HOWN.out.alloc _) (by rw [HQL.out]; exact HVL.out) (fun j x hx => ?_) ((HMSG.out.below hBA (Nat.le_refl _)).mono hz hBA.size) (by rw [HQL.out]; exact hown5) hg5
              obtain ⟨u, e1, e2⟩ := HMS.out j x hx
              exact ⟨u, e1, (e2.below hBA (Nat.le_refl _)).mono (Nat.le_refl _) hBA.size⟩)
            have HB5 := Lib.hid hb5
            have HQ5 := Lib.hid (show (qs ++ [ml]).length = k + 1 by simp [HQL.out])
            clear hown5 hg5 hb5
            go_wp2_with fail
            go_roundw
            case rel => exact ⟨k + 1, by omega, by go_num, qs ++ [ml], HQ5.out, HG5.out, HB5.out⟩
            case measure => simp [intOf]; omega
      · cases fb with
        | false =>
          go_wp2_with fail
          refine HTL.out.mono ?_
          rintro e w3 ⟨g3, cap3, rfl, hcap3, hown3, b3⟩
          have B3 := Lib.hid b3
          have M3 := Lib.hid (lent_msg hown3 hcap3 HR.out)
          clear b3 hown3 hcap3
          have hgw := HG.out.below B3.out
          obtain ⟨vs, hown, hvl, hms⟩ := hgw.own
          rw [HQL.out] at hown hvl
          have HOWN := Lib.hid hown; have HVL := Lib.hid hvl; have HMS := Lib.hid hms
          have hsz := Nat.le_trans hz B3.out.size
          have HMSG := Lib.hid M3.out
          clear hgw hown hvl hms
          go_wp2_with (at_builtin; refine wpList_append_rd _ rfl (.tmp 98) (.tmp 100) 49 rfl w.heap.size 22 i0 (.slice none 0 0) 1 24 Try.underlying49 hi hz0 hz1 hz2 rfl (by decide) _ k vs rfl (HOWN.out.alloc _) _ 1 _ [.slice (some ⟨g3, 0, none⟩) r cap3] rfl rfl (Rd.new _ _ _) ?d2 ?d3 ?d4 ?d5 ?_)
          case d2 => first | rfl | (intro u hu; simp at hu; subst hu; rfl)
          case d3 => unfold maxLen; omega
          case d4 => omega
          case d5 => first | omega | (simp; omega)
          intro v5 w5 hown5 hg5
          have hb5 := below_own ((HB.out.trans (B3.out.mono hz)).alloc hsz (.cells #[.slice (some ⟨g3, 0, none⟩) r cap3] 22)) (HOWN.out.alloc _) hg5 (by simp; omega)
          have HG5 := Lib.hid (show Grow w.heap.size w5 v5 (qs ++ [m]) from by
            have hBA := (Below.refl w3.heap.size w3).alloc (Nat.le_refl _) (.cells #[.slice (some ⟨g3, 0, none⟩) r cap3] 22)
            refine Grow.snoc (vs := vs) (by rw [HQL.out]; exact HOWN.out.alloc _) (by rw [HQL.out]; exact HVL.out) (fun j x hx => ?_) ((HMSG.out.below hBA (Nat.le_refl _)).mono hz hBA.size) (by rw [HQL.out]; exact hown5) hg5
            obtain ⟨u, e1, e2⟩ := HMS.out j x hx
            exact ⟨u, e1, (e2.below hBA (Nat.le_refl _)).mono (Nat.le_refl _) hBA.size⟩)
          have HB5 := Lib.hid hb5
          have HQ5 := Lib.hid (show (qs ++ [m]).length = k + 1 by simp [HQL.out])
          clear hown5 hg5 hb5
          go_wp2_with fail
          go_roundw
          case rel => exact ⟨k + 1, by omega, by go_num, qs ++ [m], HQ5.out, HG5.out, HB5.out⟩
          case measure => simp [intOf]; omega
        | true =>
          have hkni : ¬ (k : Int) < (n : Int) := fun hh => hfit ⟨rfl, by omega⟩
          go_wp2_with fail
          refine HTL.out.mono ?_
          rintro e w3 ⟨g3, cap3, rfl, hcap3, hown3, b3⟩
          have B3 := Lib.hid b3
          have M3 := Lib.hid (lent_msg hown3 hcap3 HR.out)
          clear b3 hown3 hcap3
          have hgw := HG.out.below B3.out
          obtain ⟨vs, hown, hvl, hms⟩ := hgw.own
          rw [HQL.out] at hown hvl
          have HOWN := Lib.hid hown; have HVL := Lib.hid hvl; have HMS := Lib.hid hms
          have hsz := Nat.le_trans hz B3.out.size
          have HMSG := Lib.hid M3.out
          clear hgw hown hvl hms
          go_wp2_with (at_builtin; refine wpList_append_rd _ rfl (.tmp 98) (.tmp 100) 49 rfl w.heap.size 22 i0 (.slice none 0 0) 1 24 Try.underlying49 hi hz0 hz1 hz2 rfl (by decide) _ k vs rfl (HOWN.out.alloc _) _ 1 _ [.slice (some ⟨g3, 0, none⟩) r cap3] rfl rfl (Rd.new _ _ _) ?d2 ?d3 ?d4 ?d5 ?_)
          case d2 => first | rfl | (intro u hu; simp at hu; subst hu; rfl)
          case d3 => unfold maxLen; omega
          case d4 => omega
          case d5 => first | omega | (simp; omega)
          intro v5 w5 hown5 hg5
          have hb5 := below_own ((HB.out.trans (B3.out.mono hz)).alloc hsz (.cells #[.slice (some ⟨g3, 0, none⟩) r cap3] 22)) (HOWN.out.alloc _) hg5 (by simp; omega)
          have HG5 := Lib.hid (show Grow w.heap.size w5 v5 (qs ++ [m]) from by
            have hBA := (Below.refl w3.heap.size w3).alloc (Nat.le_refl _) (.cells #[.slice (some ⟨g3, 0, none⟩) r cap3] 22)
            refine Grow.snoc (vs := vs) (by rw [HQL.out]; exact HOWN.out.alloc _) (by rw [HQL.out]; exact HVL.out) (fun j x hx => ?_) ((HMSG.out.below hBA (Nat.le_refl _)).mono hz hBA.size) (by rw [HQL.out]; exact hown5) hg5
            obtain ⟨u, e1, e2⟩ := HMS.out j x hx
            exact ⟨u, e1, (e2.below hBA (Nat.le_refl _)).mono (Nat.le_refl _) hBA.size⟩)
          have HB5 := Lib.hid hb5
          have HQ5 := Lib.hid (show (qs ++ [m]).length = k + 1 by simp [HQL.out])
          clear hown5 hg5 hb5
          go_wp2_with fail
          go_roundw
          case rel => exact ⟨k + 1, by omega, by go_num, qs ++ [m], HQ5.out, HG5.out, HB5.out⟩
          case measure => simp [intOf]; omega
    · have hki : ¬ (k : Int) < (n2 : Int) := by omega
      obtain rfl : k = n2 := by omega
      go_wp2_with fail
      refine (HTP.out qs A5 c5 HQL.out wr (H.out.below HB.out) HO5.out).mono ?_
      rintro e w3 ⟨Ag, cg, bs, E, rfl, hph, hrd, b3⟩
      have D3 := Lib.hid (HB.out.trans (b3.mono hz))
      have R3 := Lib.hid (HO5.out.below b3)
      have HPH := Lib.hid hph; have RD3 := Lib.hid hrd
      obtain ⟨nb, hnb⟩ : ∃ nb, bs.length = nb := ⟨_, rfl⟩
      rw [hnb]
      have HNB := Lib.hid hnb
      clear hph hrd b3 hnb
      go_wp2_with fail
      refine (HTQ.out qs A5 c5 HQL.out w3 (H.out.below D3.out) R3.out).mono ?_
      rintro e w4 ⟨Ah, ch, bs2, E2, rfl, hph2, hrd2, b4⟩
      obtain ⟨rfl, rfl⟩ := HPH.out.one hph2
      rw [HNB.out]
      have D4 := Lib.hid (D3.out.trans (b4.mono D3.out.size))
      have RD4 := Lib.hid hrd2
      have RD3' := Lib.hid (RD3.out.below b4)
      clear hph2 hrd2 b4
      go_wp2_with fail
      refine (HTI.out w4 (HIM.out.below D4.out)).mono ?_
      rintro e w5 ⟨g5, cap5, rfl, hcap5, hown5, b5⟩
      have D5 := Lib.hid (D4.out.trans (b5.mono D4.out.size))
      have RI5 := Lib.hid (show Rd w5 (some ⟨g5, 0, none⟩) (bcs im) by
        obtain ⟨A', c', e, _, _, _, h5⟩ := lent_msg hown5 hcap5 HR3.out
        injection e with e _ _
        subst e
        exact h5.rd)
      have RD4' := Lib.hid (RD4.out.below b5); have RD3'' := Lib.hid (RD3'.out.below b5)
      clear hcap5 hown5 b5
      go_wp2_with fail
      refine (HTF.out g5 cap5 w5 RI5.out).mono ?_
      rintro e w6 ⟨Af, cf, fs, Ef, rfl, hfil, hrdf, b6⟩
      have D6 := Lib.hid (D5.out.trans (b6.mono D5.out.size))
      have HFI := Lib.hid hfil; have RF6 := Lib.hid hrdf
      have RD46 := Lib.hid (RD4'.out.below b6); have RD36 := Lib.hid (RD3''.out.below b6)
      obtain ⟨nf, hnf⟩ : ∃ nf, fs.length = nf := ⟨_, rfl⟩
      rw [hnf]
      have HNF := Lib.hid hnf
      clear hfil hrdf b6 hnf
      go_wp2_with fail
      refine (HTR.out w6 (HIM.out.below D6.out)).mono ?_
      rintro e w7 ⟨v7, fs2, Ef2, rfl, hfil2, hm7, b7⟩
      obtain ⟨rfl, rfl⟩ := HFI.out.one hfil2
      obtain ⟨A7, c7, rfl, _, _, _, hr7⟩ := hm7
      rw [HNF.out]
      have D7 := Lib.hid (D6.out.trans (b7.mono D6.out.size))
      have s1 := str_rd bs Ag nb cg HNB.out w7 (RD36.out.below b7)
      have s2 := str_rd bs Ah nb ch HNB.out w7 (RD46.out.below b7)
      have s3 := str_rd fs Af nf cf HNF.out w7 (RF6.out.below b7)
      have s4 := str_rd fs A7 nf c7 HNF.out w7 hr7.rd
      obtain ⟨S1, hS1⟩ : ∃ S, ByteArray.mk bs.toArray = S := ⟨_, rfl⟩
      obtain ⟨S2, hS2⟩ : ∃ S, ByteArray.mk fs.toArray = S := ⟨_, rfl⟩
      rw [hS1] at s1 s2; rw [hS2] at s3 s4
      clear hfil2 b7 hr7 hS1 hS2
      go_wp2_with fail
      refine (HTW.out w7).mono ?_
      rintro e w8 ⟨rfl, b8⟩
      have D8 := Lib.hid (D7.out.trans (b8.mono D7.out.size))
      clear b8 s1 s2 s3 s4
      go_wp2
      go_ret
      exact ⟨rfl, D8.out⟩
theorem law (l : List Reg) (ms : List Msg) (fb : Bool) (size : Int) (im : Msg) (A A2 A3 : Option Addr) (c c2 c3 : Nat) (hc : l.length ≤ c) (w : World) (h : Rd w A (regCells l)) (hm2 : Rms w A2 ms) (him : Rd w A3 (bcs im)) : Calls Try.prog 7 #[.slice A l.length c, .slice A2 ms.length c2, .bool fb, .int .i64 size, .slice A3 im.length c3] w fun e w' => e = .returned (.bool true) ∧ Below w.heap.size w w' := by
  by_cases h0 : (20 : Int) < (l.length : Int)
  · exact big1 A A2 A3 l.length c ms.length c2 im.length c3 fb size h0 w
  by_cases h1 : (20 : Int) < (ms.length : Int)
  · exact big2 A A2 A3 l.length c ms.length c2 im.length c3 fb size (by omega) h1 w
  by_cases h2 : (600 : Int) < (im.length : Int)
  · exact big3 A A2 A3 l.length c ms.length c2 im.length c3 fb size (by omega) (by omega) h2 w
  exact law_main l ms im A A2 A3 l.length c ms.length c2 im.length c3 fb size rfl hc rfl rfl (by omega) (by omega) (by omega) w h hm2 him
end Go.Proofs.Ytjliaojanmbicaa.phys
