/- The reference's Phys; no condition. -/
import Derived.Test.YtjliaojanmbicaaRows
import Derived.Test.YtjliaojanmbicaaMemQ
namespace Go.Proofs.Ytjliaojanmbicaa.phys
open Go Go.ChangeShapes Go.WideShapes Go.ChangeAt Go.RowKit Go.Proofs.Ytjliaojanmbicaa.rows Go.Proofs.Ytjliaojanmbicaa.reg
theorem bcs_set (L : List UInt8) (i : Nat) (z : UInt8) : (bcs L).toArray.setIfInBounds i (.int .u8 (z.toNat : Int)) = (bcs (L.set i z)).toArray := by
  simp [bcs, Lib.byteCells, List.map_set]
theorem splice_at (L m : List UInt8) (off i : Nat) (h : off + m.length ≤ L.length) : (splice L off m)[i]? = if i < off then L[i]? else if i < off + m.length then m[i - off]? else L[i]? := by
  unfold splice
  have l1 : (L.take off).length = off := by rw [List.length_take]; omega
  rw [List.getElem?_append, l1, List.getElem?_append]
  by_cases h1 : i < off
  · rw [if_pos h1, if_pos h1, List.getElem?_take, if_pos h1]
  · rw [if_neg h1, if_neg h1]
    by_cases h2 : i < off + m.length
    · rw [if_pos h2, if_pos (by omega)]
    · rw [if_neg h2, if_neg (by omega), List.getElem?_drop]
      congr 1
      omega
theorem splice_next (L m : List UInt8) (off j : Nat) (z : UInt8) (h : off + m.length ≤ L.length) (hz : m[j]? = some z) : (splice L off (m.take j)).set (off + j) z = splice L off (m.take (j + 1)) := by
  have hj := (List.getElem?_eq_some_iff.1 hz).1
  have l2 : (m.take j).length = j := by rw [List.length_take]; omega
  have l3 : (m.take (j + 1)).length = j + 1 := by rw [List.length_take]; omega
  refine List.ext_getElem? fun i => ?_
  rw [List.getElem?_set, length_splice _ _ _ (by omega), splice_at _ _ _ _ (by omega), splice_at _ _ _ _ (by omega), l2, l3]
  by_cases hi : off + j = i
  · subst hi
    rw [if_pos rfl, if_pos (by omega), if_neg (by omega), if_pos (by omega), show off + j - off = j by omega, List.getElem?_take, if_pos (by omega), hz]
  · rw [if_neg hi]
    by_cases h1 : i < off
    · rw [if_pos h1, if_pos h1]
    · rw [if_neg h1, if_neg h1]
      by_cases h2 : i < off + j
      · rw [if_pos h2, if_pos (by omega), List.getElem?_take, List.getElem?_take, if_pos (by omega), if_pos (by omega)]
      · rw [if_neg h2, if_neg (by omega)]
theorem splice_nil (L : List UInt8) (off : Nat) : splice L off [] = L := by simp [splice]
set_option maxRecDepth 100000 in
set_option maxHeartbeats 4000000 in
theorem rphys (l : List Reg) (ms : List Msg) (A A2 : Option Addr) (n c c2 : Nat) (hn : l.length = n) (n2 : Nat) (hn2 : ms.length = n2) (h63 : n ≤ 1000000) (h632 : n2 ≤ 1000000) (w : World) (h : Rd w A (regCells l)) (h2 : Rms w A2 ms) : Calls Try.prog 24 #[.slice A n c, .slice A2 n2 c2] w (POut l ms w) := by
  by_cases hne : n = n2
  rotate_left
  · have hni : ¬ (n : Int) = (n2 : Int) := by omega
    clear h h2
    go_enter Try.func24, Try.ntmps24
    go_wp2
    exact ret_tmp2 rfl rfl ⟨Below.refl _ _, .inl ⟨fun h => hne (by rw [← hn, ← hn2]; exact h.1), rfl⟩⟩
  subst hne
  have hli : (n : Int) ≤ 1000000 := by omega
  have H := Lib.hid h; have H2 := Lib.hid h2; have HN := Lib.hid hn; have HN2 := Lib.hid hn2
  have TA := fun (W : World) (g1 : Rd W A (regCells l)) => rall l A c (by omega) W g1
  rw [hn] at TA
  have HTA := Lib.hid TA
  clear h h2 hn hn2 TA
  go_enter Try.func24, Try.ntmps24
  go_wp2
  go_loopw [6] (fun iv wr => ∃ k : Nat, k ≤ n ∧ iv = .int .i64 k ∧ Fits l ms k ∧ Below w.heap.size w wr) (fun iv _ => n - (intOf iv).toNat)
  case atStart => exact ⟨0, Nat.zero_le _, rfl, (fun j p m h => absurd h (Nat.not_lt_zero _)), Below.refl _ _⟩
  case round =>
    obtain ⟨k, hk, rfl, hf, hb⟩ := hrel
    have HB := Lib.hid hb; have HF := Lib.hid hf; have hz := hb.size
    clear hb hf
    by_cases hkl : k < n
    · have hki : (k : Int) < (n : Int) := by omega
      have hk0 : (0 : Int) ≤ (k : Int) := by omega
      obtain ⟨b, off, rfl, hlt⟩ := H.out.addr (by rw [regCells_length, HN.out]; omega)
      obtain ⟨b2, off2, rfl⟩ := H2.out.addr (by rw [HN2.out]; omega)
      obtain ⟨⟨x, y⟩, hp⟩ : ∃ p, l[k]? = some p := ⟨l[k]'(by rw [HN.out]; exact hkl), List.getElem?_eq_getElem (by rw [HN.out]; exact hkl)⟩
      obtain ⟨m, hm⟩ : ∃ m, ms[k]? = some m := ⟨_, List.getElem?_eq_getElem (by rw [HN2.out]; exact hkl)⟩
      have hw := regCells_at l k _ hp
      have hr := H.out.below HB.out
      have c0 := hr.cell hw.1; have c1 := hr.cell hw.2
      rw [← Nat.add_assoc] at c1
      simp only at c0 c1
      obtain ⟨Am, cm, cmc, hmc, hmA, hrm⟩ := (H2.out.below HB.out).at hm
      obtain ⟨r, hr'⟩ : ∃ r, m.length = r := ⟨_, rfl⟩
      rw [hr'] at cmc
      have HP := Lib.hid hp; have HM := Lib.hid hm; have HR := Lib.hid hr'
      have e0 : ∀ v : Ext wr.heap.size wr, v.world.cell? ⟨b, off + k * 2, none⟩ = some (.int .i64 x) := fun v => (v.cell _ _ (World.block_lt_of_cell? wr _ c0)).trans c0
      have e1 : ∀ v : Ext wr.heap.size wr, v.world.cell? ⟨b, off + k * 2 + 1, none⟩ = some (.int .i64 y) := fun v => (v.cell _ _ (World.block_lt_of_cell? wr _ c1)).trans c1
      have em : ∀ v : Ext wr.heap.size wr, v.world.cell? ⟨b2, off2 + k, none⟩ = some (.slice Am r cm) := fun v => (v.cell _ _ (World.block_lt_of_cell? wr _ cmc)).trans cmc
      have T := fun W => rmay x y W
      clear hw hp hr hm hr' hmc hmA hrm cmc c0 c1
      cases hmay : mayR x y with
      | false =>
        simp only [hmay] at T
        have HT := Lib.hid T; have HMY := Lib.hid hmay
        clear T hmay
        go_wp2_with fail
        refine region_ext (by kernel_rfl) (by kernel_rfl) ?_
        try simp only [List.append_eq, List.cons_append, List.nil_append]
        repeat (go_big_quiet_step (first | (with_reducible exact calls_ext (Nat.le_refl _) (HT.out _))))
        refine wpQuiet_nil ?_
        intro v
        have D := Lib.hid (HB.out.trans (v.below.mono hz))
        clear e0 e1 em
        go_wp2
        refine ret_tmp2 rfl rfl ⟨D.out, .inl ⟨fun h => ?_, rfl⟩⟩
        have h1 := (h.2 k _ _ (by rw [HN.out]; exact hkl) HP.out HM.out).1
        rw [show mayR (x, y).1 (x, y).2 = mayR x y from rfl, HMY.out] at h1
        cases h1
      | true =>
        simp only [hmay] at T
        have HT := Lib.hid T; have HMY := Lib.hid hmay
        clear T hmay
        by_cases hs : (r : Int) = y
        · go_wp2_with fail
          refine region_ext (by kernel_rfl) (by kernel_rfl) ?_
          try simp only [List.append_eq, List.cons_append, List.nil_append]
          repeat (go_big_quiet_step (first | (with_reducible exact calls_ext (Nat.le_refl _) (HT.out _))))
          refine wpQuiet_nil ?_
          intro v
          have D := Lib.hid (HB.out.trans (v.below.mono hz))
          clear e0 e1 em
          have HF2 := Lib.hid (Fits.next HF.out HP.out HM.out HMY.out (by rw [HR.out]; exact hs))
          go_wp2
          go_roundw
          case rel => exact ⟨k + 1, by omega, by go_num, HF2.out, D.out⟩
          case measure => simp [intOf]; omega
        · go_wp2_with fail
          refine region_ext (by kernel_rfl) (by kernel_rfl) ?_
          try simp only [List.append_eq, List.cons_append, List.nil_append]
          repeat (go_big_quiet_step (first | (with_reducible exact calls_ext (Nat.le_refl _) (HT.out _))))
          refine wpQuiet_nil ?_
          intro v
          have D := Lib.hid (HB.out.trans (v.below.mono hz))
          clear e0 e1 em
          go_wp2
          refine ret_tmp2 rfl rfl ⟨D.out, .inl ⟨fun h => ?_, rfl⟩⟩
          have h1 := (h.2 k _ _ (by rw [HN.out]; exact hkl) HP.out HM.out).2
          rw [HR.out] at h1
          exact hs h1
    · have hki : ¬ (k : Int) < (n : Int) := by omega
      have hf := HF.out
      rw [show k = n by omega] at hf
      have HFN := Lib.hid (show Fits l ms l.length by rw [HN.out]; exact hf)
      have HLL := Lib.hid (show l.length = ms.length by rw [HN.out, HN2.out])
      clear hf
      go_wp2_with fail
      refine (HTA.out _ (H.out.below HB.out)).mono ?_
      rintro e w1 ⟨rfl, b1⟩
      have D1 := Lib.hid (HB.out.trans (b1.mono hz))
      clear b1
      rcases allE_may (HFN.out.all HLL.out) with he | he
      rotate_left
      · rw [he]
        have HE := Lib.hid he
        clear he
        go_wp2_with fail
        exact ret_tmp2 rfl rfl ⟨D1.out, .inr (.inl ⟨HLL.out, HFN.out, HE.out, rfl⟩)⟩
      · rw [he]
        have HE := Lib.hid he
        clear he
        have hm := run_made4096 w1
        have G0 := Lib.hid (show (w1.alloc (.cells (bcs (zs 4096)).toArray 5)).heap[w1.heap.size]? = some (.cells (bcs (laid l ms 0)).toArray 5 (0, 0)) from blk_new w1 _ _)
        have D2 := Lib.hid (D1.out.alloc D1.out.size (.cells (bcs (zs 4096)).toArray 5))
        have z1 := D1.out.size
        obtain ⟨Z, hZ⟩ : ∃ Z, (bcs (zs 4096)).toArray = Z := ⟨_, rfl⟩
        rw [hZ] at hm G0 D2
        clear hZ
        go_wp2_with fail
        clear hm hki hk hkl HB HF hz
        generalize (w1.alloc (.cells Z 5)) = w2 at *
        go_loopw [8] (fun iv wr => ∃ k : Nat, k ≤ n ∧ iv = .int .i64 k ∧ wr.heap[w1.heap.size]? = some (.cells (bcs (laid l ms k)).toArray 5 (0, 0)) ∧ Below w.heap.size w wr) (fun iv _ => n - (intOf iv).toNat)
        case atStart => exact ⟨0, Nat.zero_le _, rfl, G0.out, D2.out⟩
        case round =>
          obtain ⟨k, hk, rfl, hg, hb⟩ := hrel
          have HB := Lib.hid hb; have HG := Lib.hid hg; have hz := hb.size
          clear hb hg
          by_cases hkl : k < n
          · have hki : (k : Int) < (n : Int) := by omega
            have hk0 : (0 : Int) ≤ (k : Int) := by omega
            obtain ⟨b, off, rfl, hlt⟩ := H.out.addr (by rw [regCells_length, HN.out]; omega)
            obtain ⟨b2, off2, rfl⟩ := H2.out.addr (by rw [HN2.out]; omega)
            obtain ⟨⟨x, y⟩, hp⟩ : ∃ p, l[k]? = some p := ⟨l[k]'(by rw [HN.out]; exact hkl), List.getElem?_eq_getElem (by rw [HN.out]; exact hkl)⟩
            obtain ⟨m, hm⟩ : ∃ m, ms[k]? = some m := ⟨_, List.getElem?_eq_getElem (by rw [HN2.out]; exact hkl)⟩
            obtain ⟨f1, f2⟩ := HFN.out k _ _ (by rw [HN.out]; exact hkl) hp hm
            have f3 := mayR_iff.1 f1
            simp only at f2 f3
            obtain ⟨xb, rfl⟩ : ∃ xb : Nat, x = (xb : Int) := ⟨x.toNat, by omega⟩
            have hw := regCells_at l k _ hp
            have c0 := H.out.cell hw.1; have c1 := H.out.cell hw.2
            rw [← Nat.add_assoc] at c1
            simp only at c0 c1
            obtain ⟨Am, cm, cmc, hmc, hmA, hrm⟩ := H2.out.at hm
            obtain ⟨r, hr'⟩ : ∃ r, m.length = r := ⟨_, rfl⟩
            rw [hr'] at cmc f2
            subst f2
            have hxr : xb + r ≤ 4096 := by omega
            have hr16 : 16 ≤ r := by omega
            have hxi : (0 : Int) ≤ (xb : Int) := by omega
            have HLN := Lib.hid (show (bcs m).length = r by rw [bcs_length, hr'])
            have HLL4 := Lib.hid (show (laid l ms k).length = 4096 from laid_length HLL.out HFN.out k (by rw [HN.out]; omega))
            have HNX := Lib.hid (show splice (laid l ms k) xb m = laid l ms (k + 1) by
              show _ = splice (laid l ms k) (l[k]?.getD (0, 0)).1.toNat (ms[k]?.getD [])
              rw [hp, hm]
              rfl)
            obtain ⟨b3, o3, rfl, hb3, hrc⟩ : ∃ b3 o3, Am = some ⟨b3, o3, none⟩ ∧ b3 < w.heap.size ∧ ∀ (j : Nat) (u : Value), (bcs m)[j]? = some u → w.cell? ⟨b3, o3 + j, none⟩ = some u := by
              rcases hrm with e | ⟨b3, o3, e, h3, h4⟩
              · exfalso; have := HLN.out; rw [e] at this; simp at this; omega
              · exact ⟨b3, o3, e, h3, h4⟩
            have HC0 := Lib.hid c0; have HC1 := Lib.hid c1; have HCM := Lib.hid cmc; have HRC := Lib.hid hrc; have HRR := Lib.hid hr'
            have L0 := Lib.hid (World.block_lt_of_cell? w _ c0); have L1 := Lib.hid (World.block_lt_of_cell? w _ cmc); have L2 := Lib.hid hb3
            clear hw hp hm hr' hmc hmA hrm hrc f1 f3 c0 c1 cmc hb3
            go_wp2_with fail
            clear hz
            obtain ⟨w8, hw8⟩ : ∃ w8 : World, w8 = wr := ⟨_, rfl⟩
            rw [← hw8] at HB HG ⊢
            clear hw8
            go_loopw [9] (fun jv wi => ∃ j : Nat, j ≤ r ∧ jv = .int .i64 j ∧ wi.heap[w1.heap.size]? = some (.cells (bcs (splice (laid l ms k) xb (m.take j))).toArray 5 (0, 0)) ∧ Below w.heap.size w wi) (fun jv _ => r - (intOf jv).toNat)
            case atStart => exact ⟨0, Nat.zero_le _, rfl, by rw [List.take_zero, splice_nil]; exact HG.out, HB.out⟩
            case round =>
              obtain ⟨j, hj, rfl, hg, hb⟩ := hrel
              have HBI := Lib.hid hb; have HGI := Lib.hid hg
              have c1 := (hb.cell (p := ⟨b, off + k * 2 + 1, none⟩) L0.out).trans HC1.out
              have hj0 : (0 : Int) ≤ (j : Int) := by omega
              clear hb hg
              by_cases hjr : j < r
              · have hji : (j : Int) < (r : Int) := by omega
                obtain ⟨z, hz⟩ : ∃ z, m[j]? = some z := ⟨_, List.getElem?_eq_getElem (by rw [HRR.out]; exact hjr)⟩
                obtain ⟨q, hq⟩ : ∃ q, xb + j = q := ⟨_, rfl⟩
                have hwq : IntKind.i64.wrap ((xb : Int) + (j : Int)) = (q : Int) := by rw [IntWalk.i64_in _ (by omega)]; omega
                have hq0 : (0 : Int) ≤ (q : Int) := by omega
                have hq4 : (q : Int) < 4096 := by omega
                have HSN := Lib.hid (show (splice (laid l ms k) xb (m.take j)).set q z = splice (laid l ms k) xb (m.take (j + 1)) by
                  rw [← hq]; exact splice_next _ _ _ _ _ (by rw [HLL4.out, HRR.out]; exact hxr) hz)
                have HZ := Lib.hid (HRC.out j _ (bcs_at hz))
                have c0 := (HBI.out.cell (p := ⟨b, off + k * 2, none⟩) L0.out).trans HC0.out
                have cm0 := (HBI.out.cell (p := ⟨b2, off2 + k, none⟩) L1.out).trans HCM.out
                have cz := (HBI.out.cell (p := ⟨b3, o3 + j, none⟩) L2.out).trans HZ.out
                have hql : q < (splice (laid l ms k) xb (m.take j)).length := by
                  rw [length_splice _ _ _ (by rw [HLL4.out, List.length_take, HRR.out]; omega), HLL4.out]; omega
                have g0 : ∃ u, wr.cell? ⟨w1.heap.size, q, none⟩ = some u := by
                  rw [blk_cell HGI.out]
                  exact ⟨_, by rw [List.getElem?_toArray]; exact List.getElem?_eq_getElem (by rw [bcs_length]; exact hql)⟩
                obtain ⟨ug, g0⟩ := g0
                have gf := blk_frozen HGI.out q
                have hS : ∀ u, ((wr.setCell ⟨w1.heap.size, q, none⟩ u).drew.cell? ⟨b, off + k * 2, none⟩ = some (.int .i64 (xb : Int)) ∧ (wr.setCell ⟨w1.heap.size, q, none⟩ u).drew.cell? ⟨b2, off2 + k, none⟩ = some (.slice (some ⟨b3, o3, none⟩) r cm) ∧ (wr.setCell ⟨w1.heap.size, q, none⟩ u).drew.cell? ⟨b3, o3 + j, none⟩ = some (.int .u8 (z.toNat : Int))) := fun u =>
                  have B := (HBI.out.setCell (p := ⟨w1.heap.size, q, none⟩) z1 u).drew
                  ⟨(B.cell (p := ⟨b, off + k * 2, none⟩) L0.out).trans HC0.out, (B.cell (p := ⟨b2, off2 + k, none⟩) L1.out).trans HCM.out, (B.cell (p := ⟨b3, o3 + j, none⟩) L2.out).trans HZ.out⟩
                have HS1 := Lib.hid hS
                have HS0 := Lib.hid (show wr.drew.cell? ⟨b, off + k * 2, none⟩ = some (.int .i64 (xb : Int)) ∧ wr.drew.cell? ⟨b2, off2 + k, none⟩ = some (.slice (some ⟨b3, o3, none⟩) r cm) ∧ wr.drew.cell? ⟨b3, o3 + j, none⟩ = some (.int .u8 (z.toNat : Int)) from ⟨c0, cm0, cz⟩)
                have HJ := Lib.hid hq
                clear hz hS hq hql
                go_wp2_with fail
                go_region_held3 (fun w' => w'.cell? ⟨b, off + k * 2, none⟩ = some (.int .i64 (xb : Int)) ∧ w'.cell? ⟨b2, off2 + k, none⟩ = some (.slice (some ⟨b3, o3, none⟩) r cm) ∧ w'.cell? ⟨b3, o3 + j, none⟩ = some (.int .u8 (z.toNat : Int)))
                  (with_reducible (first | exact HS0.out | exact HS1.out _))
                  (fail)
                all_goals (go_wp2_with fail; go_roundw)
                all_goals first
                  | (simp [intOf]; omega)
                  | exact ⟨j + 1, by omega, by go_num, by rw [← HSN.out, ← bcs_set]; exact blk_set HGI.out q _, (HBI.out.setCell (p := ⟨w1.heap.size, q, none⟩) z1 _).drew⟩
              · have hji : ¬ (j : Int) < (r : Int) := by omega
                have HGN := Lib.hid (show wr.heap[w1.heap.size]? = some (.cells (bcs (laid l ms (k + 1))).toArray 5 (0, 0)) by
                  rw [← HNX.out]
                  have h := HGI.out
                  rw [List.take_of_length_le (by rw [HRR.out]; omega)] at h
                  exact h)
                go_wp2_with fail
                go_roundw
                case rel => exact ⟨k + 1, by omega, by go_num, HGN.out, HBI.out⟩
                case measure => simp [intOf]; omega
          · have hki : ¬ (k : Int) < (n : Int) := by omega
            have hkn : k = n := by omega
            have HG2 := Lib.hid (show wr.heap[w1.heap.size]? = some (.cells (bcs (laid l ms l.length)).toArray 5 (0, 0)) by rw [HN.out, ← hkn]; exact HG.out)
            clear hkn
            go_wp2
            exact ret_tmp2 rfl rfl ⟨HB.out, .inr (.inr ⟨HLL.out, HFN.out, HE.out, w1.heap.size, rfl, z1, HG2.out⟩)⟩
end Go.Proofs.Ytjliaojanmbicaa.phys
