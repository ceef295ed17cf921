/- What At of the schedule computes; no condition. -/
import Derived.Test.YtpdjjombdahpmaaSchedWalkD
namespace Go.Proofs.Ytpdjjombdahpmaa
open Go Go.RowKit
def slotV (r : Int × Int × Int × Int) : Value := .agg #[.int .i64 r.1, .int .i64 r.2.1, .int .i64 r.2.2.1, .int .i64 r.2.2.2]
set_option maxHeartbeats 1000000 in
theorem at_any (l : List Win) (t : Int) (A : Option Addr) (c : Nat) (w : World) (h : Rd w A (winCells l)) (hm : l.length ≤ 9223372036854775807) :
    Calls Try.prog 8 #[.slice A l.length c, .int .i64 t] w fun e w' => e = .returned (.tuple #[slotV (atW l t), .int .i64 (atE l t)]) ∧ Below w.heap.size w w' := by
  have hfr : ∀ wr : World, Below w.heap.size w wr → Calls Try.prog 12 #[.slice A l.length c] wr fun e w' => e = .returned (.int .i64 (frameW l)) ∧ Below wr.heap.size wr w' := fun wr hb => frame_any l A c wr (h.below hb) hm
  have Hf := Lib.hid hfr
  clear hfr
  by_cases h0 : t < 0
  · have H : Hid (atW l t = (0, 0, 0, 0)) := by unfold atW; rw [if_neg (by omega)]; rfl
    have H2 : Hid (atE l t = 90) := by unfold atE; rw [if_neg (by omega)]; rfl
    go_enter Try.func8, Try.ntmps8
    go_wp2; go_step3; go_wp2
    rw [Exit.noGoto_ret]
    exact ret_row_tmp rfl w.heap.size _ _ _ rfl (blk_new w _ _) Try.underlying24 rfl (by kernel_rfl) rfl ⟨by rw [H.out, H2.out]; rfl, (Below.refl _ _).alloc (Nat.le_refl _) _⟩
  have d0 : decide (t < 0) = false := by simp; omega
  by_cases h1 : frameW l ≤ t
  · have H : Hid (atW l t = (0, 0, 0, 0)) := by unfold atW; rw [if_neg (by omega)]; rfl
    have H2 : Hid (atE l t = 90) := by unfold atE; rw [if_neg (by omega)]; rfl
    go_enter Try.func8, Try.ntmps8
    go_wp2_with fail
    go_step3
    go_wp2_with fail
    refine (Hf.out _ ((Below.refl _ _).alloc (Nat.le_refl _) _)).mono ?_
    rintro e w1 ⟨rfl, hb1⟩
    have hz := hb1.size
    simp only [World.size_alloc] at hz
    have hblk := blk_below (blk_new w _ _) hb1 (by simp)
    have c0 := blk_cell hblk 0; have c1 := blk_cell hblk 1; have c2 := blk_cell hblk 2; have c3 := blk_cell hblk 3
    have f0 := blk_frozen hblk 0; have f1 := blk_frozen hblk 1; have f2 := blk_frozen hblk 2; have f3 := blk_frozen hblk 3
    simp only [List.getElem?_toArray] at c0 c1 c2 c3
    have hbb : Below w.heap.size w w1 := ((Below.refl _ _).alloc (Nat.le_refl _) _).trans (hb1.mono (by simp))
    have Hb := Lib.hid hblk
    clear hblk hb1
    go_wp2
    rw [Exit.noGoto_ret]
    refine ret_row_tmp rfl w.heap.size _ _ _ rfl (blk_set (blk_set (blk_set (blk_set Hb.out _ _) _ _) _ _) _ _) Try.underlying24 rfl (by kernel_rfl) rfl ⟨by rw [H.out, H2.out]; rfl, ?_⟩
    iterate 4 refine Below.setCell ?_ (by simp) _
    exact hbb
  · obtain ⟨i0, hi, hz0, hz1, hz2⟩ := info_parts info_int
    have hfpos : 0 < frameW l := by omega
    have hM : mayW l = true := by
      cases hM : mayW l with
      | true => rfl
      | false => unfold frameW at hfpos; rw [hM] at hfpos; simp at hfpos
    obtain ⟨y1, y2, y3, y4, y5⟩ := mayW_yes hM
    have hfs : frameW l = sumW l := by unfold frameW; rw [hM]; rfl
    have HM := Lib.hid hM
    have Hfs := Lib.hid hfs
    have H2 : Hid (atE l t = 0) := by unfold atE; rw [if_pos (by omega)]; rfl
    have hts : t < sumW l := by omega
    have d1 : decide (frameW l ≤ t) = false := by simp; omega
    clear hM hfs
    obtain ⟨b, off, rfl, hlt⟩ := h.addr (by rw [winCells_length]; omega)
    go_enter Try.func8, Try.ntmps8
    go_wp2_with fail
    go_step3
    go_wp2_with fail
    refine (Hf.out _ ((Below.refl _ _).alloc (Nat.le_refl _) _)).mono ?_
    rintro e w1 ⟨rfl, hb1⟩
    have hz := hb1.size
    simp only [World.size_alloc] at hz
    have hblk := Lib.hid (blk_below (blk_new w _ _) hb1 (by simp))
    have hbb : Below w.heap.size w w1 := ((Below.refl _ _).alloc (Nat.le_refl _) _).trans (hb1.mono (by simp))
    clear hb1
    go_wp2
    go_step3
    go_wp2
    go_loopw [20] (fun i wr => ∃ (k : Nat) (p q : Int), k ≤ l.length ∧ i = .int .i64 k ∧ sumW (l.take k) ≤ t ∧ wr.heap[w1.heap.size]? = some (.cells #[.int .i64 p, .int .i64 q, .int .i64 (sumW (l.take k)), .int .i64 0] 24 (0, 0)) ∧
        wr.heap[w.heap.size]? = some (.cells #[.int .i64 0, .int .i64 0, .int .i64 0, .int .i64 0] 24 (0, 0)) ∧ Below w.heap.size w wr) (fun i _ => l.length - (intOf i).toNat)
    case atStart => exact ⟨0, 0, 0, Nat.zero_le _, rfl, by simpa [sumW] using h0, blk_new _ _ _, blk_alloc hblk.out _, hbb.alloc (by omega) _⟩
    case round =>
      obtain ⟨k, p, q, hk, rfl, hle, hS, hR, hb⟩ := hrel
      have hkl : k < l.length := by
        rcases Nat.lt_or_ge k l.length with hlt | hge
        · exact hlt
        · rw [List.take_of_length_le hge] at hle; omega
      obtain ⟨⟨x, y⟩, hp⟩ : ∃ p, l[k]? = some p := ⟨l[k], List.getElem?_eq_getElem hkl⟩
      have hw := winCells_at l k _ hp
      have hc1 := (hb.cell (p := ⟨b, off + k * 2, none⟩) hlt).trans (h.cell hw.1)
      have hc2 := (hb.cell (p := ⟨b, off + (k * 2 + 1), none⟩) hlt).trans (h.cell hw.2)
      rw [← Nat.add_assoc] at hc2
      obtain ⟨o1, o2, o3, o4⟩ := (okW_iff _).1 (all_at y3 hp)
      have hallk : (l.take k).all okW = true := by rw [List.all_eq_true] at y3 ⊢; exact fun z hz => y3 z (List.mem_of_mem_take hz)
      have hbd := sumW_bd (l.take k) hallk
      rw [List.length_take] at hbd
      have Hs := Lib.hid (sumW_snoc hp)
      have s0 := blk_cell hS 0; have s1 := blk_cell hS 1; have s2 := blk_cell hS 2; have s3 := blk_cell hS 3
      have f0 := blk_frozen hS 0; have f1 := blk_frozen hS 1; have f2 := blk_frozen hS 2; have f3 := blk_frozen hS 3
      have r0 := blk_cell hR 0; have r1 := blk_cell hR 1; have r2 := blk_cell hR 2; have r3 := blk_cell hR 3
      have g0 := blk_frozen hR 0; have g1 := blk_frozen hR 1; have g2 := blk_frozen hR 2; have g3 := blk_frozen hR 3
      simp only [List.getElem?_toArray] at s0 s1 s2 s3 r0 r1 r2 r3
      have hSlt := blk_lt hS
      have hRlt := blk_lt hR
      have HS := Lib.hid hS; have HR := Lib.hid hR; have Hp := Lib.hid hp
      simp only at o1 o2 o3 o4 hc1 hc2
      clear hw hallk hS hR hp
      by_cases hin : t < sumW (l.take k) + x
      · have Hres : Hid (atW l t = ((k : Int), y, sumW (l.take k), sumW (l.take k) + x - t)) := atW_at HM.out Hp.out hle hin (by omega) (by omega)
        have hne : w.heap.size ≠ w1.heap.size := by omega
        have key : ∀ (v1 v2 v3 u0 u1 u2 u3 : Value) (o : Obj), ((((((((wr.setCell ⟨w1.heap.size, 0, none⟩ v1).setCell ⟨w1.heap.size, 1, none⟩ v2).setCell ⟨w1.heap.size, 3, none⟩ v3).setCell ⟨w.heap.size, 0, none⟩ u0).setCell ⟨w.heap.size, 1, none⟩ u1).setCell ⟨w.heap.size, 2, none⟩ u2).setCell ⟨w.heap.size, 3, none⟩ u3).alloc o).drew.heap[w.heap.size]? = some (.cells #[u0, u1, u2, u3] 24 (0, 0)) ∧
            Below w.heap.size w ((((((((wr.setCell ⟨w1.heap.size, 0, none⟩ v1).setCell ⟨w1.heap.size, 1, none⟩ v2).setCell ⟨w1.heap.size, 3, none⟩ v3).setCell ⟨w.heap.size, 0, none⟩ u0).setCell ⟨w.heap.size, 1, none⟩ u1).setCell ⟨w.heap.size, 2, none⟩ u2).setCell ⟨w.heap.size, 3, none⟩ u3).alloc o).drew := by
          intro v1 v2 v3 u0 u1 u2 u3 o
          refine ⟨blk_drew (blk_alloc (blk_eq (blk_set (blk_set (blk_set (blk_set (blk_far (p := ⟨w1.heap.size, 3, none⟩) (blk_far (p := ⟨w1.heap.size, 1, none⟩) (blk_far (p := ⟨w1.heap.size, 0, none⟩) HR.out hne v1) hne v2) hne v3) 0 u0) 1 u1) 2 u2) 3 u3) (by simp)) o), ?_⟩
          refine Below.drew (Below.alloc ?_ (by simp; omega) _)
          iterate 7 refine Below.setCell ?_ (by simp; try omega) _
          exact hb
        have Key := Lib.hid key
        clear key Hs
        go_wp2
        go_region
        go_wp2
        rw [Exit.noGoto_ret]
        exact ret_row_tmp rfl w.heap.size _ _ _ rfl (Key.out _ _ _ _ _ _ _ _).1 Try.underlying24 rfl (by kernel_rfl) rfl ⟨by rw [Hres.out, H2.out]; rfl, (Key.out _ _ _ _ _ _ _ _).2⟩
      · go_wp2
        go_region
        go_wp2
        have hne : w.heap.size ≠ w1.heap.size := by omega
        go_roundw
        case rel =>
          refine ⟨k + 1, k, y, by omega, by go_num, by rw [Hs.out]; omega, ?_, ?_, ?_⟩
          · rw [Hs.out]; exact blk_drew (blk_alloc (blk_eq (blk_set (blk_set (blk_set HS.out _ _) _ _) _ _) (by simp)) _)
          · exact blk_drew (blk_alloc (blk_far (p := ⟨w1.heap.size, 2, none⟩) (blk_far (p := ⟨w1.heap.size, 1, none⟩) (blk_far (p := ⟨w1.heap.size, 0, none⟩) HR.out hne _) hne _) hne _) _)
          · refine Below.drew (Below.alloc ?_ (by simp; omega) _)
            iterate 3 refine Below.setCell ?_ (by simp; try omega) _
            exact hb
        case measure => simp [intOf]; omega
end Go.Proofs.Ytpdjjombdahpmaa
