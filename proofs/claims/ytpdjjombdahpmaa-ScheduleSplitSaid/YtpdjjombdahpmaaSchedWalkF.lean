/- What At of the reference computes; no condition. -/
import Derived.Test.YtpdjjombdahpmaaSchedWalkE
import Derived.Test.YtpdjjombdahpmaaLibB
namespace Go.Proofs.Ytpdjjombdahpmaa
open Go Go.RowKit
def refAtV (l : List Win) (t : Int) : Value := .tuple #[.int .i64 (atW l t).1, .int .i64 (atW l t).2.1, .int .i64 (atW l t).2.2.1, .int .i64 (atW l t).2.2.2, .int .i64 (atE l t)]
set_option maxHeartbeats 1000000 in
theorem refAt_any (l : List Win) (t : Int) (A : Option Addr) (c : Nat) (w : World) (h : Rd w A (winCells l)) (hm : l.length ≤ 9223372036854775807) :
    Calls Try.prog 9 #[.slice A l.length c, .int .i64 t] w fun e w' => e = .returned (refAtV l t) ∧ Below w.heap.size w w' := by
  have Hw := Lib.hid (refWhole_any l A c w h hm)
  have hfl := wholeW_length l
  by_cases h0 : t < 0
  · have H : Hid (refAtV l t = .tuple #[.int .i64 0, .int .i64 0, .int .i64 0, .int .i64 0, .int .i64 90]) := by unfold refAtV atW atE; rw [if_neg (by omega), if_neg (by omega)]; rfl
    clear hfl
    go_enter Try.func9, Try.ntmps9
    go_wp2
    refine bodyPost_ret (ret_tmp5 rfl _ _ _) rfl ⟨by rw [H.out]; rfl, Below.refl _ _⟩
  have d0 : decide (t < 0) = false := by simp; omega
  by_cases h1 : frameW l ≤ t
  · have H : Hid (refAtV l t = .tuple #[.int .i64 0, .int .i64 0, .int .i64 0, .int .i64 0, .int .i64 90]) := by unfold refAtV atW atE; rw [if_neg (by omega), if_neg (by omega)]; rfl
    have hge : ((wholeW l).length : Int) ≤ t := by omega
    clear hfl
    go_enter Try.func9, Try.ntmps9
    go_wp2_with fail
    refine Hw.out.mono ?_
    rintro e w1 ⟨A1, c1, rfl, hr, hb1⟩
    go_wp2
    refine bodyPost_ret (ret_tmp5 rfl _ _ _) rfl ⟨by rw [H.out]; rfl, hb1⟩
  · have hfpos : 0 < frameW l := by omega
    have hM : mayW l = true := by
      cases hM : mayW l with
      | true => rfl
      | false => unfold frameW at hfpos; rw [hM] at hfpos; simp at hfpos
    obtain ⟨y1, y2, y3, y4, y5⟩ := mayW_yes hM
    have hfs : frameW l = sumW l := by unfold frameW; rw [hM]; rfl
    have HM := Lib.hid hM
    have hlt2 : t < ((wholeW l).length : Int) := by omega
    have d2 : decide (((wholeW l).length : Int) ≤ t) = false := by simp; omega
    have H2 : Hid (atE l t = 0) := by unfold atE; rw [if_pos (by omega)]; rfl
    have hts : t < sumW l := by omega
    have htf : t < frameW l := by omega
    clear hM hfs hfl
    obtain ⟨b, off, rfl, hlt⟩ := h.addr (by rw [winCells_length]; omega)
    go_enter Try.func9, Try.ntmps9
    go_wp2_with fail
    refine Hw.out.mono ?_
    rintro e w1 ⟨A1, c1, rfl, hr, hb1⟩
    go_wp2
    go_loop [9, 10] (fun f i => ∃ k : Nat, k ≤ l.length ∧ i = .int .i64 k ∧ f = .int .i64 (sumW (l.take k)) ∧ sumW (l.take k) ≤ t) (fun _ i => l.length - (intOf i).toNat)
    case atStart => exact ⟨0, Nat.zero_le _, rfl, rfl, by simp [sumW]; omega⟩
    case round =>
      obtain ⟨k, hk, rfl, rfl, hle⟩ := hrel
      have hkl : k < l.length := by
        rcases Nat.lt_or_ge k l.length with hlt | hge
        · exact hlt
        · rw [List.take_of_length_le hge] at hle; omega
      obtain ⟨⟨x, y⟩, hp⟩ : ∃ p, l[k]? = some p := ⟨l[k], List.getElem?_eq_getElem hkl⟩
      have hw := winCells_at l k _ hp
      have hc1 := (hb1.cell (p := ⟨b, off + k * 2, none⟩) hlt).trans (h.cell hw.1)
      have hc2 := (hb1.cell (p := ⟨b, off + (k * 2 + 1), none⟩) hlt).trans (h.cell hw.2)
      rw [← Nat.add_assoc] at hc2
      obtain ⟨o1, o2, o3, o4⟩ := (okW_iff _).1 (all_at y3 hp)
      have hallk : (l.take k).all okW = true := by rw [List.all_eq_true] at y3 ⊢; exact fun z hz => y3 z (List.mem_of_mem_take hz)
      have hbd := sumW_bd (l.take k) hallk
      rw [List.length_take] at hbd
      have Hs := Lib.hid (sumW_snoc hp)
      have Hp := Lib.hid hp
      have hki : (k : Int) < (l.length : Int) := by omega
      simp only at o1 o2 o3 o4 hc1 hc2
      clear hw hallk hp
      by_cases hin : t < sumW (l.take k) + x
      · have Hres : Hid (atW l t = ((k : Int), y, sumW (l.take k), sumW (l.take k) + x - t)) := atW_at HM.out Hp.out hle hin (by omega) htf
        have hin2 : t - sumW (l.take k) < x := by omega
        have e1 : x - (t - sumW (l.take k)) = sumW (l.take k) + x - t := by omega
        have He1 := Lib.hid e1
        clear e1
        go_wp2
        go_quiet (fail)
        go_wp2
        refine bodyPost_ret (ret_tmp5 rfl _ _ _) rfl ⟨?_, below_drewN hb1 _⟩
        unfold refAtV
        rw [Hres.out, H2.out, ← He1.out]
        rfl
      · go_wp2
        go_round
        case rel => exact ⟨k + 1, by omega, by go_num, by rw [Hs.out], by rw [Hs.out]; omega⟩
        case measure => simp [intOf]; omega
end Go.Proofs.Ytpdjjombdahpmaa
