/- What Frame of the schedule and May of the reference compute; no condition. -/
import Derived.Test.YtpdjjombdahpmaaSchedWalkA
namespace Go.Proofs.Ytpdjjombdahpmaa
open Go Go.RowKit
theorem frame_any (l : List Win) (A : Option Addr) (c : Nat) (w : World) (h : Rd w A (winCells l)) (hm : l.length ≤ 9223372036854775807) :
    Calls Try.prog 12 #[.slice A l.length c] w fun e w' => e = .returned (.int .i64 (frameW l)) ∧ Below w.heap.size w w' := by
  have hmay := may_any l A c w h hm
  cases hM : mayW l with
  | false =>
    rw [hM] at hmay
    have Hm := Lib.hid hmay
    have H : Hid (frameW l = 0) := by unfold frameW; rw [hM]; rfl
    clear hmay hM
    go_enter Try.func12, Try.ntmps12
    go_wp2_with fail
    refine Hm.out.mono ?_
    rintro e w1 ⟨rfl, hb1⟩
    go_wp2
    go_ret
    exact ⟨by rw [H.out]; rfl, hb1⟩
  | true =>
    rw [hM] at hmay
    have Hm := Lib.hid hmay
    have H : Hid (frameW l = sumW l) := by unfold frameW; rw [hM]; rfl
    obtain ⟨y1, y2, y3, y4, y5⟩ := mayW_yes hM
    clear hmay hM
    obtain ⟨b, off, rfl, hlt⟩ := h.addr (by rw [winCells_length]; omega)
    go_enter Try.func12, Try.ntmps12
    go_wp2_with fail
    refine Hm.out.mono ?_
    rintro e w1 ⟨rfl, hb1⟩
    go_wp2
    go_loopw [3, 11] (fun s i wr => ∃ k : Nat, k ≤ l.length ∧ i = .int .i64 k ∧ s = .int .i64 (sumW (l.take k)) ∧ Below w.heap.size w wr) (fun _ i _ => l.length - (intOf i).toNat)
    case atStart => exact ⟨0, Nat.zero_le _, rfl, rfl, hb1⟩
    case round =>
      obtain ⟨k, hk, rfl, rfl, hb⟩ := hrel
      by_cases hkl : k < l.length
      · obtain ⟨⟨x, y⟩, hp⟩ : ∃ p, l[k]? = some p := ⟨l[k], List.getElem?_eq_getElem hkl⟩
        have hw := winCells_at l k _ hp
        have hc1 := (hb.cell (p := ⟨b, off + k * 2, none⟩) hlt).trans (h.cell hw.1)
        have hc2 := (hb.cell (p := ⟨b, off + (k * 2 + 1), none⟩) hlt).trans (h.cell hw.2)
        rw [← Nat.add_assoc] at hc2
        have hall : (l.take k).all okW = true := by rw [List.all_eq_true] at y3 ⊢; exact fun z hz => y3 z (List.mem_of_mem_take hz)
        have hbd := sumW_bd (l.take k) hall
        rw [List.length_take] at hbd
        have hok := all_at y3 hp
        obtain ⟨o1, o2, o3, o4⟩ := (okW_iff _).1 hok
        have Hs := Lib.hid (sumW_snoc hp)
        simp only at o1 o2 o3 o4 hc1 hc2
        clear hw hp hok hall y3
        go_wp2
        go_roundw
        case rel => exact ⟨k + 1, by omega, by go_num, by rw [Hs.out], hb.alloc hb.size _⟩
        case measure => simp [intOf]; omega
      · obtain rfl : k = l.length := by omega
        have y3' := Lib.hid y3
        clear y3
        go_wp2
        go_ret
        exact ⟨by rw [H.out]; simp, hb⟩
set_option maxHeartbeats 1000000 in
theorem refMay_any (l : List Win) (A : Option Addr) (c : Nat) (w : World) (h : Rd w A (winCells l)) (hm : l.length ≤ 9223372036854775807) :
    Calls Try.prog 11 #[.slice A l.length c] w fun e w' => e = .returned (.bool (mayW l)) ∧ w = w' := by
  go_enter Try.func11, Try.ntmps11
  go_wp2
  go_loop [3, 4] (fun s i => ∃ k : Nat, k ≤ l.length ∧ k ≤ 12 ∧ i = .int .i64 k ∧ s = .int .i64 (sumW (l.take k)) ∧ (l.take k).all okW = true) (fun _ i => l.length - (intOf i).toNat)
  case atStart => exact ⟨0, Nat.zero_le _, Nat.zero_le _, rfl, rfl, rfl⟩
  case round =>
    obtain ⟨k, hk, hk12, rfl, rfl, hall⟩ := hrel
    by_cases hkl : k < l.length
    · obtain ⟨b, off, rfl, hlt⟩ := h.addr (by rw [winCells_length]; omega)
      by_cases h12 : k < 12
      · obtain ⟨⟨x, y⟩, hp⟩ : ∃ p, l[k]? = some p := ⟨l[k], List.getElem?_eq_getElem hkl⟩
        have hw := winCells_at l k _ hp
        have hc1 := h.cell hw.1
        have hc2 := h.cell hw.2
        rw [← Nat.add_assoc] at hc2
        have hbd := sumW_bd (l.take k) hall
        rw [List.length_take] at hbd
        clear hw
        cases hok : okW (x, y) with
        | true =>
          have Hs := Lib.hid (sumW_snoc hp)
          have Ha := Lib.hid (all_snoc hp hall hok)
          obtain ⟨o1, o2, o3, o4⟩ := (okW_iff _).1 hok
          simp only at o1 o2 o3 o4 hc1 hc2
          clear hp hok hall
          go_wp2
          go_round
          case rel => exact ⟨k + 1, by omega, by omega, by go_num, by rw [Hs.out], Ha.out⟩
          case measure => simp [intOf]; omega
        | false =>
          have H := Lib.hid (mayW_bad hp hok)
          have hno : ¬ (1 ≤ x ∧ x ≤ 64 ∧ 0 ≤ y ∧ y ≤ 6) := by simpa [okW] using hok
          simp only at hc1 hc2
          clear hp hok hall
          go_wp2
          all_goals first
            | (exfalso; omega)
            | (go_ret; exact ⟨by rw [H.out]; rfl, rfl⟩)
      · have H := Lib.hid (mayW_many l (by omega))
        clear hall
        go_wp2
        go_ret
        exact ⟨by rw [H.out]; rfl, rfl⟩
    · obtain rfl : k = l.length := by omega
      rw [List.take_length] at hall
      have hbd := sumW_bd l hall
      by_cases h0 : l.length = 0
      · have hl : l = [] := List.eq_nil_of_length_eq_zero h0
        subst hl
        clear hall hbd
        go_wp2
        go_ret
        exact ⟨rfl, rfl⟩
      · have H := Lib.hid (mayW_of (l := l) (by omega) (by omega) hall)
        clear hall
        go_wp2
        go_ret
        exact ⟨by rw [H.out]; rfl, rfl⟩
end Go.Proofs.Ytpdjjombdahpmaa
