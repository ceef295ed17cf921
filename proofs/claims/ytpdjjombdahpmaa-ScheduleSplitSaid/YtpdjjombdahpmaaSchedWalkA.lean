/- What the functions May and Frame of the schedule compute, for every list of windows that lies in memory; no condition. -/
import Derived.Test.YtpdjjombdahpmaaRows
import Derived.Test.YtpdjjombdahpmaaSchedPlain
namespace Go.Proofs.Ytpdjjombdahpmaa
open Go Go.RowKit
theorem may_any (l : List Win) (A : Option Addr) (c : Nat) (w : World) (h : Rd w A (winCells l)) (hm : l.length ≤ 9223372036854775807) :
    Calls Try.prog 10 #[.slice A l.length c] w fun e w' => e = .returned (.bool (mayW l)) ∧ Below w.heap.size w w' := by
  by_cases h1 : l.length < 1
  · have H := Lib.hid (mayW_none l h1)
    go_enter Try.func10, Try.ntmps10
    go_wp2
    go_ret
    exact ⟨by rw [H.out]; rfl, Below.refl _ _⟩
  by_cases h2 : 12 < l.length
  · have H := Lib.hid (mayW_many l h2)
    go_enter Try.func10, Try.ntmps10
    go_wp2
    go_ret
    exact ⟨by rw [H.out]; rfl, Below.refl _ _⟩
  obtain ⟨b, off, rfl, hlt⟩ := h.addr (by rw [winCells_length]; omega)
  have d1 : decide ((l.length : Int) < 1) = false := by simp; omega
  have d2 : decide (12 < (l.length : Int)) = false := by simp; omega
  go_enter Try.func10, Try.ntmps10
  go_wp2
  go_loopw [3, 16] (fun s i wr => ∃ k : Nat, k ≤ l.length ∧ i = .int .i64 k ∧ s = .int .i64 (sumW (l.take k)) ∧ (l.take k).all okW = true ∧ Below w.heap.size w wr) (fun _ i _ => l.length - (intOf i).toNat)
  case atStart => exact ⟨0, Nat.zero_le _, rfl, rfl, rfl, Below.refl _ _⟩
  case round =>
    obtain ⟨k, hk, rfl, rfl, hall, hb⟩ := hrel
    by_cases hkl : k < l.length
    · obtain ⟨⟨x, y⟩, hp⟩ : ∃ p, l[k]? = some p := ⟨l[k], List.getElem?_eq_getElem hkl⟩
      have hw := winCells_at l k _ hp
      have hc1 := (hb.cell (p := ⟨b, off + k * 2, none⟩) hlt).trans (h.cell hw.1)
      have hc2 := (hb.cell (p := ⟨b, off + (k * 2 + 1), none⟩) hlt).trans (h.cell hw.2)
      rw [← Nat.add_assoc] at hc2
      have hbd := sumW_bd (l.take k) hall
      rw [List.length_take] at hbd
      clear hw
      cases hok : okW (x, y) with
      | true =>
        have Hs := Lib.hid (sumW_snoc hp)
        have Ha := Lib.hid (all_snoc hp hall hok)
        obtain ⟨o1, o2, o3, o4⟩ := (okW_iff _).1 hok
        simp only at o1 o2 o3 o4 hc1 hc2
        clear hp hok hall
        go_wp2
        go_roundw
        case rel => exact ⟨k + 1, by omega, by go_num, by rw [Hs.out], Ha.out, hb.alloc hb.size _⟩
        case measure => simp [intOf]; omega
      | false =>
        have H := Lib.hid (mayW_bad hp hok)
        have hno : ¬ (1 ≤ x ∧ x ≤ 64 ∧ 0 ≤ y ∧ y ≤ 6) := by simpa [okW] using hok
        simp only at hc1 hc2
        clear hp hok hall
        have Hb := Lib.hid hb
        have hlts := hb.size
        clear hb
        go_wp2
        all_goals first
          | (exfalso; omega)
          | (go_ret; exact ⟨by rw [H.out]; rfl, Hb.out.alloc Hb.out.size _⟩)
    · obtain rfl : k = l.length := by omega
      rw [List.take_length] at hall
      have H := Lib.hid (mayW_of (l := l) (by omega) (by omega) hall)
      clear hall
      go_wp2
      go_ret
      exact ⟨by rw [H.out]; rfl, hb⟩
end Go.Proofs.Ytpdjjombdahpmaa
