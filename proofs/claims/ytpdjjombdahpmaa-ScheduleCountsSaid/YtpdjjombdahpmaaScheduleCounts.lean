/- For every input the law ScheduleCounts returns true, and the input reads as it did; no condition. -/
import Derived.Test.YtpdjjombdahpmaaSchedOpen
namespace Go.Proofs.Ytpdjjombdahpmaa.scheduleCounts
open Go Go.RowKit Go.WideShapes Go.ChangeShapes Go.ChangeAt
set_option maxHeartbeats 2000000 in
theorem law (l : List Win) (p : Int) (A : Option Addr) (c : Nat) (w : World) (h : Rd w A (winCells l)) (hm : l.length ≤ 9223372036854775807) :
    Calls Try.prog 4 #[.slice A l.length c, .int .i64 p] w fun e w' => e = .returned (.bool true) ∧ Below w.heap.size w w' := by
  by_cases h40 : 40 < l.length
  · go_enter Try.func4, Try.ntmps4
    go_wp2
    go_ret
    exact ⟨rfl, Below.refl _ _⟩
  have d40 : decide ((40 : Int) < (l.length : Int)) = false := by simp; omega
  have H1 := Lib.hid (fun (wr : World) (hb : Below w.heap.size w wr) => whole_any l A c wr (h.below hb) hm)
  have H2 := Lib.hid (fun (wr : World) (hb : Below w.heap.size w wr) => refWhole_any l A c wr (h.below hb) hm)
  have H3 := Lib.hid (fun (wr : World) (hb : Below w.heap.size w wr) => ticks_any l p A c wr (h.below hb) hm)
  have H4 := Lib.hid (fun (wr : World) (hb : Below w.heap.size w wr) => refTicks_any l p A c wr (h.below hb) hm)
  have hL : ((wholeW l).length : Int) ≤ 64 := by rw [wholeW_length]; exact (frameW_bd l).2
  go_enter Try.func4, Try.ntmps4
  go_wp2_with fail
  refine (H1.out _ (Below.refl _ _)).mono ?_
  rintro e w1 ⟨A1, c1, rfl, r1, b1⟩
  go_wp2_with fail
  refine (H2.out _ b1).mono ?_
  rintro e w2 ⟨A2, c2, rfl, r2, b2⟩
  have R1 := r1.below b2
  have B2 := b1.trans (b2.mono b1.size)
  clear r1 b1 b2
  go_wp2_with fail
  refine (H3.out _ B2).mono ?_
  rintro e w3 ⟨rfl, b3⟩
  have B3 := B2.trans (b3.mono B2.size)
  have R1' := R1.below b3; have r2' := r2.below b3
  clear R1 r2 B2 b3
  go_wp2_with fail
  refine (H4.out _ B3).mono ?_
  rintro e w4 ⟨rfl, b4⟩
  have B4 := B3.trans (b4.mono B3.size)
  have R1 := R1'.below b4; have R2 := r2'.below b4
  clear R1' r2' B3 b4 H1 H2 H3 H4
  generalize wholeW l = W at *
  go_wp2_with fail
  go_loopw [7] (fun i wr => ∃ k : Nat, k ≤ W.length ∧ i = .int .i64 k ∧ Below w4.heap.size w4 wr) (fun i _ => W.length - (intOf i).toNat)
  case atStart => exact ⟨0, Nat.zero_le _, rfl, Below.refl _ _⟩
  case round =>
    obtain ⟨k, hk, rfl, hb⟩ := hrel
    by_cases hkl : k < W.length
    · obtain ⟨x, hp⟩ : ∃ x, W[k]? = some x := ⟨W[k], List.getElem?_eq_getElem hkl⟩
      obtain ⟨b1, o1, rfl, _⟩ := R1.addr (by rw [ints_length]; omega)
      obtain ⟨b2, o2, rfl, _⟩ := R2.addr (by rw [ints_length]; omega)
      have q1 := (R1.below hb).cell (ints_at (k := .i64) hp)
      have q2 := (R2.below hb).cell (ints_at (k := .i64) hp)
      have hki : (k : Int) < (W.length : Int) := by omega
      clear hp
      go_wp2_with fail
      go_quiet (fail)
      go_wp2_with fail
      go_roundw
      case rel => exact ⟨k + 1, by omega, by go_num, below_drewN hb _⟩
      case measure => simp [intOf]; omega
    · obtain rfl : k = W.length := by omega
      go_wp2_with fail
      refine (awake_any _).mono ?_
      rintro e w5 ⟨rfl, b5⟩
      go_wp2_with fail
      go_ret
      exact ⟨rfl, (B4.trans (hb.mono B4.size)).trans (b5.mono (Nat.le_trans B4.size hb.size))⟩
set_option maxRecDepth 100000 in
theorem lifted (os : Os) (started : os.Started) (H : Type) (enc : TypeId × Value → H) :
    ReturnsInHanded {} Try.checked os 4 .any (Rows.scheduleCountsSpec.pre6 enc Try.prog Try.f4 Rows.scheduleCountsRow.domain false) (Rows.scheduleCountsSpec.post enc Try.prog Try.f4 false true false false) := by
  refine returnsInHanded_of_change (C := Try.checked) own started (by kernel_rfl) Try.func4
    (ChangeSpec.witness6 (enc := enc) (C := Try.checked) false ⟨#[], #[.slice none 0 0, .int .i64 0], []⟩ 8 (by kernel_rfl) (by kernel_rfl) (by kernel_rfl) (by kernel_rfl)) ?_
  intro W base args ds gs before hval0 hW _ _
  have hval : ∀ (j : Nat) t v, Try.f4.params[j]? = some t → args[j]? = some v → Value.okWide Try.prog W .any base t v := hval0
  have hW' := hW
  obtain ⟨p, q, hA0, hV, rfl, _, _⟩ := hW
  have hA : DataW.TrodAll enc Try.prog W 0 (fun _ => true) true Try.f4.params.toList args.toList ds p := hA0
  rw [Try.params4] at hA hval
  obtain ⟨v0, vs0, d0, ds0, p0, q0, hargs, rfl, rfl, h0, r0⟩ := trodAll_cons hA
  obtain ⟨v1, vs1, d1, ds1, p1, q1, rfl, rfl, rfl, h1, r1⟩ := trodAll_cons r0
  obtain ⟨rfl, rfl, rfl⟩ := trodAll_nil r1
  obtain rfl : args = #[v0, v1] := by cases args; simp_all
  obtain ⟨rfl, rfl⟩ := trodVars_none hV
  obtain ⟨l, A, c, rfl, hl, hm, hr⟩ := open_wins (okWide_slice Try.underlying22 (hval 0 22 v0 rfl rfl)) h0
  obtain ⟨a1, rfl, rfl, rfl, _⟩ := open_int Try.underlying3 (hval 1 3 v1 rfl rfl) h1
  refine (law l a1 A c W hr (by unfold maxLen at hm; omega)).mono fun e W' ⟨he, hb⟩ => ?_
  subst he
  exact ⟨_, rfl, law_post laidOut (by decide +kernel) rfl Try.underlying4 rfl rfl hW' hb⟩
theorem over : Rows.scheduleCountsRow.holds Try.pinned (OpenSpec.ofChange Rows.scheduleCountsSpec) :=
  OpenClaim.holds_of_wide 4 Try.f4 rfl rfl rfl rfl rfl rfl rfl ⟨rfl, rfl, rfl, rfl, rfl⟩ rfl rfl rfl rfl rfl (by kernel_rfl) Try.func4 (by kernel_rfl)
    (of_decide_eq_true (by kernel_rfl)) (by unfold Func.isWrapper; first | (rw [if_pos (by decide +kernel)]; kernel_rfl) | (rw [if_neg (by decide +kernel)]; exact ⟨rfl, rfl⟩))
    (fun os started H enc _ => lifted os started H enc)
theorem proved : Rows.ScheduleCountsSaid :=
  over
end Go.Proofs.Ytpdjjombdahpmaa.scheduleCounts
