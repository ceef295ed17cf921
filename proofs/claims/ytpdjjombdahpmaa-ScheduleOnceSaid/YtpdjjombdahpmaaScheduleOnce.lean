/- For every input the law ScheduleOnce returns true, and the input reads as it did; no condition. -/
import Derived.Test.YtpdjjombdahpmaaSchedOpen
import Derived.Test.YtpdjjombdahpmaaSchedPlainB
namespace Go.Proofs.Ytpdjjombdahpmaa.scheduleOnce
open Go Go.RowKit Go.WideShapes Go.ChangeShapes Go.ChangeAt
set_option maxHeartbeats 4000000 in
theorem law (l : List Win) (A : Option Addr) (c : Nat) (w : World) (h : Rd w A (winCells l)) (hm : l.length ≤ 9223372036854775807) :
    Calls Try.prog 5 #[.slice A l.length c] w fun e w' => e = .returned (.bool true) ∧ Below w.heap.size w w' := by
  by_cases h40 : 40 < l.length
  · go_enter Try.func5, Try.ntmps5
    go_wp2_with fail
    refine (awake_any _).mono ?_
    rintro e w1 ⟨rfl, b1⟩
    go_wp2
    go_ret
    exact ⟨rfl, b1⟩
  have d40 : decide ((40 : Int) < (l.length : Int)) = false := by simp; omega
  have H1 := Lib.hid (fun (wr : World) (hb : Below w.heap.size w wr) => whole_any l A c wr (h.below hb) hm)
  have H2 := Lib.hid (fun (wr : World) (hb : Below w.heap.size w wr) => frame_any l A c wr (h.below hb) hm)
  have H3 := Lib.hid (fun (wr : World) (hb : Below w.heap.size w wr) => may_any l A c wr (h.below hb) hm)
  have H4 := Lib.hid (fun (p : Int) (wr : World) (hb : Below w.heap.size w wr) => ticks_any l p A c wr (h.below hb) hm)
  have H5 := Lib.hid (fun (t : Int) (wr : World) (hb : Below w.heap.size w wr) => at_any l t A c wr (h.below hb) hm)
  have hfb := frameW_bd l
  have hwl : (((wholeW l).length : Int) != frameW l) = false := by rw [wholeW_length]; simp
  have hwm : decide (0 < frameW l) = mayW l := frame_may l
  have h64 : decide ((64 : Int) < frameW l) = false := by simp; omega
  have hT := sumT_all l
  have Hat := Lib.hid (fun (t : Int) (h0 : 0 ≤ t) (hf : t < frameW l) => tick_at h0 hf)
  have Hst : Hid (∀ n : Nat, 0 ≤ sumT l n ∧ sumT l n ≤ 64 * n) := sumT_bd l
  have Htb : Hid (∀ p : Int, 0 ≤ ticksW l p ∧ ticksW l p ≤ 64) := ticksW_bd l
  have HsT := Lib.hid hT.1
  have HT1 := Lib.hid hT.2.1
  have HT2 := Lib.hid hT.2.2
  have Hss : Hid (∀ n : Nat, sumT l (n + 1) = sumT l n + ticksW l n) := fun _ => rfl
  have Hae : Hid (∀ t : Int, 0 ≤ t → t < frameW l → atE l t = 0) := fun t h1 h2 => by unfold atE; rw [if_pos ⟨h1, h2⟩]
  clear hT
  go_enter Try.func5, Try.ntmps5
  go_wp2_with fail
  refine (H1.out _ (Below.refl _ _)).mono ?_
  rintro e w1 ⟨A1, c1, rfl, R1, B1⟩
  go_wp2_with fail
  refine (H2.out _ B1).mono ?_
  rintro e w2 ⟨rfl, b2⟩
  have B2 := B1.trans (b2.mono B1.size)
  have R2 := R1.below b2
  clear B1 R1 b2
  go_wp2_with fail
  refine (H3.out _ B2).mono ?_
  rintro e w3 ⟨rfl, b3⟩
  have B3 := B2.trans (b3.mono B2.size)
  have R3 := R2.below b3
  clear B2 R2 b3
  go_wp2_with fail
  go_loopw [5, 6] (fun s p wr => ∃ k : Nat, k ≤ 7 ∧ p = .int .i64 k ∧ s = .int .i64 (sumT l k) ∧ Below w3.heap.size w3 wr) (fun _ p _ => 7 - (intOf p).toNat)
  case atStart => exact ⟨0, Nat.zero_le _, rfl, rfl, Below.refl _ _⟩
  case round =>
    obtain ⟨k, hk, rfl, rfl, hb⟩ := hrel
    have S3 := B3.size
    by_cases hk7 : k < 7
    · have g1 := Hst.out k
      have g2 := Htb.out k
      go_wp2_with fail
      refine (H4.out _ _ (B3.trans (hb.mono S3))).mono ?_
      rintro e w4 ⟨rfl, b4⟩
      go_wp2_with fail
      go_roundw
      case rel => exact ⟨k + 1, by omega, by go_num, by rw [Hss.out], hb.trans (b4.mono hb.size)⟩
      case measure => simp [intOf]; omega
    · obtain rfl : k = 7 := by omega
      have B5 := B3.trans (hb.mono S3)
      have R5 := R3.below hb
      rw [HsT.out, show ((7 : Nat) : Int) = 7 from rfl]
      clear hb R3 B3 S3
      obtain ⟨n, hn⟩ := Int.eq_ofNat_of_zero_le hfb.1
      have Hn := Lib.hid hn
      clear hn
      go_wp2_with fail
      obtain ⟨wo, rfl⟩ : ∃ wo : World, wo = wr := ⟨_, rfl⟩
      go_loopw [7] (fun i wr => ∃ k : Nat, (k : Int) ≤ frameW l ∧ i = .int .i64 k ∧ Below wo.heap.size wo wr) (fun i _ => n - (intOf i).toNat)
      case atStart => exact ⟨0, by simpa using hfb.1, rfl, Below.refl _ _⟩
      case round =>
        obtain ⟨k, hk, rfl, hb⟩ := hrel
        have S5 := B5.size
        have Sb := hb.size
        by_cases hkn : (k : Int) < frameW l
        · obtain ⟨kk, x, y, _, _, _, _, _, ha, hw⟩ := Hat.out k (by omega) hkn
          have hae := Hae.out k (by omega) hkn
          have hc := H5.out k _ (B5.trans (hb.mono S5))
          rw [ha, hae] at hc
          unfold slotV at hc
          simp only at hc
          have Hc := Lib.hid hc
          have hwlt := (List.getElem?_eq_some_iff.1 hw).1
          simp only [Int.toNat_natCast] at hw hwlt
          clear ha hae hc
          go_wp2_with fail
          refine Hc.out.mono ?_
          rintro e w6 ⟨rfl, b6⟩
          have S6 := b6.size
          have R6 := (R5.below hb).below b6
          obtain ⟨b7, o7, rfl, _⟩ := R6.addr (by rw [ints_length]; omega)
          have q := R6.cell (ints_at (k := .i64) hw)
          have hlt7 := R6.lt (by rw [ints_length]; omega)
          have hki : (k : Int) < ((wholeW l).length : Int) := by omega
          have Hw := Lib.hid hw
          clear hw R6
          go_wp2_with fail
          go_quiet (fail)
          go_wp2_with fail
          go_roundw
          case rel => exact ⟨k + 1, by omega, by go_num, below_drewN ((hb.trans (b6.mono Sb)).alloc (by omega) _) _⟩
          case measure => have := Hn.out; simp [intOf]; omega
        · have hkn2 : (k : Int) = frameW l := by omega
          have Hk := Lib.hid hkn2
          have B7 := B5.trans (hb.mono S5)
          have c1' := H4.out (-1) _ B7
          unfold TicksIs at c1'
          rw [HT1.out] at c1'
          have C1 := Lib.hid c1'
          clear c1' hkn2
          go_wp2_with fail
          refine C1.out.mono ?_
          rintro e w8 ⟨rfl, b8⟩
          have B8 := B7.trans (b8.mono B7.size)
          have c2' := H4.out 7 _ B8
          unfold TicksIs at c2'
          rw [HT2.out] at c2'
          have C2 := Lib.hid c2'
          clear c2'
          go_wp2_with fail
          refine C2.out.mono ?_
          rintro e w9 ⟨rfl, b9⟩
          have B9 := B8.trans (b9.mono B8.size)
          go_wp2_with fail
          refine (awake_any _).mono ?_
          rintro e w10 ⟨rfl, b10⟩
          go_wp2_with fail
          go_ret
          exact ⟨rfl, B9.trans (b10.mono B9.size)⟩
set_option maxRecDepth 100000 in
theorem lifted (os : Os) (started : os.Started) (H : Type) (enc : TypeId × Value → H) :
    ReturnsInHanded {} Try.checked os 5 .any (Rows.scheduleOnceSpec.pre6 enc Try.prog Try.f5 Rows.scheduleOnceRow.domain false) (Rows.scheduleOnceSpec.post enc Try.prog Try.f5 false true false false) := by
  refine returnsInHanded_of_change (C := Try.checked) own started (by kernel_rfl) Try.func5
    (ChangeSpec.witness6 (enc := enc) (C := Try.checked) false ⟨#[], #[.slice none 0 0], []⟩ 8 (by kernel_rfl) (by kernel_rfl) (by kernel_rfl) (by kernel_rfl)) ?_
  intro W base args ds gs before hval0 hW _ _
  have hval : ∀ (j : Nat) t v, Try.f5.params[j]? = some t → args[j]? = some v → Value.okWide Try.prog W .any base t v := hval0
  have hW' := hW
  obtain ⟨p, q, hA0, hV, rfl, _, _⟩ := hW
  have hA : DataW.TrodAll enc Try.prog W 0 (fun _ => true) true Try.f5.params.toList args.toList ds p := hA0
  rw [Try.params5] at hA hval
  obtain ⟨v0, vs0, d0, ds0, p0, q0, hargs, rfl, rfl, h0, r0⟩ := trodAll_cons hA
  obtain ⟨rfl, rfl, rfl⟩ := trodAll_nil r0
  obtain rfl : args = #[v0] := by cases args; simp_all
  obtain ⟨rfl, rfl⟩ := trodVars_none hV
  obtain ⟨l, A, c, rfl, hl, hm, hr⟩ := open_wins (okWide_slice Try.underlying22 (hval 0 22 v0 rfl rfl)) h0
  have hm' : l.length ≤ 9223372036854775807 := by unfold maxLen at hm; omega
  refine (law l A c W hr hm').mono fun e W' ⟨he, hb⟩ => ?_
  subst he
  exact ⟨_, rfl, law_post laidOut (by decide +kernel) rfl Try.underlying4 rfl rfl hW' hb⟩
theorem over : Rows.scheduleOnceRow.holds Try.pinned (OpenSpec.ofChange Rows.scheduleOnceSpec) :=
  OpenClaim.holds_of_wide 5 Try.f5 rfl rfl rfl rfl rfl rfl rfl ⟨rfl, rfl, rfl, rfl, rfl⟩ rfl rfl rfl rfl rfl (by kernel_rfl) Try.func5 (by kernel_rfl)
    (of_decide_eq_true (by kernel_rfl)) (by unfold Func.isWrapper; first | (rw [if_pos (by decide +kernel)]; kernel_rfl) | (rw [if_neg (by decide +kernel)]; exact ⟨rfl, rfl⟩))
    (fun os started H enc _ => lifted os started H enc)
theorem proved : Rows.ScheduleOnceSaid :=
  over
end Go.Proofs.Ytpdjjombdahpmaa.scheduleOnce
