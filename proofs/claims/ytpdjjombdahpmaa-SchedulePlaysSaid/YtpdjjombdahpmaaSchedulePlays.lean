/- For every input the law SchedulePlays returns true, and the input reads as it did; no condition. -/
import Derived.Test.YtpdjjombdahpmaaSchedOpen
namespace Go.Proofs.Ytpdjjombdahpmaa.schedulePlays
open Go Go.RowKit Go.WideShapes Go.ChangeShapes Go.ChangeAt
theorem info_win : (Try.prog.info? 35).map (fun i => (i.zero, i.size, i.bytes)) = some (some (.agg #[.int .i64 0, .int .i64 0]), 2, 16) := by kernel_rfl
set_option maxHeartbeats 4000000 in
theorem law (l : List Win) (t : Int) (A : Option Addr) (c : Nat) (w : World) (h : Rd w A (winCells l)) (hm : l.length ≤ 9223372036854775807) :
    Calls Try.prog 3 #[.slice A l.length c, .int .i64 t] w fun e w' => e = .returned (.bool true) ∧ Below w.heap.size w w' := by
  by_cases h40 : 40 < l.length
  · go_enter Try.func3, Try.ntmps3
    go_wp2
    go_ret
    exact ⟨rfl, Below.refl _ _⟩
  have d40 : decide ((40 : Int) < (l.length : Int)) = false := by simp; omega
  have H2 := Lib.hid (fun (wr : World) (hb : Below w.heap.size w wr) => refAt_any l t A c wr (h.below hb) hm)
  have H4 := Lib.hid (fun (wr : World) (hb : Below w.heap.size w wr) => refMay_any l A c wr (h.below hb) hm)
  have H6 := Lib.hid (fun (wr : World) (hb : Below w.heap.size w wr) => refWhole_any l A c wr (h.below hb) hm)
  have hfw : (frameW l != ((wholeW l).length : Int)) = false := by rw [wholeW_length]; simp
  obtain ⟨i0, hi, hz0, hz1, hz2⟩ := info_parts info_win
  have ho0 : (w.alloc (.cells #[] 35)).ownsRow w.heap.size 35 2 (.slice (some ⟨w.heap.size, 0, none⟩) 0 0) 0 [] := World.ownsRow_made w #[] 0 (Nat.le_refl _) (by decide) (by simp)
  go_enter Try.func3, Try.ntmps3
  go_wp2_with (at_builtin; refine wpList_append_rd _ rfl (.tmp 17) (.tmp 18) 22 rfl w.heap.size 35 i0 (.agg #[.int .i64 0, .int .i64 0]) 2 16 Try.underlying22 hi hz0 hz1 hz2 rfl (by decide) (.slice (some ⟨w.heap.size, 0, none⟩) 0 0) 0 [] rfl ho0 A l.length c (winCells l) rfl (winCells_length l) (h.alloc _) (winCells_one l) ?c3 ?c4 ?c5 ?_)
  case c3 => unfold maxLen; omega
  case c4 => omega
  case c5 => simp
  intro v' w1 hown hg
  have b1 : Below w.heap.size w w1 := below_own ((Below.refl _ _).alloc (Nat.le_refl _) _) ho0 hg (by simp)
  obtain ⟨A', c', rfl, hc', R1⟩ := own_form hown
  have H1 := Lib.hid (fun (wr : World) (hb : Below w1.heap.size w1 wr) => at_any l t A' c' wr (R1.below hb) hm)
  have H3 := Lib.hid (fun (wr : World) (hb : Below w1.heap.size w1 wr) => may_any l A' c' wr (R1.below hb) hm)
  have H5 := Lib.hid (fun (wr : World) (hb : Below w1.heap.size w1 wr) => frame_any l A' c' wr (R1.below hb) hm)
  clear hown hg
  go_wp2_with fail
  refine (H1.out _ (Below.refl _ _)).mono ?_
  rintro e w2 ⟨rfl, b2⟩
  have S2 := b2.size
  unfold slotV
  go_wp2_with fail
  have b2' : Below w1.heap.size w1 (w2.alloc (.cells #[.int .i64 (atW l t).1, .int .i64 (atW l t).2.1, .int .i64 (atW l t).2.2.1, .int .i64 (atW l t).2.2.2] 24)) := b2.alloc S2 _
  refine (H2.out _ (b1.trans (b2'.mono b1.size))).mono ?_
  rintro e w3 ⟨rfl, b3⟩
  have K3 := Lib.hid (blk_step (blk_new _ _ _) b3)
  have B3 := b2'.trans (b3.mono (by simp; omega))
  have S3 := B3.size
  clear b2 b2' b3
  unfold refAtV
  go_wp2_with fail
  refine (H3.out _ B3).mono ?_
  rintro e w4 ⟨rfl, b4⟩
  have K4 := Lib.hid (blk_step K3.out b4)
  have B4 := B3.trans (b4.mono S3)
  have S4 := B4.size
  clear b4 K3
  go_wp2_with fail
  refine (H4.out _ (b1.trans (B4.mono b1.size))).mono ?_
  rintro e w5 ⟨rfl, rfl⟩
  go_wp2_with fail
  refine (H5.out _ B4).mono ?_
  rintro e w6 ⟨rfl, b6⟩
  have K6 := Lib.hid (blk_step K4.out b6)
  have B6 := B4.trans (b6.mono S4)
  have S6 := B6.size
  clear b6 K4
  go_wp2_with fail
  refine (H6.out _ (b1.trans (B6.mono b1.size))).mono ?_
  rintro e w7 ⟨A7, c7, rfl, _, b7⟩
  have K7 := Lib.hid (blk_step K6.out b7)
  have B7 := B6.trans (b7.mono S6)
  have S7 := B7.size
  clear b7 K6 H1 H2 H3 H4 H5 H6
  generalize atW l t = r at *
  obtain ⟨ra, rb, rc, rd⟩ := r
  generalize atE l t = re at *
  go_wp2_with fail
  go_loopw [13] (fun i wr => ∃ k : Nat, k ≤ l.length ∧ i = .int .i64 k ∧ Below w7.heap.size w7 wr) (fun i _ => l.length - (intOf i).toNat)
  case atStart => exact ⟨0, Nat.zero_le _, rfl, Below.refl _ _⟩
  case round =>
    obtain ⟨k, hk, rfl, hb⟩ := hrel
    have hb1 : Below w1.heap.size w1 wr := B7.trans (hb.mono S7)
    by_cases hkl : k < l.length
    · obtain ⟨⟨x, y⟩, hp⟩ : ∃ x, l[k]? = some x := ⟨l[k], List.getElem?_eq_getElem hkl⟩
      obtain ⟨b1', o1, rfl, _⟩ := R1.addr (by rw [winCells_length]; omega)
      obtain ⟨b2', o2, rfl, _⟩ := h.addr (by rw [winCells_length]; omega)
      have hw := winCells_at l k _ hp
      have q1 := (R1.below hb1).cell hw.1
      have q2 := (R1.below hb1).cell hw.2
      have q3 := (h.below (b1.trans (hb1.mono b1.size))).cell hw.1
      have q4 := (h.below (b1.trans (hb1.mono b1.size))).cell hw.2
      rw [← Nat.add_assoc] at q2 q4
      have hki : (k : Int) < (l.length : Int) := by omega
      simp only at q1 q2 q3 q4
      clear hp hw hb1
      go_wp2_with fail
      go_quiet (fail)
      go_wp2_with fail
      go_roundw
      case rel => exact ⟨k + 1, by omega, by go_num, below_drewN hb _⟩
      case measure => simp [intOf]; omega
    · obtain rfl : k = l.length := by omega
      have K8 := blk_step K7.out hb
      have c0 := blk_cell K8 0; have c1 := blk_cell K8 1; have c2 := blk_cell K8 2; have c3 := blk_cell K8 3
      simp only [List.getElem?_toArray] at c0 c1 c2 c3
      have Hb1 := Lib.hid hb1
      clear K8 hb1
      go_wp2_with fail
      refine (awake_any _).mono ?_
      rintro e w9 ⟨rfl, b9⟩
      go_wp2_with fail
      go_ret
      exact ⟨rfl, (b1.trans (Hb1.out.mono b1.size)).trans (b9.mono (Nat.le_trans b1.size Hb1.out.size))⟩
set_option maxRecDepth 100000 in
theorem lifted (os : Os) (started : os.Started) (H : Type) (enc : TypeId × Value → H) :
    ReturnsInHanded {} Try.checked os 3 .any (Rows.schedulePlaysSpec.pre6 enc Try.prog Try.f3 Rows.schedulePlaysRow.domain false) (Rows.schedulePlaysSpec.post enc Try.prog Try.f3 false true false false) := by
  refine returnsInHanded_of_change (C := Try.checked) own started (by kernel_rfl) Try.func3
    (ChangeSpec.witness6 (enc := enc) (C := Try.checked) false ⟨#[], #[.slice none 0 0, .int .i64 0], []⟩ 8 (by kernel_rfl) (by kernel_rfl) (by kernel_rfl) (by kernel_rfl)) ?_
  intro W base args ds gs before hval0 hW _ _
  have hval : ∀ (j : Nat) t v, Try.f3.params[j]? = some t → args[j]? = some v → Value.okWide Try.prog W .any base t v := hval0
  have hW' := hW
  obtain ⟨p, q, hA0, hV, rfl, _, _⟩ := hW
  have hA : DataW.TrodAll enc Try.prog W 0 (fun _ => true) true Try.f3.params.toList args.toList ds p := hA0
  rw [Try.params3] at hA hval
  obtain ⟨v0, vs0, d0, ds0, p0, q0, hargs, rfl, rfl, h0, r0⟩ := trodAll_cons hA
  obtain ⟨v1, vs1, d1, ds1, p1, q1, rfl, rfl, rfl, h1, r1⟩ := trodAll_cons r0
  obtain ⟨rfl, rfl, rfl⟩ := trodAll_nil r1
  obtain rfl : args = #[v0, v1] := by cases args; simp_all
  obtain ⟨rfl, rfl⟩ := trodVars_none hV
  obtain ⟨l, A, c, rfl, hl, hm, hr⟩ := open_wins (okWide_slice Try.underlying22 (hval 0 22 v0 rfl rfl)) h0
  have hm' : l.length ≤ 9223372036854775807 := by unfold maxLen at hm; omega
  obtain ⟨a1, rfl, rfl, rfl, _⟩ := open_int Try.underlying3 (hval 1 3 v1 rfl rfl) h1
  refine (law l a1 A c W hr hm').mono fun e W' ⟨he, hb⟩ => ?_
  subst he
  exact ⟨_, rfl, law_post laidOut (by decide +kernel) rfl Try.underlying4 rfl rfl hW' hb⟩
theorem over : Rows.schedulePlaysRow.holds Try.pinned (OpenSpec.ofChange Rows.schedulePlaysSpec) :=
  OpenClaim.holds_of_wide 3 Try.f3 rfl rfl rfl rfl rfl rfl rfl ⟨rfl, rfl, rfl, rfl, rfl⟩ rfl rfl rfl rfl rfl (by kernel_rfl) Try.func3 (by kernel_rfl)
    (of_decide_eq_true (by kernel_rfl)) (by unfold Func.isWrapper; first | (rw [if_pos (by decide +kernel)]; kernel_rfl) | (rw [if_neg (by decide +kernel)]; exact ⟨rfl, rfl⟩))
    (fun os started H enc _ => lifted os started H enc)
theorem proved : Rows.SchedulePlaysSaid :=
  over
end Go.Proofs.Ytpdjjombdahpmaa.schedulePlays
