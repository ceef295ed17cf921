/- For every input the law ScheduleNext returns true, and the input reads as it did; no condition. -/
import Derived.Test.YtpdjjombdahpmaaSchedOpen
import Derived.Test.YtpdjjombdahpmaaSchedPlainB
namespace Go.Proofs.Ytpdjjombdahpmaa.scheduleNext
open Go Go.RowKit Go.WideShapes Go.ChangeShapes Go.ChangeAt
theorem blk_drewN {w : World} {g : Nat} {o : Obj} (hg : w.heap[g]? = some o) (n : Nat) : (w.drewN n).heap[g]? = some o := hg
def cells4 (r : Int × Int × Int × Int) : Array Value := #[.int .i64 r.1, .int .i64 r.2.1, .int .i64 r.2.2.1, .int .i64 r.2.2.2]
set_option maxHeartbeats 8000000 in
set_option maxRecDepth 100000 in
theorem law (l : List Win) (A : Option Addr) (c : Nat) (w : World) (h : Rd w A (winCells l)) (hm : l.length ≤ 9223372036854775807) :
    Calls Try.prog 6 #[.slice A l.length c] w fun e w' => e = .returned (.bool true) ∧ Below w.heap.size w w' := by
  by_cases h40 : 40 < l.length
  · have d40 : decide ((40 : Int) < (l.length : Int)) = true := by simp; omega
    go_enter Try.func6, Try.ntmps6
    go_wp2_with fail
    refine (awake_any _).mono ?_
    rintro e w1 ⟨rfl, b1⟩
    go_wp2
    go_ret
    exact ⟨rfl, b1⟩
  have d40 : decide ((40 : Int) < (l.length : Int)) = false := by simp; omega
  have H3 := fun (wr : World) (hb : Below w.heap.size w wr) => may_any l A c wr (h.below hb) hm
  cases hM : mayW l with
  | false =>
    rw [hM] at H3
    have H3' := Lib.hid H3
    clear H3 hM
    go_enter Try.func6, Try.ntmps6
    go_wp2_with fail
    refine (H3'.out _ (Below.refl _ _)).mono ?_
    rintro e w1 ⟨rfl, b1⟩
    go_wp2_with fail
    refine (awake_any _).mono ?_
    rintro e w2 ⟨rfl, b2⟩
    go_wp2
    go_ret
    exact ⟨rfl, b1.trans (b2.mono b1.size)⟩
  | true =>
    rw [hM] at H3
    have H3' := Lib.hid H3
    have HM := Lib.hid hM
    obtain ⟨y1, y2, y3, y4, y5⟩ := mayW_yes hM
    obtain ⟨b, off, rfl, hlt⟩ := h.addr (by rw [winCells_length]; omega)
    have H2 := Lib.hid (fun (wr : World) (hb : Below w.heap.size w wr) => frame_any l (some ⟨b, off, none⟩) c wr (h.below hb) hm)
    have H5 := Lib.hid (fun (t : Int) (wr : World) (hb : Below w.heap.size w wr) => at_any l t (some ⟨b, off, none⟩) c wr (h.below hb) hm)
    have hfb := frameW_bd l
    have Hnx := Lib.hid (fun (i : Nat) (hf : (i : Int) < frameW l) => next_at (l := l) (i := i) hf)
    have Hpe := Lib.hid (prev_end hM)
    have Hps : Hid (∀ i : Nat, prevW l (i + 1) = atW l i) := prevW_step l
    have Hae : Hid (∀ t : Int, 0 ≤ t → t < frameW l → atE l t = 0) := fun t h1 h2 => by unfold atE; rw [if_pos ⟨h1, h2⟩]
    obtain ⟨n, hn⟩ := Int.eq_ofNat_of_zero_le hfb.1
    have Hn := Lib.hid hn
    clear H3 hM hn y3
    go_enter Try.func6, Try.ntmps6
    go_wp2_with fail
    refine (H3'.out _ (Below.refl _ _)).mono ?_
    rintro e w1 ⟨rfl, b1⟩
    have S1 := b1.size
    go_wp2_with fail
    refine (H2.out _ (b1.alloc S1 _)).mono ?_
    rintro e w2 ⟨rfl, b2⟩
    have K2 := Lib.hid (blk_step (blk_new _ _ _) b2)
    have B2 := (b1.alloc S1 _).trans (b2.mono (by simp; omega))
    have Hg : Hid (w.heap.size ≤ w1.heap.size) := S1
    clear b2 b1
    go_wp2_with fail
    go_loopw [5] (fun i wr => ∃ k : Nat, (k : Int) ≤ frameW l ∧ i = .int .i64 k ∧ wr.heap[w1.heap.size]? = some (.cells (cells4 (prevW l k)) 24 (0, 0)) ∧ Below w.heap.size w wr) (fun i _ => n - (intOf i).toNat)
    case atStart => exact ⟨0, by simpa using hfb.1, rfl, K2.out, B2⟩
    case round =>
      obtain ⟨k, hk, rfl, hK, hb⟩ := hrel
      have Sb := hb.size
      by_cases hkn : (k : Int) < frameW l
      · obtain ⟨kk, x, y, hp, hkk, ha1, hA, hB, bd1, bd2, bd3, bd4, bd5, bd6⟩ := Hnx.out k hkn
        have hae := Hae.out k (by omega) hkn
        have hcall := H5.out k wr hb
        rw [hae] at hcall
        have Hnext := Hps.out k
        generalize hpv : prevW l k = pv at *
        obtain ⟨pa, pb, pc, pd⟩ := pv
        generalize hsv : atW l k = sv at *
        obtain ⟨sa, sb, sc, sd⟩ := sv
        unfold slotV at hcall
        simp only at hcall ha1 hA hB bd1 bd2 bd3 bd4 bd5 bd6
        have hw := winCells_at l kk _ hp
        have Hw1 := Lib.hid (h.cell hw.1)
        have Hw2 := Lib.hid (h.cell hw.2)
        have Hc := Lib.hid hcall
        have HK := Lib.hid hK
        have Hnx' := Lib.hid Hnext
        have hki : (kk : Int) < (l.length : Int) := by omega
        clear hae hcall hp hw hpv hsv hK Hnext
        have key : ∀ (w4 : World) (o : Obj), Below wr.heap.size wr w4 → ∀ v3 u0 u1 u2 u3 : Value, ((((((w4.setCell ⟨w1.heap.size, 3, none⟩ v3).setCell ⟨w1.heap.size, 0, none⟩ u0).setCell ⟨w1.heap.size, 1, none⟩ u1).setCell ⟨w1.heap.size, 2, none⟩ u2).setCell ⟨w1.heap.size, 3, none⟩ u3).alloc o).heap[w1.heap.size]? = some (.cells #[u0, u1, u2, u3] 24 (0, 0)) ∧
            Below w.heap.size w ((((((w4.setCell ⟨w1.heap.size, 3, none⟩ v3).setCell ⟨w1.heap.size, 0, none⟩ u0).setCell ⟨w1.heap.size, 1, none⟩ u1).setCell ⟨w1.heap.size, 2, none⟩ u2).setCell ⟨w1.heap.size, 3, none⟩ u3).alloc o) := by
          intro w4 o b4 v3 u0 u1 u2 u3
          have := b4.size
          refine ⟨blk_alloc (blk_eq (blk_set (blk_set (blk_set (blk_set (blk_set (blk_step HK.out b4) 3 v3) 0 u0) 1 u1) 2 u2) 3 u3) (by simp [cells4])) o, ?_⟩
          refine Below.alloc ?_ (by simp; omega) _
          iterate 5 refine Below.setCell ?_ (by simp; omega) _
          exact hb.trans (b4.mono Sb)
        have key2 : ∀ (w4 : World) (o : Obj) (nq : Nat), Below wr.heap.size wr w4 → ∀ u0 u1 u2 u3 : Value, ((((((w4.alloc o).drewN nq).setCell ⟨w1.heap.size, 0, none⟩ u0).setCell ⟨w1.heap.size, 1, none⟩ u1).setCell ⟨w1.heap.size, 2, none⟩ u2).setCell ⟨w1.heap.size, 3, none⟩ u3).heap[w1.heap.size]? = some (.cells #[u0, u1, u2, u3] 24 (0, 0)) ∧
            Below w.heap.size w ((((((w4.alloc o).drewN nq).setCell ⟨w1.heap.size, 0, none⟩ u0).setCell ⟨w1.heap.size, 1, none⟩ u1).setCell ⟨w1.heap.size, 2, none⟩ u2).setCell ⟨w1.heap.size, 3, none⟩ u3) := by
          intro w4 o nq b4 u0 u1 u2 u3
          have := b4.size
          refine ⟨blk_eq (blk_set (blk_set (blk_set (blk_set (blk_drewN (blk_alloc (blk_step HK.out b4) o) nq) 0 u0) 1 u1) 2 u2) 3 u3) (by simp [cells4]), ?_⟩
          iterate 4 refine Below.setCell ?_ (by simp; omega) _
          exact below_drewN ((hb.trans (b4.mono Sb)).alloc (by omega) _) _
        have Key := Lib.hid key
        have Key2 := Lib.hid key2
        clear key key2
        by_cases hpd : 1 < pd
        · have hs := hA hpd
          simp only [Prod.mk.injEq] at hs
          obtain ⟨rfl, rfl, rfl, rfl⟩ := hs
          clear hA hB
          subst ha1
          go_wp2_with fail
          refine Hc.out.mono ?_
          rintro e w4 ⟨rfl, b4⟩
          have K4 := blk_step HK.out b4
          have s0 := blk_cell K4 0; have s1 := blk_cell K4 1; have s2 := blk_cell K4 2; have s3 := blk_cell K4 3
          have f0 := blk_frozen K4 0; have f1 := blk_frozen K4 1; have f2 := blk_frozen K4 2; have f3 := blk_frozen K4 3
          have hlt4 := blk_lt K4
          unfold cells4 at s0 s1 s2 s3
          simp only [List.getElem?_toArray] at s0 s1 s2 s3
          have S4 := b4.size
          have HB4 := Lib.hid b4
          clear K4 b4
          go_wp2_with fail
          go_roundw
          case rel =>
            refine ⟨k + 1, by omega, by go_num, ?_, ?_⟩
            · rw [Hnx'.out]; exact (Key.out w4 _ HB4.out _ _ _ _ _).1
            · exact (Key.out w4 _ HB4.out _ _ _ _ _).2
          case measure => have := Hn.out; simp [intOf]; omega
        · obtain ⟨e1, e2⟩ := hB (by omega)
          simp only [Prod.mk.injEq] at e2
          obtain ⟨rfl, rfl, rfl, rfl⟩ := e2
          obtain rfl : pa = (kk : Int) - 1 := by omega
          clear hA hB e1 ha1
          go_wp2_with fail
          refine Hc.out.mono ?_
          rintro e w4 ⟨rfl, b4⟩
          have K4 := blk_step HK.out b4
          have s0 := blk_cell K4 0; have s1 := blk_cell K4 1; have s2 := blk_cell K4 2; have s3 := blk_cell K4 3
          have f0 := blk_frozen K4 0; have f1 := blk_frozen K4 1; have f2 := blk_frozen K4 2; have f3 := blk_frozen K4 3
          have hlt4 := blk_lt K4
          unfold cells4 at s0 s1 s2 s3
          simp only [List.getElem?_toArray] at s0 s1 s2 s3
          have S4 := b4.size
          have q1 := ((hb.trans (b4.mono Sb)).cell (p := ⟨b, off + kk * 2, none⟩) hlt).trans Hw1.out
          have q2 := ((hb.trans (b4.mono Sb)).cell (p := ⟨b, off + (kk * 2 + 1), none⟩) hlt).trans Hw2.out
          rw [← Nat.add_assoc] at q2
          have hb4 : b < w4.heap.size := by omega
          have HB4 := Lib.hid b4
          clear K4 b4
          go_wp2_with fail
          go_quiet (fail)
          go_wp2_with fail
          go_roundw
          case rel =>
            refine ⟨k + 1, by omega, by go_num, ?_, ?_⟩
            · rw [Hnx'.out]; exact (Key2.out w4 _ _ HB4.out _ _ _ _).1
            · exact (Key2.out w4 _ _ HB4.out _ _ _ _).2
          case measure => have := Hn.out; simp [intOf]; omega
      · have hkn2 : frameW l = (k : Int) := by omega
        have e := Hpe.out
        rw [hkn2, Int.toNat_natCast] at e
        rw [e] at hK
        generalize (prevW l k).2.1 = ea at *
        generalize (prevW l k).2.2.1 = eb at *
        have s0 := blk_cell hK 0; have s3 := blk_cell hK 3
        unfold cells4 at s0 s3
        simp only [List.getElem?_toArray] at s0 s3
        clear e hK hkn2
        go_wp2_with fail
        refine (awake_any _).mono ?_
        rintro e w9 ⟨rfl, b9⟩
        go_wp2_with fail
        go_ret
        exact ⟨rfl, hb.trans (b9.mono Sb)⟩
set_option maxRecDepth 100000 in
theorem lifted (os : Os) (started : os.Started) (H : Type) (enc : TypeId × Value → H) :
    ReturnsInHanded {} Try.checked os 6 .any (Rows.scheduleNextSpec.pre6 enc Try.prog Try.f6 Rows.scheduleNextRow.domain false) (Rows.scheduleNextSpec.post enc Try.prog Try.f6 false true false false) := by
  refine returnsInHanded_of_change (C := Try.checked) own started (by kernel_rfl) Try.func6
    (ChangeSpec.witness6 (enc := enc) (C := Try.checked) false ⟨#[], #[.slice none 0 0], []⟩ 8 (by kernel_rfl) (by kernel_rfl) (by kernel_rfl) (by kernel_rfl)) ?_
  intro W base args ds gs before hval0 hW _ _
  have hval : ∀ (j : Nat) t v, Try.f6.params[j]? = some t → args[j]? = some v → Value.okWide Try.prog W .any base t v := hval0
  have hW' := hW
  obtain ⟨p, q, hA0, hV, rfl, _, _⟩ := hW
  have hA : DataW.TrodAll enc Try.prog W 0 (fun _ => true) true Try.f6.params.toList args.toList ds p := hA0
  rw [Try.params6] at hA hval
  obtain ⟨v0, vs0, d0, ds0, p0, q0, hargs, rfl, rfl, h0, r0⟩ := trodAll_cons hA
  obtain ⟨rfl, rfl, rfl⟩ := trodAll_nil r0
  obtain rfl : args = #[v0] := by cases args; simp_all
  obtain ⟨rfl, rfl⟩ := trodVars_none hV
  obtain ⟨l, A, c, rfl, hl, hm, hr⟩ := open_wins (okWide_slice Try.underlying22 (hval 0 22 v0 rfl rfl)) h0
  have hm' : l.length ≤ 9223372036854775807 := by unfold maxLen at hm; omega
  refine (law l A c W hr hm').mono fun e W' ⟨he, hb⟩ => ?_
  subst he
  exact ⟨_, rfl, law_post laidOut (by decide +kernel) rfl Try.underlying4 rfl rfl hW' hb⟩
theorem over : Rows.scheduleNextRow.holds Try.pinned (OpenSpec.ofChange Rows.scheduleNextSpec) :=
  OpenClaim.holds_of_wide 6 Try.f6 rfl rfl rfl rfl rfl rfl rfl ⟨rfl, rfl, rfl, rfl, rfl⟩ rfl rfl rfl rfl rfl (by kernel_rfl) Try.func6 (by kernel_rfl)
    (of_decide_eq_true (by kernel_rfl)) (by unfold Func.isWrapper; first | (rw [if_pos (by decide +kernel)]; kernel_rfl) | (rw [if_neg (by decide +kernel)]; exact ⟨rfl, rfl⟩))
    (fun os started H enc _ => lifted os started H enc)
theorem proved : Rows.ScheduleNextSaid :=
  over
end Go.Proofs.Ytpdjjombdahpmaa.scheduleNext
