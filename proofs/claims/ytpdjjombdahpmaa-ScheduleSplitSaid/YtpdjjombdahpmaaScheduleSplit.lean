/- For every input the law ScheduleSplit returns true, and the input reads as it did; no condition. -/
import Derived.Test.YtpdjjombdahpmaaSchedOpen
import Derived.Test.YtpdjjombdahpmaaSchedPlainB
import Derived.Deep.RegionHeld3
import Derived.Deep.AppendLies
namespace Go.Proofs.Ytpdjjombdahpmaa.scheduleSplit
open Go Go.RowKit Go.WideShapes Go.ChangeShapes Go.ChangeAt
theorem info_win : (Try.prog.info? 35).map (fun i => (i.zero, i.size, i.bytes)) = some (some (.agg #[.int .i64 0, .int .i64 0]), 2, 16) := by kernel_rfl
set_option maxHeartbeats 8000000 in
set_option maxRecDepth 100000 in
theorem law (l : List Win) (a1 a2 : Int) (A : Option Addr) (c : Nat) (w : World) (h : Rd w A (winCells l)) (hm : l.length ≤ 9223372036854775807) (hlc : l.length ≤ c) :
    Calls Try.prog 7 #[.slice A l.length c, .int .i64 a1, .int .i64 a2] w fun e w' => e = .returned (.bool true) ∧ Below w.heap.size w w' := by
  by_cases h12 : 12 ≤ l.length
  · have d12 : decide ((12 : Int) ≤ (l.length : Int)) = true := by simp; omega
    go_enter Try.func7, Try.ntmps7
    go_wp2_with fail
    refine (awake_any _).mono ?_
    rintro e w1 ⟨rfl, b1⟩
    go_wp2
    go_ret
    exact ⟨rfl, b1⟩
  have d12 : decide ((12 : Int) ≤ (l.length : Int)) = false := by simp; omega
  have H3 := fun (wr : World) (hb : Below w.heap.size w wr) => may_any l A c wr (h.below hb) hm
  cases hM : mayW l with
  | false =>
    rw [hM] at H3
    have H3' := Lib.hid H3
    clear H3 hM
    go_enter Try.func7, Try.ntmps7
    go_wp2_with fail
    refine (H3'.out _ (Below.refl _ _)).mono ?_
    rintro e w1 ⟨rfl, b1⟩
    go_wp2_with fail
    refine (awake_any _).mono ?_
    rintro e w2 ⟨rfl, b2⟩
    go_wp2
    go_ret
    exact ⟨rfl, b1.trans (b2.mono b1.size)⟩
  | true =>
    rw [hM] at H3
    have H3' := Lib.hid H3
    have HM := Lib.hid hM
    obtain ⟨y1, y2, y3, y4, y5⟩ := mayW_yes hM
    obtain ⟨b, off, rfl, hlt⟩ := h.addr (by rw [winCells_length]; omega)
    clear H3 hM
    go_enter Try.func7, Try.ntmps7
    go_wp2_with fail
    refine (H3'.out _ (Below.refl _ _)).mono ?_
    rintro e w1 ⟨rfl, b1⟩
    obtain ⟨k, hk, e1⟩ := umod a1 l.length (by omega)
    obtain ⟨⟨x, y⟩, hp⟩ : ∃ p, l[k]? = some p := ⟨l[k], List.getElem?_eq_getElem hk⟩
    have hw := winCells_at l k _ hp
    have Hw1 := Lib.hid (h.cell hw.1)
    have Hw2 := Lib.hid (h.cell hw.2)
    have q1 := (b1.cell (p := ⟨b, off + k * 2, none⟩) hlt).trans Hw1.out
    obtain ⟨o1, o2, o3, o4⟩ := (okW_iff _).1 (all_at y3 hp)
    simp only at o1 o2 o3 o4 q1
    have Hp := Lib.hid hp
    have hki : (k : Int) < (l.length : Int) := by omega
    clear hp hw y3
    by_cases hx : x < 2
    · go_wp2_with fail
      refine (awake_any _).mono ?_
      rintro e w2 ⟨rfl, b2⟩
      go_wp2
      go_ret
      exact ⟨rfl, b1.trans (b2.mono b1.size)⟩
    · obtain ⟨xn, rfl⟩ : ∃ xn : Nat, x = (xn : Int) + 1 := ⟨(x - 1).toNat, by omega⟩
      obtain ⟨j, hj, e2⟩ := umod a2 xn (by omega)
      have e3 : (xn : Int) + 1 - 1 = xn := by omega
      obtain ⟨i0, hi, hz0, hz1, hz2⟩ := info_parts info_win
      have ho0 : (w1.alloc (.cells #[] 35)).ownsRow w.heap.size 35 2 (.slice (some ⟨w1.heap.size, 0, none⟩) 0 0) 0 [] := World.ownsRow_made w1 #[] 0 b1.size (by decide) (by simp)
      have hrt : Rd w (some ⟨b, off, none⟩) (winCells (l.take k)) := by rw [← winCells_take]; exact h.take _
      have hlt1 := winCells_length (l.take k)
      have hl1 : (l.take k).length = k := by rw [List.length_take]; omega
      rw [hl1] at hlt1
      have Hlt1 := Lib.hid hlt1
      have Hl1 := Lib.hid hl1
      have S1 := b1.size
      clear hlt1 hl1
      go_wp2_with (at_builtin; refine wpList_append_rd _ rfl (.tmp 48) (.tmp 51) 22 rfl w.heap.size 35 i0 (.agg #[.int .i64 0, .int .i64 0]) 2 16 Try.underlying22 hi hz0 hz1 hz2 rfl (by decide) (.slice (some ⟨w1.heap.size, 0, none⟩) 0 0) 0 [] rfl ho0 (some ⟨b, off, none⟩) k c (winCells (l.take k)) ?hx Hlt1.out ((hrt.below b1).alloc _) (winCells_one _) ?c3 ?c4 ?c5 ?_)
      case hx => rfl
      case c3 => unfold maxLen; omega
      case c4 => omega
      case c5 => simp; omega
      intro v1 w2 hown1 hg1
      have b2 : Below w.heap.size w w2 := below_own (b1.alloc S1 _) ho0 hg1 (by simp; omega)
      clear hg1 ho0
      have q1 := (b2.cell (p := ⟨b, off + k * 2, none⟩) hlt).trans Hw1.out
      have q2 := (b2.cell (p := ⟨b, off + (k * 2 + 1), none⟩) hlt).trans Hw2.out
      rw [← Nat.add_assoc] at q2
      go_wp2_with fail
      have hki0 : (0 : Int) ≤ (k : Int) := by omega
      have S2 := b2.size
      have hwr : IntKind.i64.wrap ((xn : Int) + 1 - (1 + (j : Int))) = (xn : Int) + 1 - (1 + (j : Int)) := IntWalk.i64_in _ (by omega)
      go_region_held3 (fun w' => w'.cell? ⟨b, off + k * 2, none⟩ = some (.int .i64 ((xn : Int) + 1)) ∧ w'.cell? ⟨b, off + k * 2 + 1, none⟩ = some (.int .i64 y))
        (first
          | go_keep
          | (go_split_ands
             refine ⟨?_, ?_⟩
             · exact ((below_own ((b2.alloc S2 _).drew) ((hown1.alloc _).drew) hg2 (by simp; omega)).cell (p := ⟨b, off + k * 2, none⟩) hlt).trans Hw1.out
             · exact ((below_own ((b2.alloc S2 _).drew) ((hown1.alloc _).drew) hg2 (by simp; omega)).cell (p := ⟨b, off + k * 2 + 1, none⟩) hlt).trans Hw2.out))
        ((refine step_append_rd rfl (.tmp 53) (.tmp 74) 22 rfl w.heap.size 35 i0 (.agg #[.int .i64 0, .int .i64 0]) 2 16 Try.underlying22 hi hz0 hz1 hz2 rfl (by decide) v1 k (winCells (l.take k)) rfl ((hown1.alloc _).drew) _ 2 _ (winCells [(1 + (j : Int), y), ((xn : Int) + 1 - (1 + (j : Int)), y)]) rfl rfl (Rd.drew (Rd.new _ _ _)) (winCells_one _) (by unfold maxLen; omega) (by omega) (by simp; omega) ?_; intro v2 w3 hown2 hg2))
      have b3 : Below w.heap.size w w3 := below_own ((b2.alloc S2 _).drew) ((hown1.alloc _).drew) hg2 (by simp; omega)
      clear hwr hown1 hg2 q1 q2
      have hcat : winCells (l.take k) ++ winCells [(1 + (j : Int), y), ((xn : Int) + 1 - (1 + (j : Int)), y)] = winCells (l.take k ++ [(1 + (j : Int), y), ((xn : Int) + 1 - (1 + (j : Int)), y)]) := (winCells_append _ _).symm
      rw [hcat] at hown2
      clear hcat
      have S3 := b3.size
      have hd1 := winCells_length (l.drop (k + 1))
      have hd2 : (l.drop (k + 1)).length = l.length - (k + 1) := List.length_drop
      rw [hd2] at hd1
      have hrd : Rd w3 (some ⟨b, off + (k + 1) * 2, none⟩) (winCells (l.drop (k + 1))) := by rw [← winCells_drop]; exact (h.below b3).dropAt _
      have hnil : c = k + 1 → winCells (l.drop (k + 1)) = [] := fun hc => by rw [List.drop_eq_nil_of_le (by omega)]; rfl
      have Hd1 := Lib.hid hd1; have Hrd := Lib.hid hrd; have Hnil := Lib.hid hnil
      clear hd1 hd2 hrd hnil
      by_cases hck : c = k + 1
      · have HR : Hid (Rd w3 (some ⟨b, off, none⟩) (winCells (l.drop (k + 1)))) := by show Rd _ _ _; rw [Hnil.out hck]; exact Rd.nil
        have Hd1z : Hid ((winCells (l.drop (k + 1))).length = 0 * 2) := by show _ = _; rw [Hnil.out hck]; rfl
        subst hck
        generalize hm1 : winCells (l.take k ++ [(1 + (j : Int), y), ((xn : Int) + 1 - (1 + (j : Int)), y)]) = M at *
        have Hm1 := Lib.hid hm1
        clear hm1
        go_wp2_with (at_builtin; refine wpList_append_rd _ rfl (.tmp 76) (.tmp 80) 22 rfl w.heap.size 35 i0 (.agg #[.int .i64 0, .int .i64 0]) 2 16 Try.underlying22 hi hz0 hz1 hz2 rfl (by decide) v2 (k + 2) M rfl hown2 _ 0 _ (winCells (l.drop (k + 1))) rfl Hd1z.out HR.out (winCells_one _) ?c13a ?c14a S3 ?_)
        case c13a => unfold maxLen; omega
        case c14a => omega
        intro v3 w4 hown3 hg3
        have b4 : Below w.heap.size w w4 := below_own b3 hown2 hg3 S3
        have hcut : M ++ winCells (l.drop (k + 1)) = winCells (splitW l k (1 + (j : Int)) ((xn : Int) + 1) y) := by rw [← Hm1.out, ← winCells_append]; rfl
        rw [hcut] at hown3
        have hln : k + 2 = (splitW l k (1 + (j : Int)) ((xn : Int) + 1) y).length := by rw [splitW_length _ _ _ hk]; omega
        rw [hln] at hown3
        obtain ⟨A4, c4, rfl, hc4, R4⟩ := own_form hown3
        obtain ⟨hwhole, hwpos⟩ := splitW_whole HM.out (by omega) Hp.out (n := 1 + (j : Int)) (by omega) (by omega)
        have hmm : (splitW l k (1 + (j : Int)) ((xn : Int) + 1) y).length ≤ 9223372036854775807 := by rw [← hln]; omega
        have W1 := Lib.hid (whole_any l (some ⟨b, off, none⟩) (k + 1) w4 (h.below b4) hm)
        have W2 := Lib.hid (fun (wr : World) (hb : Below w4.heap.size w4 wr) => whole_any _ A4 c4 wr (R4.below hb) hmm)
        have Hwh := Lib.hid hwhole
        have hL : ((wholeW l).length : Int) ≤ 64 := by rw [wholeW_length]; exact (frameW_bd l).2
        have hz : (((wholeW l).length : Int) == 0) = false := by simp; intro h0; rw [h0] at hwpos; simp at hwpos
        clear hown2 hown3 hg3 hcut hwhole
        go_wp2_with fail
        refine W1.out.mono ?_
        rintro e w5 ⟨A5, c5, rfl, R5, b5⟩
        have B5 := b4.trans (b5.mono b4.size)
        have w2c := W2.out _ b5
        unfold WholeIs at w2c
        rw [Hwh.out] at w2c
        have W2c := Lib.hid w2c
        clear w2c
        go_wp2_with fail
        refine W2c.out.mono ?_
        rintro e w6 ⟨A6, c6, rfl, R6, b6⟩
        have B6 := B5.trans (b6.mono B5.size)
        have R5' := R5.below b6
        clear R5 b6 b5 B5 W1 W2 W2c
        generalize wholeW l = W at *
        go_wp2_with fail
        go_loopw [12] (fun i wr => ∃ k : Nat, k ≤ W.length ∧ i = .int .i64 k ∧ Below w6.heap.size w6 wr) (fun i _ => W.length - (intOf i).toNat)
        case atStart => exact ⟨0, Nat.zero_le _, rfl, Below.refl _ _⟩
        case round =>
          obtain ⟨m, hmm2, rfl, hb⟩ := hrel
          by_cases hkl : m < W.length
          · obtain ⟨x, hp⟩ : ∃ x, W[m]? = some x := ⟨W[m], List.getElem?_eq_getElem hkl⟩
            obtain ⟨bb1, oo1, rfl, _⟩ := R5'.addr (by rw [ints_length]; omega)
            obtain ⟨bb2, oo2, rfl, _⟩ := R6.addr (by rw [ints_length]; omega)
            have q1 := (R5'.below hb).cell (ints_at (k := .i64) hp)
            have q2 := (R6.below hb).cell (ints_at (k := .i64) hp)
            have hmi : (m : Int) < (W.length : Int) := by omega
            clear hp
            go_wp2_with fail
            go_quiet (fail)
            go_wp2_with fail
            go_roundw
            case rel => exact ⟨m + 1, by omega, by go_num, below_drewN hb _⟩
            case measure => simp [intOf]; omega
          · obtain rfl : m = W.length := by omega
            go_wp2_with fail
            refine (awake_any _).mono ?_
            rintro e w7 ⟨rfl, b7⟩
            go_wp2_with fail
            go_ret
            exact ⟨rfl, (B6.trans (hb.mono B6.size)).trans (b7.mono (Nat.le_trans B6.size hb.size))⟩
      · have HR : Hid (Rd w3 (some ⟨b, off + (k + 1) * 2, none⟩) (winCells (l.drop (k + 1)))) := Hrd.out
        generalize hm1 : winCells (l.take k ++ [(1 + (j : Int), y), ((xn : Int) + 1 - (1 + (j : Int)), y)]) = M at *
        have Hm1 := Lib.hid hm1
        clear hm1
        go_wp2_with (at_builtin; refine wpList_append_rd _ rfl (.tmp 76) (.tmp 80) 22 rfl w.heap.size 35 i0 (.agg #[.int .i64 0, .int .i64 0]) 2 16 Try.underlying22 hi hz0 hz1 hz2 rfl (by decide) v2 (k + 2) M rfl hown2 _ (l.length - (k + 1)) _ (winCells (l.drop (k + 1))) rfl Hd1.out HR.out (winCells_one _) ?c13 ?c14 S3 ?_)
        case c13 => unfold maxLen; omega
        case c14 => omega
        intro v3 w4 hown3 hg3
        have b4 : Below w.heap.size w w4 := below_own b3 hown2 hg3 S3
        have hcut : M ++ winCells (l.drop (k + 1)) = winCells (splitW l k (1 + (j : Int)) ((xn : Int) + 1) y) := by rw [← Hm1.out, ← winCells_append]; rfl
        rw [hcut] at hown3
        have hln : k + 2 + (l.length - (k + 1)) = (splitW l k (1 + (j : Int)) ((xn : Int) + 1) y).length := by rw [splitW_length _ _ _ hk]; omega
        rw [hln] at hown3
        obtain ⟨A4, c4, rfl, hc4, R4⟩ := own_form hown3
        obtain ⟨hwhole, hwpos⟩ := splitW_whole HM.out (by omega) Hp.out (n := 1 + (j : Int)) (by omega) (by omega)
        have hmm : (splitW l k (1 + (j : Int)) ((xn : Int) + 1) y).length ≤ 9223372036854775807 := by rw [← hln]; omega
        have W1 := Lib.hid (whole_any l (some ⟨b, off, none⟩) c w4 (h.below b4) hm)
        have W2 := Lib.hid (fun (wr : World) (hb : Below w4.heap.size w4 wr) => whole_any _ A4 c4 wr (R4.below hb) hmm)
        have Hwh := Lib.hid hwhole
        have hL : ((wholeW l).length : Int) ≤ 64 := by rw [wholeW_length]; exact (frameW_bd l).2
        have hz : (((wholeW l).length : Int) == 0) = false := by simp; intro h0; rw [h0] at hwpos; simp at hwpos
        clear hown2 hown3 hg3 hcut hwhole
        go_wp2_with fail
        refine W1.out.mono ?_
        rintro e w5 ⟨A5, c5, rfl, R5, b5⟩
        have B5 := b4.trans (b5.mono b4.size)
        have w2c := W2.out _ b5
        unfold WholeIs at w2c
        rw [Hwh.out] at w2c
        have W2c := Lib.hid w2c
        clear w2c
        go_wp2_with fail
        refine W2c.out.mono ?_
        rintro e w6 ⟨A6, c6, rfl, R6, b6⟩
        have B6 := B5.trans (b6.mono B5.size)
        have R5' := R5.below b6
        clear R5 b6 b5 B5 W1 W2 W2c
        generalize wholeW l = W at *
        go_wp2_with fail
        go_loopw [12] (fun i wr => ∃ k : Nat, k ≤ W.length ∧ i = .int .i64 k ∧ Below w6.heap.size w6 wr) (fun i _ => W.length - (intOf i).toNat)
        case atStart => exact ⟨0, Nat.zero_le _, rfl, Below.refl _ _⟩
        case round =>
          obtain ⟨m, hmm2, rfl, hb⟩ := hrel
          by_cases hkl : m < W.length
          · obtain ⟨x, hp⟩ : ∃ x, W[m]? = some x := ⟨W[m], List.getElem?_eq_getElem hkl⟩
            obtain ⟨bb1, oo1, rfl, _⟩ := R5'.addr (by rw [ints_length]; omega)
            obtain ⟨bb2, oo2, rfl, _⟩ := R6.addr (by rw [ints_length]; omega)
            have q1 := (R5'.below hb).cell (ints_at (k := .i64) hp)
            have q2 := (R6.below hb).cell (ints_at (k := .i64) hp)
            have hmi : (m : Int) < (W.length : Int) := by omega
            clear hp
            go_wp2_with fail
            go_quiet (fail)
            go_wp2_with fail
            go_roundw
            case rel => exact ⟨m + 1, by omega, by go_num, below_drewN hb _⟩
            case measure => simp [intOf]; omega
          · obtain rfl : m = W.length := by omega
            go_wp2_with fail
            refine (awake_any _).mono ?_
            rintro e w7 ⟨rfl, b7⟩
            go_wp2_with fail
            go_ret
            exact ⟨rfl, (B6.trans (hb.mono B6.size)).trans (b7.mono (Nat.le_trans B6.size hb.size))⟩
set_option maxRecDepth 100000 in
theorem lifted (os : Os) (started : os.Started) (H : Type) (enc : TypeId × Value → H) :
    ReturnsInHanded {} Try.checked os 7 .any (Rows.scheduleSplitSpec.pre6 enc Try.prog Try.f7 Rows.scheduleSplitRow.domain false) (Rows.scheduleSplitSpec.post enc Try.prog Try.f7 false true false false) := by
  refine returnsInHanded_of_change (C := Try.checked) own started (by kernel_rfl) Try.func7
    (ChangeSpec.witness6 (enc := enc) (C := Try.checked) false ⟨#[], #[.slice none 0 0, .int .i64 0, .int .i64 0], []⟩ 8 (by kernel_rfl) (by kernel_rfl) (by kernel_rfl) (by kernel_rfl)) ?_
  intro W base args ds gs before hval0 hW _ _
  have hval : ∀ (j : Nat) t v, Try.f7.params[j]? = some t → args[j]? = some v → Value.okWide Try.prog W .any base t v := hval0
  have hW' := hW
  obtain ⟨p, q, hA0, hV, rfl, _, _⟩ := hW
  have hA : DataW.TrodAll enc Try.prog W 0 (fun _ => true) true Try.f7.params.toList args.toList ds p := hA0
  rw [Try.params7] at hA hval
  obtain ⟨v0, vs0, d0, ds0, p0, q0, hargs, rfl, rfl, h0, r0⟩ := trodAll_cons hA
  obtain ⟨v1, vs1, d1, ds1, p1, q1, rfl, rfl, rfl, h1, r1⟩ := trodAll_cons r0
  obtain ⟨v2, vs2, d2, ds2, p2, q2, rfl, rfl, rfl, h2, r2⟩ := trodAll_cons r1
  obtain ⟨rfl, rfl, rfl⟩ := trodAll_nil r2
  obtain rfl : args = #[v0, v1, v2] := by cases args; simp_all
  obtain ⟨rfl, rfl⟩ := trodVars_none hV
  obtain ⟨l, A, c, rfl, hl, hm, hr⟩ := open_wins (okWide_slice Try.underlying22 (hval 0 22 v0 rfl rfl)) h0
  have hm' : l.length ≤ 9223372036854775807 := by unfold maxLen at hm; omega
  obtain ⟨a1, rfl, rfl, rfl, _⟩ := open_int Try.underlying3 (hval 1 3 v1 rfl rfl) h1
  obtain ⟨a2, rfl, rfl, rfl, _⟩ := open_int Try.underlying3 (hval 2 3 v2 rfl rfl) h2
  refine (law l a1 a2 A c W hr hm' hl).mono fun e W' ⟨he, hb⟩ => ?_
  subst he
  exact ⟨_, rfl, law_post laidOut (by decide +kernel) rfl Try.underlying4 rfl rfl hW' hb⟩
theorem over : Rows.scheduleSplitRow.holds Try.pinned (OpenSpec.ofChange Rows.scheduleSplitSpec) :=
  OpenClaim.holds_of_wide 7 Try.f7 rfl rfl rfl rfl rfl rfl rfl ⟨rfl, rfl, rfl, rfl, rfl⟩ rfl rfl rfl rfl rfl (by kernel_rfl) Try.func7 (by kernel_rfl)
    (of_decide_eq_true (by kernel_rfl)) (by unfold Func.isWrapper; first | (rw [if_pos (by decide +kernel)]; kernel_rfl) | (rw [if_neg (by decide +kernel)]; exact ⟨rfl, rfl⟩))
    (fun os started H enc _ => lifted os started H enc)
theorem proved : Rows.ScheduleSplitSaid :=
  over
end Go.Proofs.Ytpdjjombdahpmaa.scheduleSplit
