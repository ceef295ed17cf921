/- Moves: like states are the same; a copy of bytes by the reference; no condition. -/
import Derived.Test.YtnfjkpeifleogaaRows
import Derived.Test.YtnfjkpeifleogaaMvM
namespace Go.Proofs.Ytnfjkpeifleogaa.mv
open Go Go.ChangeShapes Go.WideShapes Go.ChangeAt Go.RowKit Go.Proofs.Ytnfjkpeifleogaa.rows
set_option maxRecDepth 100000 in
set_option maxHeartbeats 8000000 in
theorem state_eq (fr : Int) (xs : List Pt) (ys : List Qu) (Ap Aq Bp Bq : Option Addr) (n m cp cq dp dq : Nat) (hn : xs.length = n) (hm : ys.length = m) (h63 : n ≤ 1000000) (h64 : m ≤ 1000000) (hml : ∀ x ∈ xs, x.mem.length ≤ 1000000) (hqm : ∀ q ∈ ys, q.msgs.length ≤ 1000000 ∧ ∀ m ∈ q.msgs, m.length ≤ 1000000) (w : World) (h1 : Pts w Ap xs) (h2 : Pts w Bp xs) (h3 : Qus w Aq ys) (h4 : Qus w Bq ys) :
    Calls Try.prog 16 #[.agg #[.int .i64 fr, .slice Ap n cp, .slice Aq m cq], .agg #[.int .i64 fr, .slice Bp n dp, .slice Bq m dq]] w fun e w' => e = .returned (.bool true) ∧ Below w.heap.size w w' := by
  have hB2 := (((Below.refl w.heap.size w).alloc (Nat.le_refl _) (.cells #[.int .i64 fr, .slice Ap n cp, .slice Aq m cq] 25)).alloc (by simp) (.cells #[.int .i64 fr, .slice Bp n dp, .slice Bq m dq] 25))
  have G0 := Lib.hid (blk_alloc (blk_new w #[.int .i64 fr, .slice Ap n cp, .slice Aq m cq] 25) (.cells #[.int .i64 fr, .slice Bp n dp, .slice Bq m dq] 25))
  have G1 := Lib.hid (show ((w.alloc (.cells #[.int .i64 fr, .slice Ap n cp, .slice Aq m cq] 25)).alloc (.cells #[.int .i64 fr, .slice Bp n dp, .slice Bq m dq] 25)).heap[w.heap.size + 1]? = some (.cells #[.int .i64 fr, .slice Bp n dp, .slice Bq m dq] 25 (0, 0)) by have := blk_new (w.alloc (.cells #[.int .i64 fr, .slice Ap n cp, .slice Aq m cq] 25)) #[.int .i64 fr, .slice Bp n dp, .slice Bq m dq] 25; simpa using this)
  have HB := Lib.hid hB2
  have H1 := Lib.hid (h1.below hB2); have H2 := Lib.hid (h2.below hB2); have H3 := Lib.hid (h3.below hB2); have H4 := Lib.hid (h4.below hB2)
  have HN := Lib.hid hn; have HM := Lib.hid hm; have ML := Lib.hid hml; have QM := Lib.hid hqm
  have h63i : (n : Int) ≤ 1000000 := by omega
  have h64i : (m : Int) ≤ 1000000 := by omega
  clear h1 h2 h3 h4 hn hm hml hqm hB2
  have a0 := blk_cell G0.out 0
  have a1 := blk_cell G0.out 1
  have a2 := blk_cell G0.out 2
  have b0 := blk_cell G1.out 0
  have b1 := blk_cell G1.out 1
  have b2 := blk_cell G1.out 2
  go_enter Try.func16, Try.ntmps16
  go_wp2_with fail
  clear a0 a1 a2 b0 b1 b2
  generalize ((w.alloc (.cells #[.int .i64 fr, .slice Ap n cp, .slice Aq m cq] 25)).alloc (.cells #[.int .i64 fr, .slice Bp n dp, .slice Bq m dq] 25)) = wb at *
  go_loopw [5] (fun iv wr => ∃ k : Nat, k ≤ n ∧ iv = .int .i64 k ∧ Below wb.heap.size wb wr) (fun iv _ => n - (intOf iv).toNat)
  case atStart => exact ⟨0, Nat.zero_le _, rfl, Below.refl _ _⟩
  case round =>
    obtain ⟨k, hk, rfl, hb⟩ := hrel
    have BR := Lib.hid hb; clear hb
    have AR := Lib.hid (blk_below G0.out BR.out (blk_lt G0.out)); have RB := Lib.hid (blk_below G1.out BR.out (blk_lt G1.out))
    have a1 := blk_cell AR.out 1; have b1 := blk_cell RB.out 1
    by_cases hkl : k < n
    · have hki : (k : Int) < (n : Int) := by omega
      obtain ⟨x, hx⟩ : ∃ x, xs[k]? = some x := ⟨_, List.getElem?_eq_getElem (by rw [HN.out]; exact hkl)⟩
      obtain ⟨b, o, rfl, _⟩ := Rws.addr pt_len (by decide) H1.out (by rw [HN.out]; omega)
      obtain ⟨b2, o2, rfl, _⟩ := Rws.addr pt_len (by decide) H2.out (by rw [HN.out]; omega)
      obtain ⟨A1, c1, hi1, hc1⟩ := Rws.at pt_len (Pts.below H1.out BR.out) hx
      obtain ⟨A2, c2, hi2, hc2⟩ := Rws.at pt_len (Pts.below H2.out BR.out) hx
      have aa := xc a1; have bb := xc b1
      have y0 := xc (hc1 0 _ rfl); have z0 := xc (hc2 0 _ rfl)
      have y1 := xc (hc1 1 _ rfl); have z1 := xc (hc2 1 _ rfl)
      have y2 := xc (hc1 2 _ rfl); have z2 := xc (hc2 2 _ rfl)
      have y3 := xc (hc1 3 _ rfl); have z3 := xc (hc2 3 _ rfl)
      have y4 := xc (hc1 4 _ rfl); have z4 := xc (hc2 4 _ rfl)
      have y5 := xc (hc1 5 _ rfl); have z5 := xc (hc2 5 _ rfl)
      have y6 := xc (hc1 6 _ rfl); have z6 := xc (hc2 6 _ rfl)
      have y7 := xc (hc1 7 _ rfl); have z7 := xc (hc2 7 _ rfl)
      have y8 := xc (hc1 8 _ rfl); have z8 := xc (hc2 8 _ rfl)
      have y9 := xc (hc1 9 _ rfl); have z9 := xc (hc2 9 _ rfl)
      have y10 := xc (hc1 10 _ rfl); have z10 := xc (hc2 10 _ rfl)
      have y11 := xc (hc1 11 _ rfl); have z11 := xc (hc2 11 _ rfl)
      have y12 := xc (hc1 12 _ rfl); have z12 := xc (hc2 12 _ rfl)
      have y13 := xc (hc1 13 _ rfl); have z13 := xc (hc2 13 _ rfl)
      dsimp only [Pt.cells, Nat.add_zero] at y0 z0 y1 z1 y2 z2 y3 z3 y4 z4 y5 z5 y6 z6 y7 z7 y8 z8 y9 z9 y10 z10 y11 z11 y12 z12 y13 z13
      have hxm := List.mem_of_getElem? hx
      have TE := fun v : Ext wr.heap.size wr => part_eq x A1 A2 x.mem.length c1 c2 rfl (ML.out x hxm) v.world (hi1.2.2.below v.below) (hi2.2.2.below v.below)
      clear hc1 hc2 hi1 hi2 hx hxm
      go_wp2_with fail
      refine region_ext (by kernel_rfl) (by kernel_rfl) ?_
      try simp only [List.append_eq, List.cons_append, List.nil_append]
      repeat (go_big_quiet_step (with_reducible exact calls_ext (Nat.le_refl _) (TE _)))
      refine wpQuiet_nil ?_
      intro v
      have BV := Lib.hid (BR.out.trans (v.below.mono BR.out.size))
      go_wp2
      go_roundw
      case rel => exact ⟨k + 1, by omega, by go_num, BV.out⟩
      case measure => simp [intOf] <;> omega
    · have hkn : n = k := by omega
      subst hkn
      clear hkl
      have BP := BR
      clear BR
      go_wp2_with fail
      clear a1 b1 AR RB
      go_loopw [6] (fun iv wr => ∃ k : Nat, k ≤ m ∧ iv = .int .i64 k ∧ Below wb.heap.size wb wr) (fun iv _ => m - (intOf iv).toNat)
      case atStart => exact ⟨0, Nat.zero_le _, rfl, BP.out⟩
      case round =>
        obtain ⟨k, hk, rfl, hb⟩ := hrel
        have BR := Lib.hid hb; clear hb
        have AR := Lib.hid (blk_below G0.out BR.out (blk_lt G0.out)); have RB := Lib.hid (blk_below G1.out BR.out (blk_lt G1.out))
        have a1 := blk_cell AR.out 2; have b1 := blk_cell RB.out 2
        by_cases hkl : k < m
        · have hki : (k : Int) < (m : Int) := by omega
          obtain ⟨x, hx⟩ : ∃ x, ys[k]? = some x := ⟨_, List.getElem?_eq_getElem (by rw [HM.out]; exact hkl)⟩
          obtain ⟨b, o, rfl, _⟩ := Rws.addr qu_len (by decide) H3.out (by rw [HM.out]; omega)
          obtain ⟨b2, o2, rfl, _⟩ := Rws.addr qu_len (by decide) H4.out (by rw [HM.out]; omega)
          obtain ⟨A1, c1, hi1, hc1⟩ := Rws.at qu_len (Qus.below H3.out BR.out) hx
          obtain ⟨A2, c2, hi2, hc2⟩ := Rws.at qu_len (Qus.below H4.out BR.out) hx
          have aa := xc a1; have bb := xc b1
          have y0 := xc (hc1 0 _ rfl); have z0 := xc (hc2 0 _ rfl)
          have y1 := xc (hc1 1 _ rfl); have z1 := xc (hc2 1 _ rfl)
          have y2 := xc (hc1 2 _ rfl); have z2 := xc (hc2 2 _ rfl)
          have y3 := xc (hc1 3 _ rfl); have z3 := xc (hc2 3 _ rfl)
          have y4 := xc (hc1 4 _ rfl); have z4 := xc (hc2 4 _ rfl)
          have y5 := xc (hc1 5 _ rfl); have z5 := xc (hc2 5 _ rfl)
          dsimp only [Qu.cells, Nat.add_zero] at y0 z0 y1 z1 y2 z2 y3 z3 y4 z4 y5 z5
          have hxm := List.mem_of_getElem? hx
          have TE := fun v : Ext wr.heap.size wr => queue_eq x.ch x.msgs A1 A2 x.msgs.length c1 c2 rfl (QM.out x hxm).1 (QM.out x hxm).2 v.world (hi1.2.2.below v.below) (hi2.2.2.below v.below)
          clear hc1 hc2 hi1 hi2 hx hxm
          go_wp2_with fail
          refine region_ext (by kernel_rfl) (by kernel_rfl) ?_
          try simp only [List.append_eq, List.cons_append, List.nil_append]
          repeat (go_big_quiet_step (with_reducible exact calls_ext (Nat.le_refl _) (TE _)))
          refine wpQuiet_nil ?_
          intro v
          have BV := Lib.hid (BR.out.trans (v.below.mono BR.out.size))
          go_wp2
          go_roundw
          case rel => exact ⟨k + 1, by omega, by go_num, BV.out⟩
          case measure => simp [intOf] <;> omega
        · have hkn : m = k := by omega
          subst hkn
          clear hkl
          go_wp2
          go_ret
          exact ⟨rfl, HB.out.trans (BR.out.mono HB.out.size)⟩
theorem bcs_take_succ (l : Msg) (k : Nat) (b : UInt8) (h : l[k]? = some b) : bcs (l.take k) ++ [.int .u8 (b.toNat : Int)] = bcs (l.take (k + 1)) := by
  rw [List.take_add_one, h, bcs_append]; rfl
/-- A message of the call's own. -/
def OwnMsg (l : Msg) (w : World) (e : Ending) (w' : World) : Prop := Below w.heap.size w w' ∧ ∃ A c, e = .returned (.slice A l.length c) ∧ MsgAt w.heap.size w'.heap.size w' (.slice A l.length c) l
set_option maxRecDepth 100000 in
set_option maxHeartbeats 4000000 in
theorem ref_cat (l : Msg) (A : Option Addr) (n c : Nat) (hn : l.length = n) (h63 : n ≤ 1000000) (w : World) (h : Rd w A (bcs l)) :
    Calls Try.prog 40 #[.slice none 0 0, .slice A n c] w (OwnMsg l w) := by
  obtain ⟨i1, gi, gz0, gz1, gz2⟩ := info_parts info_byte
  have h63i : (n : Int) ≤ 1000000 := by omega
  have H := Lib.hid h; have HN := Lib.hid hn
  clear h hn
  go_enter Try.func40, Try.ntmps40
  go_wp2_with fail
  go_loopw [5, 6] (fun v iv wr => iv = .int .i64 0 ∧ v = .slice none 0 0 ∧ wr = w) (fun _ _ _ => 0)
  case atStart => exact ⟨rfl, rfl, rfl⟩
  case round =>
    obtain ⟨rfl, rfl, hwr⟩ := hrel
    have hw0 : w = wr := hwr.symm
    clear hwr
    subst hw0
    go_wp2_with fail
    go_loopw [5, 7] (fun v iv wr2 => ∃ k : Nat, k ≤ n ∧ iv = .int .i64 k ∧ wr2.ownsRow w.heap.size 5 1 v k (bcs (l.take k)) ∧ Below w.heap.size w wr2) (fun _ iv _ => n - (intOf iv).toNat)
    case atStart => exact ⟨0, Nat.zero_le _, rfl, by rw [List.take_zero]; exact World.ownsRow_nil _ _ _ _, Below.refl _ _⟩
    case round =>
      obtain ⟨k, hk, rfl, hown, hb⟩ := hrel
      have HOWN := Lib.hid hown; have BR := Lib.hid hb; have hz := hb.size
      obtain ⟨A5, c5, rfl, hc5, hA5, hf5, hr5⟩ := own_form3 hown
      have HA5 := Lib.hid hA5; have HF5 := Lib.hid hf5; have HR5 := Lib.hid hr5
      clear hown hb hA5 hf5 hr5
      by_cases hkl : k < n
      · have hki : (k : Int) < (n : Int) := by omega
        have hk0 : (0 : Int) ≤ (k : Int) := by omega
        obtain ⟨b, off, rfl, _⟩ := H.out.addr (by rw [bcs_length, HN.out]; omega)
        obtain ⟨x, hx⟩ : ∃ x, l[k]? = some x := ⟨_, List.getElem?_eq_getElem (by rw [HN.out]; exact hkl)⟩
        have cx := (H.out.below BR.out).cell (bcs_at hx)
        have HT := Lib.hid (bcs_take_succ l k x hx)
        clear hx
        go_wp2_with (at_builtin; refine wpList_append_rd _ rfl (.tmp 27) (.tmp 32) 38 rfl w.heap.size 5 i1 (.int .u8 0) 1 1 Try.underlying38 gi gz0 gz1 gz2 rfl (by decide) _ k (bcs (l.take k)) rfl (HOWN.out.alloc _) _ 1 _ [.int .u8 (x.toNat : Int)] rfl rfl (Rd.new _ _ _) ?d2 ?d3 ?d4 ?d5 ?_)
        case d2 => first | rfl | (intro u hu; simp at hu; subst hu; rfl)
        case d3 => unfold maxLen; omega
        case d4 => omega
        case d5 => first | omega | (simp; omega)
        intro v6 w6 hown6 hg6
        have hb6 := below_own (BR.out.alloc hz (.cells #[.int .u8 (x.toNat : Int)] 5)) (HOWN.out.alloc _) hg6 (by simp; omega)
        rw [HT.out] at hown6
        have HO6 := Lib.hid hown6; have HB6 := Lib.hid hb6
        clear hown6 hg6 hb6
        go_wp2_with fail
        go_roundw
        case rel => exact ⟨k + 1, by omega, by go_num, HO6.out, HB6.out⟩
        case measure => simp [intOf] <;> omega
      · obtain rfl : k = n := by omega
        go_wp2
        go_ret
        have e : l.take k = l := List.take_of_length_le (by rw [HN.out]; exact Nat.le_refl _)
        have r := HR5.out; have f := HF5.out
        rw [e] at r f
        exact ⟨BR.out, A5, c5, by rw [HN.out]; rfl, A5, c5, by rw [HN.out], by rw [HN.out]; exact hc5, HA5.out, f.elim .inl (fun e => .inr (by cases l with | nil => rfl | cons a l => cases e)), r⟩
theorem ref_copy (l : Msg) (A : Option Addr) (n c : Nat) (hn : l.length = n) (h63 : n ≤ 1000000) (w : World) (h : Rd w A (bcs l)) :
    Calls Try.prog 28 #[.slice A n c] w (OwnMsg l w) := by
  have T := Lib.hid (ref_cat l A n c hn h63 w h)
  clear h hn
  go_enter Try.func28, Try.ntmps28
  go_wp2_with fail
  refine T.out.mono ?_
  rintro e w1 ⟨b, A1, c1, rfl, hm⟩
  have B := Lib.hid b; have M := Lib.hid hm; clear b hm
  go_wp2
  go_ret
  exact ⟨B.out, A1, c1, rfl, M.out⟩
end Go.Proofs.Ytnfjkpeifleogaa.mv
