/- Calls of a partition: worlds compared, the document's way; no condition. -/
import Derived.Test.YthkkmnckidfmkaaRows
import Derived.Test.YthkkmnckidfmkaaHyR
import Derived.Deep.CutRange
namespace Go.Proofs.Ythkkmnckidfmkaa.hy
open Go Go.ChangeShapes Go.WideShapes Go.ChangeAt Go.RowKit Go.Proofs.Ythkkmnckidfmkaa.rows
theorem rs0 (f1 t1 v1 f2 t2 v2 : Int) (B B2 C C2 : Option Addr) (nq nq2 ni ni2 d d2 c c2 : Nat) (hd : f1 ≠ f2) (w : World) :
    Calls Try.prog 13 #[.agg #[.int .i64 f1, .int .i64 t1, .int .i64 v1, .slice B nq d, .slice C ni c], .agg #[.int .i64 f2, .int .i64 t2, .int .i64 v2, .slice B2 nq2 d2, .slice C2 ni2 c2]] w fun e w' => e = .returned (.bool false) ∧ Below w.heap.size w w' := by
  have e1 : (f1 == f2) = false := by rw [beq_eq_false_iff_ne]; exact hd
  have e2 : (f1 != f2) = true := by rw [bne_iff_ne]; exact hd
  have e3 := hd
  clear hd
  go_enter Try.func13, Try.ntmps13
  go_wp2
  go_ret
  exact ⟨rfl, ((ext1 w (.cells #[.int .i64 f1, .int .i64 t1, .int .i64 v1, .slice B nq d, .slice C ni c] 29)).trans ((ext1 (w.alloc (.cells #[.int .i64 f1, .int .i64 t1, .int .i64 v1, .slice B nq d, .slice C ni c] 29)) (.cells #[.int .i64 f2, .int .i64 t2, .int .i64 v2, .slice B2 nq2 d2, .slice C2 ni2 c2] 29)).mono (ext1 w (.cells #[.int .i64 f1, .int .i64 t1, .int .i64 v1, .slice B nq d, .slice C ni c] 29)).size))⟩
theorem rs1 (f1 t1 v1 t2 v2 : Int) (B B2 C C2 : Option Addr) (nq nq2 ni ni2 d d2 c c2 : Nat) (hd : t1 ≠ t2) (w : World) :
    Calls Try.prog 13 #[.agg #[.int .i64 f1, .int .i64 t1, .int .i64 v1, .slice B nq d, .slice C ni c], .agg #[.int .i64 f1, .int .i64 t2, .int .i64 v2, .slice B2 nq2 d2, .slice C2 ni2 c2]] w fun e w' => e = .returned (.bool false) ∧ Below w.heap.size w w' := by
  have e1 : (t1 == t2) = false := by rw [beq_eq_false_iff_ne]; exact hd
  have e2 : (t1 != t2) = true := by rw [bne_iff_ne]; exact hd
  have e3 := hd
  clear hd
  go_enter Try.func13, Try.ntmps13
  go_wp2
  go_ret
  exact ⟨rfl, ((ext1 w (.cells #[.int .i64 f1, .int .i64 t1, .int .i64 v1, .slice B nq d, .slice C ni c] 29)).trans ((ext1 (w.alloc (.cells #[.int .i64 f1, .int .i64 t1, .int .i64 v1, .slice B nq d, .slice C ni c] 29)) (.cells #[.int .i64 f1, .int .i64 t2, .int .i64 v2, .slice B2 nq2 d2, .slice C2 ni2 c2] 29)).mono (ext1 w (.cells #[.int .i64 f1, .int .i64 t1, .int .i64 v1, .slice B nq d, .slice C ni c] 29)).size))⟩
theorem rs2 (f1 t1 v1 v2 : Int) (B B2 C C2 : Option Addr) (nq nq2 ni ni2 d d2 c c2 : Nat) (hd : v1 ≠ v2) (w : World) :
    Calls Try.prog 13 #[.agg #[.int .i64 f1, .int .i64 t1, .int .i64 v1, .slice B nq d, .slice C ni c], .agg #[.int .i64 f1, .int .i64 t1, .int .i64 v2, .slice B2 nq2 d2, .slice C2 ni2 c2]] w fun e w' => e = .returned (.bool false) ∧ Below w.heap.size w w' := by
  have e1 : (v1 == v2) = false := by rw [beq_eq_false_iff_ne]; exact hd
  have e2 : (v1 != v2) = true := by rw [bne_iff_ne]; exact hd
  have e3 := hd
  clear hd
  go_enter Try.func13, Try.ntmps13
  go_wp2
  go_ret
  exact ⟨rfl, ((ext1 w (.cells #[.int .i64 f1, .int .i64 t1, .int .i64 v1, .slice B nq d, .slice C ni c] 29)).trans ((ext1 (w.alloc (.cells #[.int .i64 f1, .int .i64 t1, .int .i64 v1, .slice B nq d, .slice C ni c] 29)) (.cells #[.int .i64 f1, .int .i64 t1, .int .i64 v2, .slice B2 nq2 d2, .slice C2 ni2 c2] 29)).mono (ext1 w (.cells #[.int .i64 f1, .int .i64 t1, .int .i64 v1, .slice B nq d, .slice C ni c] 29)).size))⟩
set_option maxHeartbeats 4000000 in
theorem rs4 (f1 t1 v1 : Int) (qs qs2 : List Qu) (inp inp2 : Msg) (B B2 C C2 : Option Addr) (nq nq2 ni ni2 d d2 c c2 : Nat) (hnq : qs.length = nq) (hnq2 : qs2.length = nq2) (hni : inp.length = ni) (hni2 : inp2.length = ni2) (h63 : qs.length ≤ 1000000) (hm : ∀ q ∈ qs, q.msgs.length ≤ 1000000) (w : World) (h1 : Qus w B qs) (h2 : Qus w B2 qs2) (i1 : Rd w C (bcs inp)) (i2 : Rd w C2 (bcs inp2)) :
    Calls Try.prog 13 #[.agg #[.int .i64 f1, .int .i64 t1, .int .i64 v1, .slice B nq d, .slice C ni c], .agg #[.int .i64 f1, .int .i64 t1, .int .i64 v1, .slice B2 nq2 d2, .slice C2 ni2 c2]] w fun e w' => e = .returned (.bool (sameW f1 t1 v1 qs inp f1 t1 v1 qs2 inp2)) ∧ Below w.heap.size w w' := by
  have BX := Lib.hid ((ext1 w (.cells #[.int .i64 f1, .int .i64 t1, .int .i64 v1, .slice B nq d, .slice C ni c] 29)).trans ((ext1 (w.alloc (.cells #[.int .i64 f1, .int .i64 t1, .int .i64 v1, .slice B nq d, .slice C ni c] 29)) (.cells #[.int .i64 f1, .int .i64 t1, .int .i64 v1, .slice B2 nq2 d2, .slice C2 ni2 c2] 29)).mono (ext1 w (.cells #[.int .i64 f1, .int .i64 t1, .int .i64 v1, .slice B nq d, .slice C ni c] 29)).size))
  have S1 := mem.str_rd inp C ni c hni _ (i1.below BX.out)
  have S2 := mem.str_rd inp2 C2 ni2 c2 hni2 _ (i2.below BX.out)
  have he := chan.str_eq inp inp2
  by_cases hin : inp = inp2
  · rw [decide_eq_true hin] at he
    have HIN := Lib.hid hin
    obtain ⟨SX, hSX⟩ : ∃ x, ByteArray.mk inp.toArray = x := ⟨_, rfl⟩
    obtain ⟨SY, hSY⟩ : ∃ x, ByteArray.mk inp2.toArray = x := ⟨_, rfl⟩
    rw [hSX] at S1 he; rw [hSY] at S2 he
    have hen : (SX.toList != SY.toList) = false := by rw [bne, he]; rfl
    clear hin hSX hSY hni hni2 i1 i2
    by_cases hl : nq = nq2
    · subst hl
      have H1 := Lib.hid (h1.below BX.out); have H2 := Lib.hid (h2.below BX.out)
      have g0 := Lib.hid (blk_alloc (blk_new w #[.int .i64 f1, .int .i64 t1, .int .i64 v1, .slice B nq d, .slice C ni c] 29) (.cells #[.int .i64 f1, .int .i64 t1, .int .i64 v1, .slice B2 nq d2, .slice C2 ni2 c2] 29))
      have g1 := Lib.hid (blk_new2 w (.cells #[.int .i64 f1, .int .i64 t1, .int .i64 v1, .slice B nq d, .slice C ni c] 29) #[.int .i64 f1, .int .i64 t1, .int .i64 v1, .slice B2 nq d2, .slice C2 ni2 c2] 29)
      have HN := Lib.hid (hnq.trans hnq2.symm); have HNN := Lib.hid hnq; have HM := Lib.hid hm
      have h63n : (nq : Int) ≤ 1000000 := by omega
      have h63n2 : nq ≤ 1000000 := by omega
      clear h1 h2 hnq hnq2 hm h63
      go_enter Try.func13, Try.ntmps13
      go_wp2
      obtain ⟨W, hW⟩ : ∃ x : World, (w.alloc (.cells #[.int .i64 f1, .int .i64 t1, .int .i64 v1, .slice B nq d, .slice C ni c] 29)).alloc (.cells #[.int .i64 f1, .int .i64 t1, .int .i64 v1, .slice B2 nq d2, .slice C2 ni2 c2] 29) = x := ⟨_, rfl⟩
      rw [hW] at BX H1 H2 g0 g1 ⊢
      clear hW S1 S2 he hen
      go_loopw [5] (fun i wr => ∃ k : Nat, k ≤ nq ∧ i = .int .i64 k ∧ qs.take k = qs2.take k ∧ Below W.heap.size W wr) (fun i _ => nq - (intOf i).toNat)
      case atStart => exact ⟨0, Nat.zero_le _, rfl, rfl, Below.refl _ _⟩
      case round =>
        obtain ⟨k, hk, rfl, ht, hb⟩ := hrel
        have HT := Lib.hid ht; have HB := Lib.hid hb; have hz := hb.size; clear ht hb
        have p0 := blk_below g0.out HB.out (blk_lt g0.out); have p1 := blk_below g1.out HB.out (blk_lt g1.out)
        have c3 : wr.cell? ⟨w.heap.size, 3, none⟩ = some (.slice B nq d) := blk_cell p0 3
        have d3 : wr.cell? ⟨w.heap.size + 1, 3, none⟩ = some (.slice B2 nq d2) := blk_cell p1 3
        clear p0 p1
        by_cases hkl : k < nq
        · have hki : (k : Int) < (nq : Int) := by omega
          have hk0 : (0 : Int) ≤ (k : Int) := by omega
          have hka : k < qs.length := by rw [HNN.out]; exact hkl
          have hkb : k < qs2.length := by rw [← HN.out]; exact hka
          obtain ⟨b1, o1, rfl, _⟩ := Rws.addr qu_len (by decide) H1.out (by omega)
          obtain ⟨b2, o2, rfl, _⟩ := Rws.addr qu_len (by decide) H2.out (by omega)
          obtain ⟨x, hx⟩ : ∃ x, qs[k]? = some x := ⟨_, List.getElem?_eq_getElem hka⟩
          obtain ⟨y, hy⟩ : ∃ y, qs2[k]? = some y := ⟨_, List.getElem?_eq_getElem hkb⟩
          obtain ⟨Ax, cx, ix, gx⟩ := Rws.at qu_len (H1.out.below HB.out) hx
          obtain ⟨Ay, cy, iy, gy⟩ := Rws.at qu_len (H2.out.below HB.out) hy
          have x0 : wr.cell? ⟨b1, o1 + k * 6, none⟩ = some (.int .i64 x.ch.id) := gx 0 _ rfl
          have y0 : wr.cell? ⟨b2, o2 + k * 6, none⟩ = some (.int .i64 y.ch.id) := gy 0 _ rfl
          have x1 : wr.cell? ⟨b1, o1 + k * 6 + 1, none⟩ = some (.int .i64 x.ch.fr) := gx 1 _ rfl
          have y1 : wr.cell? ⟨b2, o2 + k * 6 + 1, none⟩ = some (.int .i64 y.ch.fr) := gy 1 _ rfl
          have x2 : wr.cell? ⟨b1, o1 + k * 6 + 2, none⟩ = some (.int .i64 x.ch.to) := gx 2 _ rfl
          have y2 : wr.cell? ⟨b2, o2 + k * 6 + 2, none⟩ = some (.int .i64 y.ch.to) := gy 2 _ rfl
          have x3 : wr.cell? ⟨b1, o1 + k * 6 + 3, none⟩ = some (.int .i64 x.ch.cap) := gx 3 _ rfl
          have y3 : wr.cell? ⟨b2, o2 + k * 6 + 3, none⟩ = some (.int .i64 y.ch.cap) := gy 3 _ rfl
          have x4 : wr.cell? ⟨b1, o1 + k * 6 + 4, none⟩ = some (.int .i64 x.ch.sz) := gx 4 _ rfl
          have y4 : wr.cell? ⟨b2, o2 + k * 6 + 4, none⟩ = some (.int .i64 y.ch.sz) := gy 4 _ rfl
          have x5 : wr.cell? ⟨b1, o1 + k * 6 + 5, none⟩ = some (.slice Ax x.msgs.length cx) := gx 5 _ rfl
          have y5 : wr.cell? ⟨b2, o2 + k * 6 + 5, none⟩ = some (.slice Ay y.msgs.length cy) := gy 5 _ rfl
          have xz0 := xc x0; have yz0 := xc y0
          have xz1 := xc x1; have yz1 := xc y1
          have xz2 := xc x2; have yz2 := xc y2
          have xz3 := xc x3; have yz3 := xc y3
          have xz4 := xc x4; have yz4 := xc y4
          have xz5 := xc x5; have yz5 := xc y5
          have k3 := xc c3; have l3 := xc d3
          have HE := Lib.hid (take_eqQ HN.out HT.out hx hy)
          have hmx := HM.out x (List.mem_of_getElem? hx)
          have T := fun v : Ext wr.heap.size wr => chan.rsame x.ch y.ch x.msgs y.msgs Ax Ay cx cy hmx v.world (ix.2.2.below v.below) (iy.2.2.below v.below)
          rw [sameQ_dec] at T
          dsimp only [chan.qcells] at T
          clear hx hy gx gy ix iy hmx hka hkb x0 x1 x2 x3 x4 x5 y0 y1 y2 y3 y4 y5
          by_cases hxy : x = y
          · rw [decide_eq_true hxy] at T
            have HXY := Lib.hid hxy
            clear hxy
            go_wp2_with fail
            refine region_ext (by kernel_rfl) (by kernel_rfl) ?_
            try simp only [List.append_eq, List.cons_append, List.nil_append]
            repeat (go_big_quiet_step (with_reducible exact calls_ext (Nat.le_refl _) (T _)))
            refine wpQuiet_nil ?_
            intro v
            have BV := Lib.hid (HB.out.trans (v.below.mono hz))
            go_wp2_with fail
            go_roundw
            case rel => exact ⟨k + 1, by omega, by go_num, HE.out.1 HXY.out, BV.out⟩
            case measure => simp [intOf]; omega
          · rw [decide_eq_false hxy] at T
            have HXY := Lib.hid hxy
            clear hxy
            go_wp2_with fail
            refine region_ext (by kernel_rfl) (by kernel_rfl) ?_
            try simp only [List.append_eq, List.cons_append, List.nil_append]
            repeat (go_big_quiet_step (with_reducible exact calls_ext (Nat.le_refl _) (T _)))
            refine wpQuiet_nil ?_
            intro v
            have BV := Lib.hid (HB.out.trans (v.below.mono hz))
            go_wp2
            go_ret
            exact ⟨by rw [show sameW f1 t1 v1 qs inp f1 t1 v1 qs2 inp2 = false from decide_eq_false fun h => HE.out.2 HXY.out h.2.2.2.2]; rfl, BX.out.trans (BV.out.mono BX.out.size)⟩
        · obtain rfl : k = nq := by omega
          go_wp2
          go_ret
          refine ⟨?_, BX.out.trans (HB.out.mono BX.out.size)⟩
          have h := HT.out
          rw [← HNN.out, List.take_length, HN.out, List.take_length] at h
          rw [show sameW f1 t1 v1 qs inp f1 t1 v1 qs2 inp2 = true from decide_eq_true ⟨rfl, rfl, rfl, HIN.out, h⟩]; rfl
    · have e1 : ((nq : Int) == (nq2 : Int)) = false := by rw [beq_eq_false_iff_ne]; omega
      have e2 : ((nq : Int) != (nq2 : Int)) = true := by rw [bne_iff_ne]; omega
      have e3 : (nq == nq2) = false := by rw [beq_eq_false_iff_ne]; exact hl
      have e4 : (nq != nq2) = true := by rw [bne_iff_ne]; exact hl
      have HV := Lib.hid (show sameW f1 t1 v1 qs inp f1 t1 v1 qs2 inp2 = false from decide_eq_false fun h => hl (by rw [← hnq, ← hnq2, h.2.2.2.2]))
      clear hl hnq hnq2 h63 hm h1 h2
      go_enter Try.func13, Try.ntmps13
      go_wp2
      go_ret
      exact ⟨by rw [HV.out]; rfl, BX.out⟩
  · rw [decide_eq_false hin] at he
    have HV := Lib.hid (show sameW f1 t1 v1 qs inp f1 t1 v1 qs2 inp2 = false from decide_eq_false fun h => hin h.2.2.2.1)
    obtain ⟨SX, hSX⟩ : ∃ x, ByteArray.mk inp.toArray = x := ⟨_, rfl⟩
    obtain ⟨SY, hSY⟩ : ∃ x, ByteArray.mk inp2.toArray = x := ⟨_, rfl⟩
    rw [hSX] at S1 he; rw [hSY] at S2 he
    have hen : (SX.toList != SY.toList) = true := by rw [bne, he]; rfl
    clear hin hSX hSY hni hni2 i1 i2 hnq hnq2 h63 hm h1 h2
    go_enter Try.func13, Try.ntmps13
    go_wp2
    go_ret
    exact ⟨by rw [HV.out]; rfl, BX.out⟩
theorem rSame (f1 t1 v1 f2 t2 v2 : Int) (qs qs2 : List Qu) (inp inp2 : Msg) (B B2 C C2 : Option Addr) (d d2 c c2 : Nat) (h63 : qs.length ≤ 1000000) (hm : ∀ q ∈ qs, q.msgs.length ≤ 1000000) (w : World) (h1 : Qus w B qs) (h2 : Qus w B2 qs2) (i1 : Rd w C (bcs inp)) (i2 : Rd w C2 (bcs inp2)) :
    Calls Try.prog 13 #[.agg #[.int .i64 f1, .int .i64 t1, .int .i64 v1, .slice B qs.length d, .slice C inp.length c], .agg #[.int .i64 f2, .int .i64 t2, .int .i64 v2, .slice B2 qs2.length d2, .slice C2 inp2.length c2]] w fun e w' => e = .returned (.bool (sameW f1 t1 v1 qs inp f2 t2 v2 qs2 inp2)) ∧ Below w.heap.size w w' := by
  by_cases hf : f1 = f2
  · subst hf
    by_cases ht : t1 = t2
    · subst ht
      by_cases hv : v1 = v2
      · subst hv
        exact rs4 f1 t1 v1 qs qs2 inp inp2 B B2 C C2 _ _ _ _ d d2 c c2 rfl rfl rfl rfl h63 hm w h1 h2 i1 i2
      · have e : sameW f1 t1 v1 qs inp f1 t1 v2 qs2 inp2 = false := decide_eq_false fun h => hv h.2.2.1
        rw [e]; exact rs2 f1 t1 v1 v2 B B2 C C2 _ _ _ _ d d2 c c2 hv w
    · have e : sameW f1 t1 v1 qs inp f1 t2 v2 qs2 inp2 = false := decide_eq_false fun h => ht h.2.1
      rw [e]; exact rs1 f1 t1 v1 t2 v2 B B2 C C2 _ _ _ _ d d2 c c2 ht w
  · have e : sameW f1 t1 v1 qs inp f2 t2 v2 qs2 inp2 = false := decide_eq_false fun h => hf h.1
    rw [e]; exact rs0 f1 t1 v1 f2 t2 v2 B B2 C C2 _ _ _ _ d d2 c c2 hf w
end Go.Proofs.Ythkkmnckidfmkaa.hy
