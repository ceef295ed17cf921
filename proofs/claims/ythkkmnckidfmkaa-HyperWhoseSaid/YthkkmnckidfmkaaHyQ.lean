/- Calls of a partition: queues compared; no condition. -/
import Derived.Test.YthkkmnckidfmkaaRows
import Derived.Test.YthkkmnckidfmkaaHyP
import Derived.Test.YthkkmnckidfmkaaHyCh1
import Derived.Deep.CutRange
namespace Go.Proofs.Ythkkmnckidfmkaa.hy
open Go Go.ChangeShapes Go.WideShapes Go.ChangeAt Go.RowKit Go.Proofs.Ythkkmnckidfmkaa.rows
theorem take_eqQ {la lb : List Qu} {k : Nat} {x y : Qu} (hn : la.length = lb.length) (ht : la.take k = lb.take k) (hx : la[k]? = some x) (hy : lb[k]? = some y) : (x = y → la.take (k + 1) = lb.take (k + 1)) ∧ (x ≠ y → ¬ la = lb) := by
  refine ⟨fun e => ?_, fun h he => h ?_⟩
  · rw [List.take_add_one, List.take_add_one, ht, hx, hy, e]
  · subst he; rw [hx] at hy; injection hy
theorem sameQ_dec (x y : Qu) : chan.sameQ x.ch x.msgs y.ch y.msgs = decide (x = y) := by
  obtain ⟨a, l⟩ := x
  obtain ⟨b, m⟩ := y
  simp only [chan.sameQ, Qu.mk.injEq, Bool.decide_and]
set_option maxHeartbeats 4000000 in
theorem equalQ (la lb : List Qu) (A B : Option Addr) (c d : Nat) (h63 : la.length ≤ 1000000) (hm : ∀ q ∈ la, q.msgs.length ≤ 1000000) (w : World) (h1 : Qus w A la) (h2 : Qus w B lb) :
    Calls Try.prog 30 #[.slice A la.length c, .slice B lb.length d, .func (.func 17) #[] #[]] w fun e w' => e = .returned (.bool (decide (la = lb))) ∧ Below w.heap.size w w' := by
  by_cases hn : la.length = lb.length
  · have HN := Lib.hid hn
    have h63' : (la.length : Int) ≤ 1000000 := by omega
    have H1 := Lib.hid h1; have H2 := Lib.hid h2; have HM := Lib.hid hm
    rw [← hn]
    obtain ⟨n, hnn⟩ : ∃ n, la.length = n := ⟨_, rfl⟩
    have HNN := Lib.hid hnn
    rw [hnn] at h63' ⊢
    clear h1 h2 hn hm hnn h63
    go_enter Try.func30, Try.ntmps30
    go_wp2
    go_loopw [17] (fun i wr => ∃ k : Nat, k ≤ n ∧ i = .int .i64 k ∧ la.take k = lb.take k ∧ Below w.heap.size w wr) (fun i _ => n - (intOf i).toNat)
    case atStart => exact ⟨0, Nat.zero_le _, rfl, rfl, Below.refl _ _⟩
    case round =>
      obtain ⟨k, hk, rfl, ht, hb⟩ := hrel
      have HT := Lib.hid ht; have HB := Lib.hid hb; have hz := hb.size; clear ht hb
      by_cases hkl : k < n
      · have hki : (k : Int) < (n : Int) := by omega
        have hk0 : (0 : Int) ≤ (k : Int) := by omega
        have hka : k < la.length := by rw [HNN.out]; exact hkl
        have hkb : k < lb.length := by rw [← HN.out]; exact hka
        obtain ⟨b1, o1, rfl, _⟩ := Rws.addr qu_len (by decide) H1.out (by omega)
        obtain ⟨b2, o2, rfl, _⟩ := Rws.addr qu_len (by decide) H2.out (by omega)
        obtain ⟨x, hx⟩ : ∃ x, la[k]? = some x := ⟨_, List.getElem?_eq_getElem hka⟩
        obtain ⟨y, hy⟩ : ∃ y, lb[k]? = some y := ⟨_, List.getElem?_eq_getElem hkb⟩
        obtain ⟨Ax, cx, ix, gx⟩ := Rws.at qu_len (H1.out.below HB.out) hx
        obtain ⟨Ay, cy, iy, gy⟩ := Rws.at qu_len (H2.out.below HB.out) hy
        have x0 : wr.cell? ⟨b1, o1 + k * 6, none⟩ = some (.int .i64 x.ch.id) := gx 0 _ rfl
        have x1 : wr.cell? ⟨b1, o1 + k * 6 + 1, none⟩ = some (.int .i64 x.ch.fr) := gx 1 _ rfl
        have x2 : wr.cell? ⟨b1, o1 + k * 6 + 2, none⟩ = some (.int .i64 x.ch.to) := gx 2 _ rfl
        have x3 : wr.cell? ⟨b1, o1 + k * 6 + 3, none⟩ = some (.int .i64 x.ch.cap) := gx 3 _ rfl
        have x4 : wr.cell? ⟨b1, o1 + k * 6 + 4, none⟩ = some (.int .i64 x.ch.sz) := gx 4 _ rfl
        have x5 : wr.cell? ⟨b1, o1 + k * 6 + 5, none⟩ = some (.slice Ax x.msgs.length cx) := gx 5 _ rfl
        have y0 : wr.cell? ⟨b2, o2 + k * 6, none⟩ = some (.int .i64 y.ch.id) := gy 0 _ rfl
        have y1 : wr.cell? ⟨b2, o2 + k * 6 + 1, none⟩ = some (.int .i64 y.ch.fr) := gy 1 _ rfl
        have y2 : wr.cell? ⟨b2, o2 + k * 6 + 2, none⟩ = some (.int .i64 y.ch.to) := gy 2 _ rfl
        have y3 : wr.cell? ⟨b2, o2 + k * 6 + 3, none⟩ = some (.int .i64 y.ch.cap) := gy 3 _ rfl
        have y4 : wr.cell? ⟨b2, o2 + k * 6 + 4, none⟩ = some (.int .i64 y.ch.sz) := gy 4 _ rfl
        have y5 : wr.cell? ⟨b2, o2 + k * 6 + 5, none⟩ = some (.slice Ay y.msgs.length cy) := gy 5 _ rfl
        have z0 := Lib.cell?_alloc_marked (.cells #[.int .i64 x.ch.id, .int .i64 x.ch.fr, .int .i64 x.ch.to, .int .i64 x.ch.cap, .int .i64 x.ch.sz, .slice Ax x.msgs.length cx] 36) y0
        have z1 := Lib.cell?_alloc_marked (.cells #[.int .i64 x.ch.id, .int .i64 x.ch.fr, .int .i64 x.ch.to, .int .i64 x.ch.cap, .int .i64 x.ch.sz, .slice Ax x.msgs.length cx] 36) y1
        have z2 := Lib.cell?_alloc_marked (.cells #[.int .i64 x.ch.id, .int .i64 x.ch.fr, .int .i64 x.ch.to, .int .i64 x.ch.cap, .int .i64 x.ch.sz, .slice Ax x.msgs.length cx] 36) y2
        have z3 := Lib.cell?_alloc_marked (.cells #[.int .i64 x.ch.id, .int .i64 x.ch.fr, .int .i64 x.ch.to, .int .i64 x.ch.cap, .int .i64 x.ch.sz, .slice Ax x.msgs.length cx] 36) y3
        have z4 := Lib.cell?_alloc_marked (.cells #[.int .i64 x.ch.id, .int .i64 x.ch.fr, .int .i64 x.ch.to, .int .i64 x.ch.cap, .int .i64 x.ch.sz, .slice Ax x.msgs.length cx] 36) y4
        have z5 := Lib.cell?_alloc_marked (.cells #[.int .i64 x.ch.id, .int .i64 x.ch.fr, .int .i64 x.ch.to, .int .i64 x.ch.cap, .int .i64 x.ch.sz, .slice Ax x.msgs.length cx] 36) y5
        have HE := Lib.hid (take_eqQ HN.out HT.out hx hy)
        have hmx := HM.out x (List.mem_of_getElem? hx)
        have e1 := ext1 wr (.cells #[.int .i64 x.ch.id, .int .i64 x.ch.fr, .int .i64 x.ch.to, .int .i64 x.ch.cap, .int .i64 x.ch.sz, .slice Ax x.msgs.length cx] 36)
        have e2 := ext1 (wr.alloc (.cells #[.int .i64 x.ch.id, .int .i64 x.ch.fr, .int .i64 x.ch.to, .int .i64 x.ch.cap, .int .i64 x.ch.sz, .slice Ax x.msgs.length cx] 36)) (.cells #[.int .i64 y.ch.id, .int .i64 y.ch.fr, .int .i64 y.ch.to, .int .i64 y.ch.cap, .int .i64 y.ch.sz, .slice Ay y.msgs.length cy] 36)
        have e12 := e1.trans (e2.mono e1.size)
        have T := chan.same x.ch y.ch x.msgs y.msgs Ax Ay cx cy hmx _ (ix.2.2.below e12) (iy.2.2.below e12)
        rw [sameQ_dec] at T
        dsimp only [chan.qcells] at T
        have BX := Lib.hid (HB.out.trans (e12.mono hz))
        have hz2 := BX.out.size
        clear hx hy gx gy ix iy hmx e1 e2 e12 hka hkb
        by_cases hxy : x = y
        · rw [decide_eq_true hxy] at T
          have HT2 := Lib.hid T; have HXY := Lib.hid hxy; clear T hxy
          go_wp2_with fail
          refine HT2.out.mono ?_
          rintro e w' ⟨rfl, b9⟩
          have B9 := Lib.hid (BX.out.trans (b9.mono hz2)); clear b9
          go_wp2_with fail
          go_roundw
          case rel => exact ⟨k + 1, by omega, by go_num, HE.out.1 HXY.out, B9.out⟩
          case measure => simp [intOf]; omega
        · rw [decide_eq_false hxy] at T
          have HT2 := Lib.hid T; have HXY := Lib.hid hxy; clear T hxy
          go_wp2_with fail
          refine HT2.out.mono ?_
          rintro e w' ⟨rfl, b9⟩
          have B9 := Lib.hid (BX.out.trans (b9.mono hz2)); clear b9
          go_wp2
          go_ret
          exact ⟨by rw [decide_eq_false (HE.out.2 HXY.out)]; rfl, B9.out⟩
      · obtain rfl : k = n := by omega
        go_wp2
        go_ret
        refine ⟨?_, HB.out⟩
        have h := HT.out
        rw [List.take_of_length_le (by rw [HNN.out]; exact Nat.le_refl _), List.take_of_length_le (by rw [← HN.out, HNN.out]; exact Nat.le_refl _)] at h
        rw [decide_eq_true h]; rfl
  · have hne : ¬ la = lb := fun e => hn (by rw [e])
    rw [decide_eq_false hne]
    have e1 : ((la.length : Int) == (lb.length : Int)) = false := by rw [beq_eq_false_iff_ne]; omega
    have e2 : ((la.length : Int) != (lb.length : Int)) = true := by rw [bne_iff_ne]; omega
    have e3 : (la.length == lb.length) = false := by rw [beq_eq_false_iff_ne]; exact hn
    have e4 : (la.length != lb.length) = true := by rw [bne_iff_ne]; exact hn
    clear h1 h2 hn hne h63 hm
    generalize la.length = n at *
    generalize lb.length = m at *
    go_enter Try.func30, Try.ntmps30
    go_wp2
    go_ret
    exact ⟨rfl, Below.refl _ _⟩
end Go.Proofs.Ythkkmnckidfmkaa.hy
