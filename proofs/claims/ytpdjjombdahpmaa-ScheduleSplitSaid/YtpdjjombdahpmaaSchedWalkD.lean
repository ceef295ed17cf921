/- What Whole of the reference computes; no condition. -/
import Derived.Test.YtpdjjombdahpmaaSchedWalkC
namespace Go.Proofs.Ytpdjjombdahpmaa
open Go Go.RowKit
set_option maxHeartbeats 1000000 in
theorem refWhole_any (l : List Win) (A : Option Addr) (c : Nat) (w : World) (h : Rd w A (winCells l)) (hm : l.length ≤ 9223372036854775807) :
    Calls Try.prog 13 #[.slice A l.length c] w (WholeIs l w) := by
  have hmay : ∀ wr : World, Below w.heap.size w wr → Calls Try.prog 11 #[.slice A l.length c] wr fun e w' => e = .returned (.bool (mayW l)) ∧ wr = w' := fun wr hb => refMay_any l A c wr (h.below hb) hm
  cases hM : mayW l with
  | false =>
    rw [hM] at hmay
    have Hm := Lib.hid hmay
    have H : Hid (wholeW l = []) := by unfold wholeW; rw [hM]; rfl
    clear hmay hM
    by_cases h0 : l.length = 0
    · rw [h0] at Hm ⊢
      go_enter Try.func13, Try.ntmps13
      go_wp2
      go_loopw [3, 4] (fun v i wr => v = .slice none 0 0 ∧ i = .int .i64 0 ∧ Below w.heap.size w wr) (fun _ _ _ => 0)
      case atStart => exact ⟨rfl, rfl, Below.refl _ _⟩
      case round =>
        obtain ⟨rfl, rfl, hb⟩ := hrel
        go_wp2
        go_ret
        exact ⟨none, 0, by rw [H.out]; rfl, by rw [H.out]; exact Rd.nil, hb⟩
    · have hpos : 0 < l.length := by omega
      go_enter Try.func13, Try.ntmps13
      go_wp2
      go_loopw [3, 4] (fun v i wr => v = .slice none 0 0 ∧ i = .int .i64 0 ∧ Below w.heap.size w wr) (fun _ _ _ => 0)
      case atStart => exact ⟨rfl, rfl, Below.refl _ _⟩
      case round =>
        obtain ⟨rfl, rfl, hb⟩ := hrel
        go_wp2_with fail
        refine (Hm.out _ hb).mono ?_
        rintro e w1 ⟨rfl, rfl⟩
        go_wp2
        go_ret
        exact ⟨none, 0, by rw [H.out]; rfl, by rw [H.out]; exact Rd.nil, hb⟩
  | true =>
    rw [hM] at hmay
    have Hm := Lib.hid hmay
    have H : Hid (wholeW l = ticksOf l) := by unfold wholeW; rw [hM]; rfl
    obtain ⟨y1, y2, y3, y4, y5⟩ := mayW_yes hM
    have hlen := ticksOf_length l y3
    clear hmay hM
    obtain ⟨b, off, rfl, hlt⟩ := h.addr (by rw [winCells_length]; omega)
    obtain ⟨i0, hi, hz0, hz1, hz2⟩ := info_parts info_int
    go_enter Try.func13, Try.ntmps13
    go_wp2
    go_loopw [3, 4] (fun v i wr => ∃ k : Nat, k ≤ l.length ∧ i = .int .i64 k ∧ wr.ownsRow w.heap.size 3 1 v (ticksOf (l.take k)).length (ints .i64 (ticksOf (l.take k))) ∧ Below w.heap.size w wr) (fun _ i _ => l.length - (intOf i).toNat)
    case atStart => exact ⟨0, Nat.zero_le _, rfl, World.ownsRow_nil _ _ _ _, Below.refl _ _⟩
    case round =>
      obtain ⟨k, hk, rfl, hown, hb⟩ := hrel
      by_cases hkl : k < l.length
      · obtain ⟨⟨x, y⟩, hp⟩ : ∃ p, l[k]? = some p := ⟨l[k], List.getElem?_eq_getElem hkl⟩
        have hw := winCells_at l k _ hp
        have hc1 : ∀ wi : World, Below w.heap.size w wi → wi.cell? ⟨b, off + k * 2, none⟩ = some (.int .i64 x) := fun wi hbi => (hbi.cell (p := ⟨b, off + k * 2, none⟩) hlt).trans (h.cell hw.1)
        have hc2 : ∀ wi : World, Below w.heap.size w wi → wi.cell? ⟨b, off + k * 2 + 1, none⟩ = some (.int .i64 y) := fun wi hbi => (hbi.cell (p := ⟨b, off + (k * 2 + 1), none⟩) hlt).trans (h.cell hw.2)
        obtain ⟨o1, o2, o3, o4⟩ := (okW_iff _).1 (all_at y3 hp)
        have Hs := Lib.hid (ticksOf_snoc hp)
        have hallk : (l.take (k + 1)).all okW = true := by rw [List.all_eq_true] at y3 ⊢; exact fun z hz => y3 z (List.mem_of_mem_take hz)
        have hbd := sumW_bd (l.take (k + 1)) hallk
        have hlk := ticksOf_length (l.take (k + 1)) hallk
        rw [List.length_take] at hbd
        rw [ticksOf_snoc hp, List.length_append, List.length_replicate] at hlk
        simp only at o1 o2 o3 o4 hlk
        generalize hT : ticksOf (l.take k) = T at *
        have HT := Lib.hid hT
        obtain ⟨xn, rfl⟩ := Int.eq_ofNat_of_zero_le (a := x) (by omega)
        simp only [Int.toNat_natCast] at Hs hlk
        have C1 := Lib.hid hc1; have C2 := Lib.hid hc2
        clear hw hp y3 hlen hT hallk hc1 hc2
        obtain ⟨wo, rfl⟩ : ∃ wo : World, wo = wr := ⟨_, rfl⟩
        have hwo := hb.size
        go_wp2_with fail
        refine (Hm.out _ hb).mono ?_
        rintro e w1 ⟨rfl, rfl⟩
        go_wp2
        go_loopw [3, 5] (fun v j wi => ∃ jj : Nat, jj ≤ xn ∧ j = .int .i64 jj ∧ wi.ownsRow w.heap.size 3 1 v (T ++ List.replicate jj y).length (ints .i64 (T ++ List.replicate jj y)) ∧ Below w.heap.size w wi) (fun _ j _ => xn - (intOf j).toNat)
        case atStart => exact ⟨0, Nat.zero_le _, rfl, by simpa using hown, hb⟩
        case round =>
          obtain ⟨jj, hjj, rfl, hown2, hb2⟩ := hrel
          clear hown hb
          have hcx := C1.out _ hb2
          have hcy := C2.out _ hb2
          have hb2s := hb2.size
          by_cases hlt2 : jj < xn
          · have hn : (T ++ List.replicate jj y).length = T.length + jj := by simp
            have hnew : (T ++ List.replicate jj y).length + 1 = (T ++ List.replicate (jj + 1) y).length := by simp; omega
            have hcat : ints .i64 (T ++ List.replicate jj y) ++ [.int .i64 y] = ints .i64 (T ++ List.replicate (jj + 1) y) := by rw [← rep_snoc]; exact (ints_append _ _ [y]).symm
            generalize hxs : ints .i64 (T ++ List.replicate jj y) = xs at *
            generalize hns : (T ++ List.replicate jj y).length = n at *
            have Hn := Lib.hid hn; have Hnew := Lib.hid hnew; have Hcat := Lib.hid hcat
            clear hn hnew hcat hxs hns
            go_wp2_with (at_builtin; refine wpList_append_rd _ rfl (.tmp 25) (.tmp 31) 32 rfl w.heap.size 3 i0 (.int .i64 0) 1 8 Try.underlying32 hi hz0 hz1 hz2 rfl (by decide) _ n xs rfl (hown2.alloc _) _ 1 _ [.int .i64 y] rfl rfl (Rd.new _ _ _) ?c2 ?c3 ?c4 ?c5 ?_)
            case c2 => intro u hu; simp at hu; subst hu; rfl
            case c3 => have := Hn.out; unfold maxLen; omega
            case c4 => have := Hn.out; omega
            case c5 => simp; omega
            · intro v' w3 hown3 hg
              have hb3 : Below w.heap.size w w3 := below_own (hb2.alloc hb2s _) (hown2.alloc _) hg (by simp; omega)
              rw [Hnew.out, Hcat.out] at hown3
              clear hown2 hb2 hcx hcy
              go_wp2
              go_roundw
              case rel => exact ⟨jj + 1, by omega, by go_num, hown3, hb3⟩
              case measure => simp [intOf]; omega
          · obtain rfl : jj = xn := by omega
            go_wp2
            go_roundw
            case rel => exact ⟨k + 1, by omega, by go_num, by rw [Hs.out]; exact hown2, hb2⟩
            case measure => simp [intOf]; omega
      · obtain rfl : k = l.length := by omega
        rw [List.take_length] at hown
        obtain ⟨A', c', rfl, hc', hrd⟩ := own_form hown
        clear hlen
        go_wp2
        go_ret
        exact ⟨A', c', by rw [H.out]; rfl, by rw [H.out]; exact hrd, hb⟩
/-- What counts ticks: both programs alike. -/
def TicksIs (l : List Win) (p : Int) (w : World) (e : Ending) (w' : World) : Prop := e = .returned (.int .i64 (ticksW l p)) ∧ Below w.heap.size w w'
set_option maxHeartbeats 1000000 in
theorem ticks_any (l : List Win) (p : Int) (A : Option Addr) (c : Nat) (w : World) (h : Rd w A (winCells l)) (hm : l.length ≤ 9223372036854775807) :
    Calls Try.prog 16 #[.slice A l.length c, .int .i64 p] w (TicksIs l p w) := by
  have Hw := Lib.hid (whole_any l A c w h hm)
  have hL : ((wholeW l).length : Int) ≤ 64 := by rw [wholeW_length]; exact (frameW_bd l).2
  have Hd : Hid (ticksW l p = countW p (wholeW l)) := rfl
  go_enter Try.func16, Try.ntmps16
  go_wp2_with fail
  refine Hw.out.mono ?_
  rintro e w1 ⟨A1, c1, rfl, hr, hb1⟩
  generalize wholeW l = W at *
  go_wp2
  go_loop [5, 11] (fun n i => ∃ k : Nat, k ≤ W.length ∧ i = .int .i64 k ∧ n = .int .i64 (countW p (W.take k))) (fun _ i => W.length - (intOf i).toNat)
  case atStart => exact ⟨0, Nat.zero_le _, rfl, rfl⟩
  case round =>
    obtain ⟨k, hk, rfl, rfl⟩ := hrel
    by_cases hkl : k < W.length
    · obtain ⟨x, hp⟩ : ∃ x, W[k]? = some x := ⟨W[k], List.getElem?_eq_getElem hkl⟩
      obtain ⟨b, off, rfl, hlt⟩ := hr.addr (by rw [ints_length]; omega)
      have hc := hr.cell (ints_at (k := .i64) hp)
      have Hs := Lib.hid (countW_snoc (p := p) hp)
      have hbd := countW_bd p (W.take k)
      rw [List.length_take] at hbd
      clear hp
      by_cases hx : x = p
      · have hxb : (x == p) = true := by simp [hx]
        have Hx := Lib.hid hx
        clear hx
        go_wp2
        go_round
        case rel => exact ⟨k + 1, by omega, by go_num, by rw [Hs.out, if_pos Hx.out]⟩
        case measure => simp [intOf]; omega
      · have hxb : (x == p) = false := by simp [hx]
        have Hx := Lib.hid hx
        clear hx
        go_wp2
        go_round
        case rel => exact ⟨k + 1, by omega, by go_num, by rw [Hs.out, if_neg Hx.out]; simp⟩
        case measure => simp [intOf]; omega
    · obtain rfl : k = W.length := by omega
      go_wp2
      go_ret
      exact ⟨by rw [Hd.out]; simp, hb1⟩
set_option maxHeartbeats 1000000 in
theorem refTicks_any (l : List Win) (p : Int) (A : Option Addr) (c : Nat) (w : World) (h : Rd w A (winCells l)) (hm : l.length ≤ 9223372036854775807) :
    Calls Try.prog 17 #[.slice A l.length c, .int .i64 p] w (TicksIs l p w) := by
  have Hw := Lib.hid (refWhole_any l A c w h hm)
  have hL : ((wholeW l).length : Int) ≤ 64 := by rw [wholeW_length]; exact (frameW_bd l).2
  have Hd : Hid (ticksW l p = countW p (wholeW l)) := rfl
  go_enter Try.func17, Try.ntmps17
  go_wp2_with fail
  refine Hw.out.mono ?_
  rintro e w1 ⟨A1, c1, rfl, hr, hb1⟩
  generalize wholeW l = W at *
  go_wp2
  go_loop [5, 7] (fun n i => ∃ k : Nat, k ≤ W.length ∧ i = .int .i64 k ∧ n = .int .i64 (countW p (W.take k))) (fun _ i => W.length - (intOf i).toNat)
  case atStart => exact ⟨0, Nat.zero_le _, rfl, rfl⟩
  case round =>
    obtain ⟨k, hk, rfl, rfl⟩ := hrel
    by_cases hkl : k < W.length
    · obtain ⟨x, hp⟩ : ∃ x, W[k]? = some x := ⟨W[k], List.getElem?_eq_getElem hkl⟩
      obtain ⟨b, off, rfl, hlt⟩ := hr.addr (by rw [ints_length]; omega)
      have hc := hr.cell (ints_at (k := .i64) hp)
      have Hs := Lib.hid (countW_snoc (p := p) hp)
      have hbd := countW_bd p (W.take k)
      rw [List.length_take] at hbd
      clear hp
      by_cases hx : x = p
      · have hxb : (x == p) = true := by simp [hx]
        have Hx := Lib.hid hx
        clear hx
        go_wp2
        go_round
        case rel => exact ⟨k + 1, by omega, by go_num, by rw [Hs.out, if_pos Hx.out]⟩
        case measure => simp [intOf]; omega
      · have hxb : (x == p) = false := by simp [hx]
        have Hx := Lib.hid hx
        clear hx
        go_wp2
        go_round
        case rel => exact ⟨k + 1, by omega, by go_num, by rw [Hs.out, if_neg Hx.out]; simp⟩
        case measure => simp [intOf]; omega
    · obtain rfl : k = W.length := by omega
      go_wp2
      go_ret
      exact ⟨by rw [Hd.out]; simp, hb1⟩
end Go.Proofs.Ytpdjjombdahpmaa
