/- What Whole of the schedule computes; no condition. -/
import Derived.Test.YtpdjjombdahpmaaSchedWalkB
namespace Go.Proofs.Ytpdjjombdahpmaa
open Go Go.RowKit
theorem info_int : (Try.prog.info? 3).map (fun i => (i.zero, i.size, i.bytes)) = some (some (.int .i64 0), 1, 8) := by kernel_rfl
def WholeIs (l : List Win) (w : World) (e : Ending) (w' : World) : Prop :=
  ∃ A c, e = .returned (.slice A (wholeW l).length c) ∧ Rd w' A (ints .i64 (wholeW l)) ∧ Below w.heap.size w w'
/-- One more of a row. -/
theorem rep_snoc (j : Nat) (T : List Int) (y : Int) : T ++ List.replicate j y ++ [y] = T ++ List.replicate (j + 1) y := by
  rw [List.append_assoc, ← List.replicate_succ']
set_option maxHeartbeats 1000000 in
theorem whole_any (l : List Win) (A : Option Addr) (c : Nat) (w : World) (h : Rd w A (winCells l)) (hm : l.length ≤ 9223372036854775807) :
    Calls Try.prog 15 #[.slice A l.length c] w (WholeIs l w) := by
  have hmay := may_any l A c w h hm
  cases hM : mayW l with
  | false =>
    rw [hM] at hmay
    have Hm := Lib.hid hmay
    have H : Hid (wholeW l = []) := by unfold wholeW; rw [hM]; rfl
    clear hmay hM
    go_enter Try.func15, Try.ntmps15
    go_wp2_with fail
    refine Hm.out.mono ?_
    rintro e w1 ⟨rfl, hb1⟩
    go_wp2
    go_ret
    exact ⟨none, 0, by rw [H.out]; rfl, by rw [H.out]; exact Rd.nil, hb1⟩
  | true =>
    rw [hM] at hmay
    have Hm := Lib.hid hmay
    have H : Hid (wholeW l = ticksOf l) := by unfold wholeW; rw [hM]; rfl
    obtain ⟨y1, y2, y3, y4, y5⟩ := mayW_yes hM
    have hlen := ticksOf_length l y3
    clear hmay hM
    obtain ⟨b, off, rfl, hlt⟩ := h.addr (by rw [winCells_length]; omega)
    obtain ⟨i0, hi, hz0, hz1, hz2⟩ := info_parts info_int
    go_enter Try.func15, Try.ntmps15
    go_wp2_with fail
    refine Hm.out.mono ?_
    rintro e w1 ⟨rfl, hb1⟩
    go_wp2
    go_loopw [3, 11] (fun v i wr => ∃ k : Nat, k ≤ l.length ∧ i = .int .i64 k ∧ wr.ownsRow w.heap.size 3 1 v (ticksOf (l.take k)).length (ints .i64 (ticksOf (l.take k))) ∧ Below w.heap.size w wr) (fun _ i _ => l.length - (intOf i).toNat)
    case atStart => exact ⟨0, Nat.zero_le _, rfl, World.ownsRow_nil _ _ _ _, hb1⟩
    case round =>
      obtain ⟨k, hk, rfl, hown, hb⟩ := hrel
      by_cases hkl : k < l.length
      · obtain ⟨⟨x, y⟩, hp⟩ : ∃ p, l[k]? = some p := ⟨l[k], List.getElem?_eq_getElem hkl⟩
        have hw := winCells_at l k _ hp
        have hc1 := (hb.cell (p := ⟨b, off + k * 2, none⟩) hlt).trans (h.cell hw.1)
        have hc2 := (hb.cell (p := ⟨b, off + (k * 2 + 1), none⟩) hlt).trans (h.cell hw.2)
        rw [← Nat.add_assoc] at hc2
        obtain ⟨o1, o2, o3, o4⟩ := (okW_iff _).1 (all_at y3 hp)
        have Hs := Lib.hid (ticksOf_snoc hp)
        have hallk : (l.take (k + 1)).all okW = true := by rw [List.all_eq_true] at y3 ⊢; exact fun z hz => y3 z (List.mem_of_mem_take hz)
        have hbd := sumW_bd (l.take (k + 1)) hallk
        have hlk := ticksOf_length (l.take (k + 1)) hallk
        rw [List.length_take] at hbd
        rw [ticksOf_snoc hp, List.length_append, List.length_replicate] at hlk
        simp only at o1 o2 o3 o4 hc1 hc2 hlk
        generalize hT : ticksOf (l.take k) = T at *
        have HT := Lib.hid hT
        obtain ⟨xn, rfl⟩ := Int.eq_ofNat_of_zero_le (a := x) (by omega)
        simp only [Int.toNat_natCast] at Hs hlk
        clear hw hp y3 hlen hT hallk
        obtain ⟨wo, rfl⟩ : ∃ wo : World, wo = wr := ⟨_, rfl⟩
        have hwo := hb.size
        go_wp2
        go_loopw [3, 17] (fun v j wi => ∃ jj : Nat, jj ≤ xn ∧ j = .int .i64 jj ∧ wi.ownsRow w.heap.size 3 1 v (T ++ List.replicate jj y).length (ints .i64 (T ++ List.replicate jj y)) ∧
            wi.heap[wo.heap.size]? = some (.cells #[.int .i64 xn, .int .i64 y] 35 (0, 0)) ∧ Below w.heap.size w wi) (fun _ j _ => xn - (intOf j).toNat)
        case atStart => exact ⟨0, Nat.zero_le _, rfl, by simpa using hown.alloc _, blk_new _ _ _, hb.alloc hwo _⟩
        case round =>
          obtain ⟨jj, hjj, rfl, hown2, hblk, hb2⟩ := hrel
          clear hown hb hc1 hc2
          by_cases hlt2 : jj < xn
          · have hcy := blk_cell hblk 1
            have hb2s := hb2.size
            simp only [List.getElem?_toArray] at hcy
            have hn : (T ++ List.replicate jj y).length = T.length + jj := by simp
            have hnew : (T ++ List.replicate jj y).length + 1 = (T ++ List.replicate (jj + 1) y).length := by simp; omega
            have hcat : ints .i64 (T ++ List.replicate jj y) ++ [.int .i64 y] = ints .i64 (T ++ List.replicate (jj + 1) y) := by rw [← rep_snoc]; exact (ints_append _ _ [y]).symm
            generalize hxs : ints .i64 (T ++ List.replicate jj y) = xs at *
            generalize hns : (T ++ List.replicate jj y).length = n at *
            have Hn := Lib.hid hn; have Hnew := Lib.hid hnew; have Hcat := Lib.hid hcat
            clear hn hnew hcat hxs hns
            go_wp2_with (at_builtin; refine wpList_append_rd _ rfl (.tmp 19) (.tmp 22) 32 rfl w.heap.size 3 i0 (.int .i64 0) 1 8 Try.underlying32 hi hz0 hz1 hz2 rfl (by decide) _ n xs rfl (hown2.alloc _) _ 1 _ [.int .i64 y] rfl rfl (Rd.new _ _ _) ?c2 ?c3 ?c4 ?c5 ?_)
            case c2 => intro u hu; simp at hu; subst hu; rfl
            case c3 => have := Hn.out; unfold maxLen; omega
            case c4 => have := Hn.out; omega
            case c5 => simp; omega
            · intro v' w3 hown3 hg
              have hb3 : Below w.heap.size w w3 := below_own (hb2.alloc hb2s _) (hown2.alloc _) hg (by simp; omega)
              have hblk3 := blk_grown (blk_alloc hblk _) hg (own_ne hown2 hblk (by decide))
              rw [Hnew.out, Hcat.out] at hown3
              clear hown2 hblk hb2 hcy
              go_wp2
              go_roundw
              case rel => exact ⟨jj + 1, by omega, by go_num, hown3, hblk3, hb3⟩
              case measure => simp [intOf]; omega
          · obtain rfl : jj = xn := by omega
            have Hs' := Hs.out
            go_wp2
            go_roundw
            case rel => exact ⟨k + 1, by omega, by go_num, by rw [Hs.out]; exact hown2, hb2⟩
            case measure => simp [intOf]; omega
      · obtain rfl : k = l.length := by omega
        rw [List.take_length] at hown
        obtain ⟨A', c', rfl, hc', hrd⟩ := own_form hown
        clear hlen
        go_wp2
        go_ret
        exact ⟨A', c', by rw [H.out]; rfl, by rw [H.out]; exact hrd, hb⟩
end Go.Proofs.Ytpdjjombdahpmaa
