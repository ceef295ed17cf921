/- The law RegionAll: its walk. -/
import Derived.Test.YtcgpndjidommlaaRows
import Derived.Test.YtcgpndjidommlaaRegG
import Derived.Laws.OwnMore
namespace Go.Proofs.Ytcgpndjidommlaa.reg.all
open Go Go.ChangeShapes Go.WideShapes Go.ChangeAt Go.RowKit Go.Proofs.Ytcgpndjidommlaa.reg
theorem info_reg : (Try.prog.info? 23).map (fun i => (i.zero, i.size, i.bytes)) = some (some (.agg #[.int .i64 0, .int .i64 0]), 2, 16) := by kernel_rfl
theorem long (l : List Reg) (A : Option Addr) (c : Nat) (size x : Int) (h : 80 < l.length) (w : World) : Calls Try.prog 4 #[.slice A l.length c, .int .i64 size, .int .i64 x] w fun e w' => e = .returned (.bool true) ∧ Below w.heap.size w w' := by
  have h1 : (80 : Int) < (l.length : Int) := by omega
  go_enter Try.func4, Try.ntmps4
  go_wp2
  go_ret
  exact ⟨rfl, Below.refl _ _⟩
set_option maxRecDepth 100000 in
set_option maxHeartbeats 4000000 in
theorem short (l : List Reg) (A : Option Addr) (c : Nat) (hc : l.length ≤ c) (size x : Int) (hx : x ≤ 9223372036854775807) (h80 : l.length ≤ 80) (w : World) (h : Rd w A (regCells l)) : Calls Try.prog 4 #[.slice A l.length c, .int .i64 size, .int .i64 x] w fun e w' => e = .returned (.bool true) ∧ Below w.heap.size w w' := by
  obtain ⟨i0, hi, hz0, hz1, hz2⟩ := info_parts info_reg
  have hown : (w.alloc (.cells #[] 23)).ownsRow w.heap.size 23 2 (.slice (some ⟨w.heap.size, 0, none⟩) 0 0) 0 [] := World.ownsRow_lit w #[] 0 (Nat.le_refl _) (by decide) rfl
  have hr2 := h.alloc (.cells #[] 23)
  have T1 : ∀ (A : Option Addr) (c : Nat), l.length ≤ c → ∀ w : World, Rd w A (regCells l) → Calls Try.prog 16 #[.slice A l.length c, .int .i64 size] w fun e w' => e = .returned (.tuple #[.agg #[.int .i64 (placeV l size).1.1, .int .i64 (placeV l size).1.2], .int .i64 (placeV l size).2]) ∧ Below w.heap.size w w' := fun A c hc w h => place l A c hc (by omega) size w h
  have T2 : ∀ w : World, Rd w A (regCells l) → Calls Try.prog 17 #[.slice A l.length c, .int .i64 size] w fun e w' => e = .returned (.tuple #[.agg #[.int .i64 (placeV l size).1.1, .int .i64 (placeV l size).1.2], .int .i64 (placeV l size).2]) ∧ Below w.heap.size w w' := fun w h => rplace l A c hc (by omega) size w h
  have T3 := fun (A : Option Addr) (c : Nat) (hc : l.length ≤ c) (w : World) h => all_any l A c hc (by omega) w h
  have T4 := fun (w : World) (h : Rd w A (regCells l)) => rall l A c (by omega) w h
  have T5 := fun (A : Option Addr) (c : Nat) (w : World) h => holder l A c x (by omega) w h
  have T6 := fun (w : World) (h : Rd w A (regCells l)) => rholder l A c x hx (by omega) w h
  have h63 : ¬ (80 : Int) < (l.length : Int) := by omega
  have h80i : (l.length : Int) ≤ 80 := by omega
  generalize (placeV l size).1.1 = p1 at *
  generalize (placeV l size).1.2 = p2 at *
  generalize (placeV l size).2 = pE at *
  generalize allE l = aE at *
  generalize holderR l x = hv at *
  have hn := regCells_length l
  have h1 := regCells_one l
  have hat := Lib.hid (regCells_at l)
  generalize hxs : regCells l = xs at *
  have H := Lib.hid h; have H1 := Lib.hid T1; have H2 := Lib.hid T2; have H3 := Lib.hid T3; have H4 := Lib.hid T4; have H5 := Lib.hid T5; have H6 := Lib.hid T6; have HN := Lib.hid hn; have HL := Lib.hid h80
  clear h T1 T2 T3 T4 T5 T6 hn h80 hc hx hxs
  go_enter Try.func4, Try.ntmps4
  go_wp2_with (at_builtin; refine wpList_append_rd _ rfl (.tmp 16) (.tmp 17) 30 rfl w.heap.size 23 i0 (.agg #[.int .i64 0, .int .i64 0]) 2 16 Try.underlying30 hi hz0 hz1 hz2 rfl (by decide) _ 0 [] rfl hown _ l.length _ xs rfl HN.out hr2 h1 ?c3 ?c4 (by simp) ?_)
  case c3 => have := HL.out; unfold maxLen; omega
  case c4 => have := HL.out; omega
  intro v' w0 hown3 hg
  have hb3 : Below w.heap.size w w0 := below_own ((Below.refl _ w).alloc (Nat.le_refl _) _) hown hg (by simp)
  obtain ⟨A', c', rfl, hc', hrd⟩ := own_form hown3
  have B0 := Lib.hid hb3; have R0 := Lib.hid hrd
  clear hb3 hown3 hg hown hr2 h1 hrd
  go_wp2_with fail
  refine (H1.out A' c' (by omega) _ R0.out).mono ?_
  rintro e w1 ⟨rfl, b1⟩
  have R1 := Lib.hid ((R0.out.below b1).alloc (.cells #[.int .i64 p1, .int .i64 p2] 23))
  have D1 := Lib.hid (blk_new w1 #[.int .i64 p1, .int .i64 p2] 23)
  have hb1 := B0.out.trans (b1.mono B0.out.size)
  have B1 := Lib.hid (hb1.alloc hb1.size (.cells #[.int .i64 p1, .int .i64 p2] 23))
  clear b1 hb1
  go_wp2_with fail
  refine (H2.out _ (H.out.below B1.out)).mono ?_
  rintro e w2 ⟨rfl, b2⟩
  have R2 := Lib.hid ((R1.out.below b2).alloc (.cells #[.int .i64 p1, .int .i64 p2] 23))
  have D2 := Lib.hid (blk_alloc (blk_below D1.out b2 (blk_lt D1.out)) (.cells #[.int .i64 p1, .int .i64 p2] 23))
  have E2 := Lib.hid (blk_new w2 #[.int .i64 p1, .int .i64 p2] 23)
  have hb2 := B1.out.trans (b2.mono B1.out.size)
  have B2 := Lib.hid (hb2.alloc hb2.size (.cells #[.int .i64 p1, .int .i64 p2] 23))
  clear b2 hb2
  go_wp2_with fail
  refine (H3.out A' c' (by omega) _ R2.out).mono ?_
  rintro e w3 ⟨rfl, b3⟩
  have R3 := Lib.hid (R2.out.below b3); have B3 := Lib.hid (B2.out.trans (b3.mono B2.out.size))
  have D3 := Lib.hid (blk_below D2.out b3 (blk_lt D2.out)); have E3 := Lib.hid (blk_below E2.out b3 (blk_lt E2.out))
  clear b3
  go_wp2_with fail
  refine (H4.out _ (H.out.below B3.out)).mono ?_
  rintro e w4 ⟨rfl, b4⟩
  have R4 := Lib.hid (R3.out.below b4); have B4 := Lib.hid (B3.out.trans (b4.mono B3.out.size))
  have d4 := blk_below D3.out b4 (blk_lt D3.out); have e4 := blk_below E3.out b4 (blk_lt E3.out)
  have d0 := blk_cell d4 0; have d1 := blk_cell d4 1; have e0 := blk_cell e4 0; have e1 := blk_cell e4 1
  clear b4 d4 e4
  go_wp2_with fail
  refine (H5.out A' c' _ R4.out).mono ?_
  rintro e w5 ⟨rfl, b5⟩
  have R5 := Lib.hid (R4.out.below b5); have B5 := Lib.hid (B4.out.trans (b5.mono B4.out.size))
  clear b5 d0 d1 e0 e1
  go_wp2_with fail
  refine (H6.out _ (H.out.below B5.out)).mono ?_
  rintro e w6 ⟨rfl, b6⟩
  have R6 := Lib.hid (R5.out.below b6); have B6 := Lib.hid (B5.out.trans (b6.mono B5.out.size))
  clear b6
  go_wp2_with fail
  go_loopw [12] (fun i wr => ∃ k : Nat, k ≤ l.length ∧ i = .int .i64 k ∧ Below w6.heap.size w6 wr) (fun i _ => l.length - (intOf i).toNat)
  case atStart => exact ⟨0, Nat.zero_le _, rfl, Below.refl _ _⟩
  case round =>
    obtain ⟨k, hk, rfl, hb⟩ := hrel
    have HB := Lib.hid hb
    clear hb
    by_cases hkl : k < l.length
    · have hki : (k : Int) < (l.length : Int) := by omega
      obtain ⟨p, hp⟩ : ∃ p, l[k]? = some p := ⟨l[k], List.getElem?_eq_getElem hkl⟩
      have hw := hat.out k _ hp
      have hlx : 0 < xs.length := by have := HN.out; omega
      obtain ⟨b, off, rfl, _⟩ := H.out.addr hlx
      obtain ⟨b', off', rfl, _⟩ := R6.out.addr hlx
      have r1 := (H.out.below B6.out).below HB.out
      have r2 := R6.out.below HB.out
      have c0 := r1.cell hw.1; have c1 := r1.cell hw.2; have c2 := r2.cell hw.1; have c3 := r2.cell hw.2
      rw [← Nat.add_assoc] at c1 c3
      clear r1 r2 hw hp hlx
      go_wp2_with fail
      go_quiet (fail)
      go_wp2_with fail
      go_roundw
      case rel => exact ⟨k + 1, by omega, by go_num, below_drewN HB.out _⟩
      case measure => simp [intOf]; omega
    · obtain rfl : k = l.length := by omega
      go_wp2_with fail
      refine (awake _).mono ?_
      rintro e w7 ⟨rfl, b7⟩
      have B7 := Lib.hid (B6.out.trans ((HB.out.trans (b7.mono HB.out.size)).mono B6.out.size)); clear b7
      go_wp2
      go_ret
      exact ⟨rfl, B7.out⟩
theorem law (l : List Reg) (A : Option Addr) (c : Nat) (hc : l.length ≤ c) (size x : Int) (hx : x ≤ 9223372036854775807) (w : World) (h : Rd w A (regCells l)) : Calls Try.prog 4 #[.slice A l.length c, .int .i64 size, .int .i64 x] w fun e w' => e = .returned (.bool true) ∧ Below w.heap.size w w' := by
  by_cases h1 : 80 < l.length
  · exact long l A c size x h1 w
  · exact short l A c hc size x hx (by omega) w h
end Go.Proofs.Ytcgpndjidommlaa.reg.all
