/- For every input the law MemoryLoads returns true, and the input reads as it did; no condition. -/
import Derived.Test.YtjliaojanmbicaaRows
import Derived.Test.YtjliaojanmbicaaMemG
namespace Go.Proofs.Ytjliaojanmbicaa.memoryLoads
open Go Go.ChangeShapes Go.WideShapes Go.ChangeAt Go.RowKit Go.Proofs.Ytjliaojanmbicaa.mem
theorem law0 (l : List UInt8) (i n : Int) (A : Option Addr) (c : Nat) (h : 600 < l.length) (w : World) : Calls Try.prog 3 #[.slice A l.length c, .int .i64 i, .int .i64 n] w fun e w' => e = .returned (.bool true) ∧ Below w.heap.size w w' := by
  have h1 : (600 : Int) < (l.length : Int) := by omega
  go_enter Try.func3, Try.ntmps3
  go_wp2
  go_ret
  exact ⟨rfl, Below.refl _ _⟩
theorem one_byte (l : List UInt8) (i : Int) : (∃ x : UInt8, mem.part l i 1 = [x] ∧ byteAt l i = (x.toNat : Int)) ∨ (mem.part l i 1 = [] ∧ byteAt l i = 0) := by
  by_cases h : thereE l.length i 1 = 0
  · left
    have h2 : 0 ≤ i ∧ (0 : Int) ≤ 1 ∧ i + 1 ≤ l.length := by
      unfold thereE at h
      split at h
      · omega
      · split at h
        · assumption
        · omega
    obtain ⟨a, rfl⟩ := Int.eq_ofNat_of_zero_le h2.1
    have hlt : a < l.length := by omega
    refine ⟨l[a], ?_, ?_⟩
    · unfold mem.part; rw [if_pos h]
      have : (l.drop a).take 1 = [l[a]] := by rw [List.drop_eq_getElem_cons hlt]; rfl
      simpa using this
    · unfold byteAt; rw [if_pos h]; simp [List.getD, List.getElem?_eq_getElem hlt]
  · right
    exact ⟨by unfold mem.part; rw [if_neg h], by unfold byteAt; rw [if_neg h]⟩
theorem own_below {w w' : World} {base : Nat} {e : TypeId} {size n : Nat} {v : Value} {xs : List Value} (h : w.ownsRow base e size v n xs) (hb : Below w.heap.size w w') : w'.ownsRow base e size v n xs := by
  refine ⟨h.1, ?_⟩
  rcases h.2 with hn | ⟨g, cap, cur, rfl, hb0, hgg, rest⟩
  · exact .inl hn
  · exact .inr ⟨g, cap, cur, rfl, hb0, (hb.block g (Array.getElem?_eq_some_iff.1 hgg).1).trans hgg, rest⟩
theorem part_le (l : List UInt8) (i n : Int) : (mem.part l i n).length ≤ l.length := by
  unfold mem.part; split
  · rw [List.length_take, List.length_drop]; omega
  · simp
set_option maxRecDepth 100000 in
set_option maxHeartbeats 4000000 in
theorem law1 (l : List UInt8) (i n : Int) (A : Option Addr) (c : Nat) (hl : l.length ≤ 600) (x : UInt8) (hp : mem.part l i 1 = [x]) (hbx : byteAt l i = (x.toNat : Int)) (w : World) (h : Rd w A (bcs l)) : Calls Try.prog 3 #[.slice A l.length c, .int .i64 i, .int .i64 n] w fun e w' => e = .returned (.bool true) ∧ Below w.heap.size w w' := by
  have T1 := lent l A c (by omega) w h
  have T2 := fun (g cap : Nat) (hcap : l.length ≤ cap) (w : World) h => mem.load l (some ⟨g, 0, none⟩) cap hcap i w h
  have T3 := fun (w : World) h => rread l A c i 1 w h
  have T4 := fun (g cap : Nat) (hcap : l.length ≤ cap) (w : World) h => load32 l (some ⟨g, 0, none⟩) cap hcap i w h
  have T5 := fun (w : World) h => rload32 l A c i w h
  have T6 := fun (g cap : Nat) (hcap : l.length ≤ cap) (w : World) h => read l (some ⟨g, 0, none⟩) cap (fun h => by cases h) hcap i n w h
  have T7 := fun (w : World) h => rread l A c i n w h
  have T8 := fun (g cap : Nat) (hcap : l.length + 1 ≤ cap) (w : World) h h2 => stays l (by omega) A g cap c hcap w h h2
  have htk : (bcs (l ++ [99])).take l.length = bcs l := by simp [bcs, Lib.byteCells]
  have hPn : ((mem.part l i n).length : Int) ≤ 600 := by have := part_le l i n; omega
  rw [hbx] at T2
  rw [hp] at T3
  have hl2 : ¬ (600 : Int) < (l.length : Int) := by omega
  generalize thereE l.length i 1 = E1 at *
  generalize thereE l.length i 4 = E4 at *
  generalize thereE l.length i n = En at *
  generalize wordAt l i = Wd at *
  generalize mem.part l i n = P at *
  generalize l.length = N at *
  have HTK := Lib.hid htk; have H1 := Lib.hid T1; have H2 := Lib.hid T2; have H3 := Lib.hid T3; have H4 := Lib.hid T4; have H5 := Lib.hid T5; have H6 := Lib.hid T6; have H7 := Lib.hid T7; have H8 := Lib.hid T8; have HH := Lib.hid h
  clear htk T1 T2 T3 T4 T5 T6 T7 T8 hp hbx h hl
  go_enter Try.func3, Try.ntmps3
  go_wp2_with fail
  refine H1.out.mono ?_
  rintro e w1 ⟨g, cap, rfl, hcap, hown, b1⟩
  have R0 := Rd.of_own hown
  have R1 : Rd w1 (some ⟨g, 0, none⟩) (bcs l) := by have := R0.take N; rwa [HTK.out] at this
  have HR0 := Lib.hid R0; have HR1 := Lib.hid R1; have HB1 := Lib.hid b1; have HM1 := Lib.hid (HH.out.below b1); clear hown R0 R1 b1
  go_wp2_with fail
  refine (H2.out g cap (by omega) _ HR1.out).mono ?_
  rintro e w1' ⟨rfl, rfl⟩
  obtain ⟨w1, rfl⟩ : ∃ x : World, x = w1' := ⟨_, rfl⟩
  go_wp2_with fail
  refine (H3.out _ HM1.out).mono ?_
  rintro e w2 ⟨v, rfl, A1, c1, rfl, hown, b2⟩
  have R2 := Rd.of_own hown
  obtain ⟨bb, oo, rfl, _⟩ := R2.addr (by simp [bcs, Lib.byteCells])
  have hcx := R2.cell (bcs_at (l := [x]) (j := 0) (x := x) rfl)
  rw [Nat.add_zero] at hcx
  have hone : [x].length = 1 := rfl
  rw [hone]
  clear R2
  have HB2 := Lib.hid b2; clear b2 hown
  go_wp2_with fail
  refine (H4.out g cap (by omega) _ (HR1.out.below HB2.out)).mono ?_
  rintro e w3 ⟨rfl, b3⟩
  have HB3 := Lib.hid (HB2.out.trans (b3.mono HB2.out.size)); clear b3
  go_wp2_with fail
  refine (H5.out _ (HM1.out.below HB3.out)).mono ?_
  rintro e w4 ⟨rfl, b4⟩
  have HB4 := Lib.hid (HB3.out.trans (b4.mono HB3.out.size)); clear b4
  go_wp2_with fail
  refine (H6.out g cap (by omega) _ (HR1.out.below HB4.out)).mono ?_
  rintro e w5 ⟨v, rfl, A5, c5, rfl, hown5, b5⟩
  have HB5 := Lib.hid (HB4.out.trans (b5.mono HB4.out.size)); have H45 := Lib.hid b5; have HO5 := Lib.hid hown5; clear b5 hown5
  go_wp2_with fail
  refine (H7.out _ (HM1.out.below HB5.out)).mono ?_
  rintro e w6 ⟨v, rfl, A6, c6, rfl, hown6, b6⟩
  have s1 := str_rd P A5 P.length c5 rfl w6 ((Rd.of_own HO5.out).below b6)
  have s2 := str_rd P A6 P.length c6 rfl w6 (Rd.of_own hown6)
  generalize (ByteArray.mk P.toArray) = S at *
  have H46 := Lib.hid (H45.out.trans (b6.mono H45.out.size))
  have HO6 := Lib.hid (own_below HO5.out b6)
  clear b6 hown6
  go_wp2_with fail
  go_loopw [21] (fun j wr => ∃ (k : Nat) (ys : List Int), k ≤ P.length ∧ j = .int .i64 k ∧ ys.length = P.length ∧ wr.ownsRow w4.heap.size 5 1 (.slice A5 P.length c5) P.length (ints .u8 ys) ∧ Below w4.heap.size w4 wr) (fun j _ => P.length - (intOf j).toNat)
  case atStart => exact ⟨0, P.map (fun b => (b.toNat : Int)), Nat.zero_le _, rfl, by simp, by rw [show ints .u8 (P.map (fun b => (b.toNat : Int))) = bcs P by simp [ints, bcs, Lib.byteCells, Function.comp_def]]; exact HO6.out, H46.out⟩
  case round =>
    obtain ⟨k, ys, hk, rfl, hys, hown, hb⟩ := hrel
    by_cases hkl : k < P.length
    · have hki : (k : Int) < (P.length : Int) := by omega
      obtain ⟨g5, rfl⟩ : ∃ g5, A5 = some ⟨g5, 0, none⟩ := by
        rcases hown.2 with ⟨_, hz⟩ | ⟨g5, cap5, _, hv, _⟩
        · omega
        · injection hv with hv _ _; exact ⟨g5, hv⟩
      obtain ⟨y, hy⟩ : ∃ y, ys[k]? = some y := ⟨_, List.getElem?_eq_getElem (by omega)⟩
      have hcy := hown.cellAt k (by omega)
      rw [ints_at hy] at hcy
      have hfy := hown.frozenAt k
      have hlt := (hown.lt g5 rfl).1
      have hst : ∀ z : Int, (wr.setCell ⟨g5, k, none⟩ (.int .u8 z)).ownsRow w4.heap.size 5 1 (.slice (some ⟨g5, 0, none⟩) P.length c5) P.length (ints .u8 (ys.set k z)) := fun z => by
        have := (hown.stored k (.int .u8 z)).1
        rwa [show (ints .u8 ys).set k (.int .u8 z) = ints .u8 (ys.set k z) by simp [ints, List.map_set]] at this
      have HST := Lib.hid hst; have HB := Lib.hid hb; have HYS := Lib.hid hys
      clear hst hb hys hown hy
      go_wp2_with fail
      go_roundw
      case rel => exact ⟨k + 1, ys.set k _, by omega, by go_num, List.length_set.trans HYS.out, HST.out _, HB.out.setCell (by exact hlt) _⟩
      case measure => simp [intOf]; omega
    · obtain rfl : k = P.length := by omega
      have HB := Lib.hid hb
      clear hown hb
      go_wp2_with fail
      refine (H8.out g cap (by omega) _ ((HR0.out.below HB4.out).below HB.out) ((HM1.out.below HB4.out).below HB.out)).mono ?_
      rintro e w8 ⟨rfl, b8⟩
      have HB8 := Lib.hid (((HB1.out.trans (HB4.out.mono HB1.out.size)).trans (HB.out.mono (HB1.out.trans (HB4.out.mono HB1.out.size)).size)))
      go_wp2_with fail
      refine (awake _).mono ?_
      rintro e w9 ⟨rfl, b9⟩
      go_wp2
      go_ret
      have hb := HB8.out.trans (b8.mono HB8.out.size)
      exact ⟨rfl, hb.trans (b9.mono hb.size)⟩
set_option maxRecDepth 100000 in
set_option maxHeartbeats 4000000 in
theorem law2 (l : List UInt8) (i n : Int) (A : Option Addr) (c : Nat) (hl : l.length ≤ 600)  (hp : mem.part l i 1 = []) (hbx : byteAt l i = 0) (w : World) (h : Rd w A (bcs l)) : Calls Try.prog 3 #[.slice A l.length c, .int .i64 i, .int .i64 n] w fun e w' => e = .returned (.bool true) ∧ Below w.heap.size w w' := by
  have T1 := lent l A c (by omega) w h
  have T2 := fun (g cap : Nat) (hcap : l.length ≤ cap) (w : World) h => mem.load l (some ⟨g, 0, none⟩) cap hcap i w h
  have T3 := fun (w : World) h => rread l A c i 1 w h
  have T4 := fun (g cap : Nat) (hcap : l.length ≤ cap) (w : World) h => load32 l (some ⟨g, 0, none⟩) cap hcap i w h
  have T5 := fun (w : World) h => rload32 l A c i w h
  have T6 := fun (g cap : Nat) (hcap : l.length ≤ cap) (w : World) h => read l (some ⟨g, 0, none⟩) cap (fun h => by cases h) hcap i n w h
  have T7 := fun (w : World) h => rread l A c i n w h
  have T8 := fun (g cap : Nat) (hcap : l.length + 1 ≤ cap) (w : World) h h2 => stays l (by omega) A g cap c hcap w h h2
  have htk : (bcs (l ++ [99])).take l.length = bcs l := by simp [bcs, Lib.byteCells]
  have hPn : ((mem.part l i n).length : Int) ≤ 600 := by have := part_le l i n; omega
  rw [hbx] at T2
  rw [hp] at T3
  have hl2 : ¬ (600 : Int) < (l.length : Int) := by omega
  generalize thereE l.length i 1 = E1 at *
  generalize thereE l.length i 4 = E4 at *
  generalize thereE l.length i n = En at *
  generalize wordAt l i = Wd at *
  generalize mem.part l i n = P at *
  generalize l.length = N at *
  have HTK := Lib.hid htk; have H1 := Lib.hid T1; have H2 := Lib.hid T2; have H3 := Lib.hid T3; have H4 := Lib.hid T4; have H5 := Lib.hid T5; have H6 := Lib.hid T6; have H7 := Lib.hid T7; have H8 := Lib.hid T8; have HH := Lib.hid h
  clear htk T1 T2 T3 T4 T5 T6 T7 T8 hp hbx h hl
  go_enter Try.func3, Try.ntmps3
  go_wp2_with fail
  refine H1.out.mono ?_
  rintro e w1 ⟨g, cap, rfl, hcap, hown, b1⟩
  have R0 := Rd.of_own hown
  have R1 : Rd w1 (some ⟨g, 0, none⟩) (bcs l) := by have := R0.take N; rwa [HTK.out] at this
  have HR0 := Lib.hid R0; have HR1 := Lib.hid R1; have HB1 := Lib.hid b1; have HM1 := Lib.hid (HH.out.below b1); clear hown R0 R1 b1
  go_wp2_with fail
  refine (H2.out g cap (by omega) _ HR1.out).mono ?_
  rintro e w1' ⟨rfl, rfl⟩
  obtain ⟨w1, rfl⟩ : ∃ x : World, x = w1' := ⟨_, rfl⟩
  go_wp2_with fail
  refine (H3.out _ HM1.out).mono ?_
  rintro e w2 ⟨v, rfl, A1, c1, rfl, hown, b2⟩
  have HB2 := Lib.hid b2; clear b2 hown
  go_wp2_with fail
  refine (H4.out g cap (by omega) _ (HR1.out.below HB2.out)).mono ?_
  rintro e w3 ⟨rfl, b3⟩
  have HB3 := Lib.hid (HB2.out.trans (b3.mono HB2.out.size)); clear b3
  go_wp2_with fail
  refine (H5.out _ (HM1.out.below HB3.out)).mono ?_
  rintro e w4 ⟨rfl, b4⟩
  have HB4 := Lib.hid (HB3.out.trans (b4.mono HB3.out.size)); clear b4
  go_wp2_with fail
  refine (H6.out g cap (by omega) _ (HR1.out.below HB4.out)).mono ?_
  rintro e w5 ⟨v, rfl, A5, c5, rfl, hown5, b5⟩
  have HB5 := Lib.hid (HB4.out.trans (b5.mono HB4.out.size)); have H45 := Lib.hid b5; have HO5 := Lib.hid hown5; clear b5 hown5
  go_wp2_with fail
  refine (H7.out _ (HM1.out.below HB5.out)).mono ?_
  rintro e w6 ⟨v, rfl, A6, c6, rfl, hown6, b6⟩
  have s1 := str_rd P A5 P.length c5 rfl w6 ((Rd.of_own HO5.out).below b6)
  have s2 := str_rd P A6 P.length c6 rfl w6 (Rd.of_own hown6)
  generalize (ByteArray.mk P.toArray) = S at *
  have H46 := Lib.hid (H45.out.trans (b6.mono H45.out.size))
  have HO6 := Lib.hid (own_below HO5.out b6)
  clear b6 hown6
  go_wp2_with fail
  go_loopw [21] (fun j wr => ∃ (k : Nat) (ys : List Int), k ≤ P.length ∧ j = .int .i64 k ∧ ys.length = P.length ∧ wr.ownsRow w4.heap.size 5 1 (.slice A5 P.length c5) P.length (ints .u8 ys) ∧ Below w4.heap.size w4 wr) (fun j _ => P.length - (intOf j).toNat)
  case atStart => exact ⟨0, P.map (fun b => (b.toNat : Int)), Nat.zero_le _, rfl, by simp, by rw [show ints .u8 (P.map (fun b => (b.toNat : Int))) = bcs P by simp [ints, bcs, Lib.byteCells, Function.comp_def]]; exact HO6.out, H46.out⟩
  case round =>
    obtain ⟨k, ys, hk, rfl, hys, hown, hb⟩ := hrel
    by_cases hkl : k < P.length
    · have hki : (k : Int) < (P.length : Int) := by omega
      obtain ⟨g5, rfl⟩ : ∃ g5, A5 = some ⟨g5, 0, none⟩ := by
        rcases hown.2 with ⟨_, hz⟩ | ⟨g5, cap5, _, hv, _⟩
        · omega
        · injection hv with hv _ _; exact ⟨g5, hv⟩
      obtain ⟨y, hy⟩ : ∃ y, ys[k]? = some y := ⟨_, List.getElem?_eq_getElem (by omega)⟩
      have hcy := hown.cellAt k (by omega)
      rw [ints_at hy] at hcy
      have hfy := hown.frozenAt k
      have hlt := (hown.lt g5 rfl).1
      have hst : ∀ z : Int, (wr.setCell ⟨g5, k, none⟩ (.int .u8 z)).ownsRow w4.heap.size 5 1 (.slice (some ⟨g5, 0, none⟩) P.length c5) P.length (ints .u8 (ys.set k z)) := fun z => by
        have := (hown.stored k (.int .u8 z)).1
        rwa [show (ints .u8 ys).set k (.int .u8 z) = ints .u8 (ys.set k z) by simp [ints, List.map_set]] at this
      have HST := Lib.hid hst; have HB := Lib.hid hb; have HYS := Lib.hid hys
      clear hst hb hys hown hy
      go_wp2_with fail
      go_roundw
      case rel => exact ⟨k + 1, ys.set k _, by omega, by go_num, List.length_set.trans HYS.out, HST.out _, HB.out.setCell (by exact hlt) _⟩
      case measure => simp [intOf]; omega
    · obtain rfl : k = P.length := by omega
      have HB := Lib.hid hb
      clear hown hb
      go_wp2_with fail
      refine (H8.out g cap (by omega) _ ((HR0.out.below HB4.out).below HB.out) ((HM1.out.below HB4.out).below HB.out)).mono ?_
      rintro e w8 ⟨rfl, b8⟩
      have HB8 := Lib.hid (((HB1.out.trans (HB4.out.mono HB1.out.size)).trans (HB.out.mono (HB1.out.trans (HB4.out.mono HB1.out.size)).size)))
      go_wp2_with fail
      refine (awake _).mono ?_
      rintro e w9 ⟨rfl, b9⟩
      go_wp2
      go_ret
      have hb := HB8.out.trans (b8.mono HB8.out.size)
      exact ⟨rfl, hb.trans (b9.mono hb.size)⟩
theorem law (l : List UInt8) (i n : Int) (A : Option Addr) (c : Nat) (w : World) (h : Rd w A (bcs l)) : Calls Try.prog 3 #[.slice A l.length c, .int .i64 i, .int .i64 n] w fun e w' => e = .returned (.bool true) ∧ Below w.heap.size w w' := by
  by_cases h6 : 600 < l.length
  · exact law0 l i n A c h6 w
  · rcases one_byte l i with ⟨x, h1, h2⟩ | ⟨h1, h2⟩
    · exact law1 l i n A c (by omega) x h1 h2 w h
    · exact law2 l i n A c (by omega) h1 h2 w h
end Go.Proofs.Ytjliaojanmbicaa.memoryLoads
