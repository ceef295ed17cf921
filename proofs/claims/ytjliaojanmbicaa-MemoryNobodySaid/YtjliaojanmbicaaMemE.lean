/- The reference's Load32. -/
import Derived.Test.YtjliaojanmbicaaRows
import Derived.Test.YtjliaojanmbicaaMemD
namespace Go.Proofs.Ytjliaojanmbicaa.mem
open Go Go.ChangeShapes Go.WideShapes Go.ChangeAt Go.RowKit
theorem rload32_no (l : List UInt8) (A : Option Addr) (c : Nat) (i : Int) (e : Int) (he : thereE l.length i 4 = e) (h0 : (e == 0) = false) (w : World) :
    Calls Try.prog 13 #[.slice A l.length c, .int .i64 i] w fun x w' => x = .returned (.tuple #[.int .u32 0, .int .i64 e]) ∧ w' = w := by
  have T := rread_no l A c i 4 e he h0
  have HT := Lib.hid T; clear T he
  go_enter Try.func13, Try.ntmps13
  go_wp2_with fail
  refine (HT.out _).mono ?_
  rintro x w1 ⟨rfl, rfl⟩
  go_wp2_with fail
  go_loopw [8, 9] (fun x i wr => x = .int .u32 0 ∧ i = .int .i64 0 ∧ wr = w1) (fun _ _ _ => 0)
  case atStart => exact ⟨rfl, rfl, rfl⟩
  case round =>
    obtain ⟨rfl, rfl, rfl⟩ := hrel
    go_wp2_with fail
    refine bodyPost_ret (v := .tuple #[.int .u32 0, .int .i64 e]) (by simp [results, Try.results13, go_sem]) rfl ⟨rfl, rfl⟩
set_option maxHeartbeats 1000000 in
theorem rload32_ok (l : List UInt8) (A : Option Addr) (c a : Nat) (hn : l.length ≤ 512) (hq : a + 4 ≤ l.length) (w : World) (h : Rd w A (bcs l)) :
    Calls Try.prog 13 #[.slice A l.length c, .int .i64 a] w fun e w' => e = .returned (.tuple #[.int .u32 (word4 (l.getD a 0).toNat (l.getD (a + 1) 0).toNat (l.getD (a + 2) 0).toNat (l.getD (a + 3) 0).toNat : Int), .int .i64 0]) ∧ Below w.heap.size w w' := by
  have T := rread_ok l A c a 4 hn hq w h
  have hlen : ((l.drop a).take 4).length = 4 := by simp; omega
  have hx : ∀ j, j < 4 → ((l.drop a).take 4)[j]? = some (l.getD (a + j) 0) := fun j hj => by
    have hlt : a + j < l.length := by omega
    rw [List.getElem?_take, if_pos hj, List.getElem?_drop]
    simp [List.getD, List.getElem?_eq_getElem hlt]
  have hx0 := hx 0 (by decide); have hx1 := hx 1 (by decide); have hx2 := hx 2 (by decide); have hx3 := hx 3 (by decide)
  rw [Nat.add_zero] at hx0
  generalize l.getD a 0 = y0 at *
  generalize l.getD (a + 1) 0 = y1 at *
  generalize l.getD (a + 2) 0 = y2 at *
  generalize l.getD (a + 3) 0 = y3 at *
  generalize (l.drop a).take 4 = L at *
  have g0 := UInt8.toNat_lt y0; have g1 := UInt8.toNat_lt y1; have g2 := UInt8.toNat_lt y2; have g3 := UInt8.toNat_lt y3
  have e0 := bcs_at hx0; have e1 := bcs_at hx1; have e2 := bcs_at hx2; have e3 := bcs_at hx3
  have hw : (word4 y0.toNat y1.toNat y2.toNat y3.toNat : Int) = ((y0.toNat * 256 + y1.toNat) * 256 + y2.toNat) * 256 + y3.toNat := by unfold word4; omega
  generalize (word4 y0.toNat y1.toNat y2.toNat y3.toNat : Int) = W at *
  generalize y0.toNat = x0 at *
  generalize y1.toNat = x1 at *
  generalize y2.toNat = x2 at *
  generalize y3.toNat = x3 at *
  have HW := Lib.hid hw; have HT := Lib.hid T; have HL := Lib.hid hlen
  have HG := Lib.hid (⟨g0, g1, g2, g3⟩ : x0 < 256 ∧ x1 < 256 ∧ x2 < 256 ∧ x3 < 256)
  have HE := Lib.hid (⟨e0, e1, e2, e3⟩ : (bcs L)[0]? = some (.int .u8 (x0 : Int)) ∧ (bcs L)[1]? = some (.int .u8 (x1 : Int)) ∧ (bcs L)[2]? = some (.int .u8 (x2 : Int)) ∧ (bcs L)[3]? = some (.int .u8 (x3 : Int)))
  clear hw T hlen g0 g1 g2 g3 e0 e1 e2 e3 hx hx0 hx1 hx2 hx3
  go_enter Try.func13, Try.ntmps13
  go_wp2_with fail
  refine HT.out.mono ?_
  rintro e w1 ⟨v, rfl, A', c', rfl, hown, hb⟩
  rw [HL.out] at hown
  have hrd := Rd.of_own hown
  obtain ⟨b', off', rfl, _⟩ := hrd.addr (by rw [bcs_length, HL.out]; decide)
  have k0 := hrd.cell HE.out.1; have k1 := hrd.cell HE.out.2.1; have k2 := hrd.cell HE.out.2.2.1; have k3 := hrd.cell HE.out.2.2.2
  rw [Nat.add_zero] at k0
  have HB := Lib.hid hb
  clear hown hrd hb
  have HL2 : L.length = 4 := HL.out
  rw [HL2]
  have HL3 := Lib.hid HL2; clear HL2
  go_wp2_with fail
  go_loopw [8, 9] (fun x i wr => ∃ (k : Nat) (X : Int), x = .int .u32 X ∧ i = .int .i64 k ∧ wr = w1 ∧ ((k = 0 ∧ X = 0) ∨ (k = 1 ∧ X = x0) ∨ (k = 2 ∧ X = x0 * 256 + x1) ∨ (k = 3 ∧ X = (x0 * 256 + x1) * 256 + x2) ∨ (k = 4 ∧ X = W))) (fun _ i _ => 4 - (intOf i).toNat)
  case atStart => exact ⟨0, 0, rfl, rfl, rfl, .inl ⟨rfl, rfl⟩⟩
  case round =>
    obtain ⟨k, X, rfl, rfl, rfl, hs⟩ := hrel
    rcases hs with ⟨rfl, hX⟩ | ⟨rfl, hX⟩ | ⟨rfl, hX⟩ | ⟨rfl, hX⟩ | ⟨rfl, hX⟩
    · have HX := Lib.hid hX; clear hX
      go_wp2_with fail
      go_roundw
      case rel => exact ⟨1, _, rfl, rfl, trivial, .inr (.inl ⟨rfl, by have := HX.out; have := HG.out; omega⟩)⟩
      case measure => simp [intOf]
    · have HX := Lib.hid hX; clear hX
      go_wp2_with fail
      go_roundw
      case rel => exact ⟨2, _, rfl, rfl, trivial, .inr (.inr (.inl ⟨rfl, by have := HX.out; have := HG.out; omega⟩))⟩
      case measure => simp [intOf]
    · have HX := Lib.hid hX; clear hX
      go_wp2_with fail
      go_roundw
      case rel => exact ⟨3, _, rfl, rfl, trivial, .inr (.inr (.inr (.inl ⟨rfl, by have := HX.out; have := HG.out; omega⟩)))⟩
      case measure => simp [intOf]
    · have HX := Lib.hid hX; clear hX
      go_wp2_with fail
      go_roundw
      case rel => exact ⟨4, _, rfl, rfl, trivial, .inr (.inr (.inr (.inr ⟨rfl, by have := HX.out; have := HG.out; have := HW.out; omega⟩)))⟩
      case measure => simp [intOf]
    · have HX := Lib.hid hX; clear hX
      go_wp2_with fail
      refine bodyPost_ret (v := .tuple #[.int .u32 X, .int .i64 0]) (by simp [results, Try.results13, go_sem]) rfl ⟨by rw [HX.out], HB.out⟩
theorem rload32 (l : List UInt8) (A : Option Addr) (c : Nat) (i : Int) (w : World) (h : Rd w A (bcs l)) :
    Calls Try.prog 13 #[.slice A l.length c, .int .i64 i] w fun e w' => e = .returned (.tuple #[.int .u32 (wordAt l i), .int .i64 (thereE l.length i 4)]) ∧ Below w.heap.size w w' := by
  by_cases h1 : 512 < l.length
  · have e := there_long h1 i 4
    rw [show wordAt l i = 0 by unfold wordAt; rw [e]; rfl, e]
    exact (rload32_no l A c i 3 e rfl w).mono fun e w' ⟨he, hw⟩ => ⟨he, hw ▸ Below.refl _ _⟩
  · by_cases h2 : 0 ≤ i ∧ 0 ≤ (4 : Int) ∧ i + 4 ≤ l.length
    · have e := there_in (by omega) h2
      obtain ⟨a, rfl⟩ := Int.eq_ofNat_of_zero_le h2.1
      rw [show wordAt l a = (word4 (l.getD a 0).toNat (l.getD (a + 1) 0).toNat (l.getD (a + 2) 0).toNat (l.getD (a + 3) 0).toNat : Int) by unfold wordAt; rw [if_pos e]; rfl, e]
      exact rload32_ok l A c a (by omega) (by omega) w h
    · have e := there_out (by omega) h2
      rw [show wordAt l i = 0 by unfold wordAt; rw [e]; rfl, e]
      exact (rload32_no l A c i 180 e rfl w).mono fun e w' ⟨he, hw⟩ => ⟨he, hw ▸ Below.refl _ _⟩
end Go.Proofs.Ytjliaojanmbicaa.mem
