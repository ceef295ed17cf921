/- Regions: a place for one more; no condition. -/
import Derived.Test.YtcgpndjidommlaaRows
import Derived.Test.YtcgpndjidommlaaRegE
namespace Go.Proofs.Ytcgpndjidommlaa.reg
open Go Go.ChangeShapes Go.WideShapes Go.ChangeAt Go.RowKit
set_option maxHeartbeats 1000000 in
theorem index_place (B : Nat) (f : Reg → Bool) (l : List Reg) (A : Option Addr) (c : Nat) (h63 : l.length ≤ 1000000) (w : World) (h : Rd w A (regCells l))
    (hf : ∀ W : World, Below w.heap.size w W → ∀ p ∈ l, Calls Try.prog 24 #[.agg #[.int .i64 p.1, .int .i64 p.2], .pointer (some ⟨B, 0, none⟩)] W fun e w' => e = .returned (.bool (f p)) ∧ Below W.heap.size W w') :
    Calls Try.prog 26 #[.slice A l.length c, .func (.func 24) #[] #[.pointer (some ⟨B, 0, none⟩)]] w fun e w' => e = .returned (.int .i64 (firstI f l)) ∧ Below w.heap.size w w' := by
  have h63' : (l.length : Int) ≤ 1000000 := by omega
  have H := Lib.hid h; have HF := Lib.hid hf
  clear h hf
  go_enter Try.func26, Try.ntmps26
  go_wp2
  go_loopw [8] (fun i wr => ∃ k : Nat, k ≤ l.length ∧ i = .int .i64 k ∧ (∀ (j : Nat) (p : Reg), j < k → l[j]? = some p → f p = false) ∧ Below w.heap.size w wr) (fun i _ => l.length - (intOf i).toNat)
  case atStart => exact ⟨0, Nat.zero_le _, rfl, (fun j p hj => absurd hj (Nat.not_lt_zero _)), Below.refl _ _⟩
  case round =>
    obtain ⟨k, hk, rfl, hno, hb⟩ := hrel
    have HB := Lib.hid hb; have HN := Lib.hid hno; have hz := hb.size
    clear hb hno
    by_cases hkl : k < l.length
    · have hki : (k : Int) < (l.length : Int) := by omega
      obtain ⟨b, off, rfl, hlt⟩ := H.out.addr (by rw [regCells_length]; omega)
      obtain ⟨p, hp⟩ : ∃ p, l[k]? = some p := ⟨l[k], List.getElem?_eq_getElem hkl⟩
      have hr := H.out.below HB.out
      have hw := regCells_at l k _ hp
      have c0 := hr.cell hw.1
      have c1 := hr.cell hw.2
      rw [← Nat.add_assoc] at c1
      have T := HF.out wr HB.out p (List.mem_of_getElem? hp)
      have HP := Lib.hid hp
      clear hw hp hr
      cases hfp : f p with
      | true =>
        rw [hfp] at T
        have HT := Lib.hid T; have HFP := Lib.hid hfp
        clear T hfp
        go_wp2_with fail
        refine HT.out.mono ?_
        rintro e w1 ⟨rfl, b1⟩
        have B1 := Lib.hid (HB.out.trans (b1.mono hz)); clear b1
        go_wp2
        go_ret
        exact ⟨by rw [firstI_at f l k p HP.out HFP.out HN.out]; rfl, B1.out⟩
      | false =>
        rw [hfp] at T
        have HT := Lib.hid T; have HFP := Lib.hid hfp
        clear T hfp
        go_wp2_with fail
        refine HT.out.mono ?_
        rintro e w1 ⟨rfl, b1⟩
        have B1 := Lib.hid (HB.out.trans (b1.mono hz)); clear b1
        go_wp2
        go_roundw
        case rel => exact ⟨k + 1, by omega, by go_num, (fun j q hj hq => (Nat.lt_or_eq_of_le (Nat.lt_succ_iff.1 hj)).elim (fun h => HN.out j q h hq) (fun h => by subst h; rw [HP.out] at hq; injection hq with hq; subst hq; exact HFP.out)), B1.out⟩
        case measure => simp [intOf]; omega
    · obtain rfl : k = l.length := by omega
      go_wp2
      go_ret
      exact ⟨by rw [firstI_none f l HN.out]; rfl, HB.out⟩
theorem contains_place (B : Nat) (f : Reg → Bool) (l : List Reg) (A : Option Addr) (c : Nat) (h63 : l.length ≤ 1000000) (w : World) (h : Rd w A (regCells l))
    (hf : ∀ W : World, Below w.heap.size w W → ∀ p ∈ l, Calls Try.prog 24 #[.agg #[.int .i64 p.1, .int .i64 p.2], .pointer (some ⟨B, 0, none⟩)] W fun e w' => e = .returned (.bool (f p)) ∧ Below W.heap.size W w') :
    Calls Try.prog 23 #[.slice A l.length c, .func (.func 24) #[] #[.pointer (some ⟨B, 0, none⟩)]] w fun e w' => e = .returned (.bool (l.any f)) ∧ Below w.heap.size w w' := by
  have T := index_place B f l A c h63 w h hf
  have HT := Lib.hid T; have HI := Lib.hid (firstI_any f l)
  generalize firstI f l = z at *
  clear T h hf h63
  go_enter Try.func23, Try.ntmps23
  go_wp2_with fail
  refine HT.out.mono ?_
  rintro e w1 ⟨rfl, b1⟩
  have B1 := Lib.hid b1; clear b1
  go_wp2
  go_ret
  exact ⟨by rw [HI.out]; rfl, B1.out⟩
theorem place1 (b s base size : Int) (B : Nat) (w : World) (hB : w.heap[B]? = some (.cells #[.int .i64 base, .int .i64 size] 23 (0, 0))) : Calls Try.prog 24 #[.agg #[.int .i64 b, .int .i64 s], .pointer (some ⟨B, 0, none⟩)] w fun e w' => e = .returned (.bool (!apartR b s base size)) ∧ Below w.heap.size w w' := by
  have T := apart b s base size (w.alloc (.cells #[.int .i64 b, .int .i64 s] 23))
  have h1 := blk_alloc hB (.cells #[.int .i64 b, .int .i64 s] 23)
  have c0 := blk_cell h1 0; have c1 := blk_cell h1 1
  have HT := Lib.hid T
  clear T hB h1
  generalize apartR b s base size = r at *
  go_enter Try.func24, Try.ntmps24
  go_wp2_with fail
  refine HT.out.mono ?_
  rintro e w1 ⟨rfl, b1⟩
  have B1 := Lib.hid (below_alloc b1); clear b1 c0 c1
  go_wp2
  go_ret
  exact ⟨rfl, B1.out⟩
/-! ### The plain part -/
def fitsAt (l : List Reg) (size base : Int) : Bool := decide (base + size ≤ 4096) && !(l.any fun p => !apartR p.1 p.2 base size)
def placeB (l : List Reg) (size : Int) : Option Nat := (List.range 1024).find? fun k => fitsAt l size (4 * (k : Int))
def placeV (l : List Reg) (size : Int) : Reg × Int :=
  if 64 < l.length then ((0, 0), 2) else if allE l = 0 then (if mayR 0 size = true then (match placeB l size with | some k => ((4 * (k : Int), size), 0) | none => ((0, 0), 4)) else ((0, 0), 2)) else ((0, 0), allE l)
theorem placeV_long {l : List Reg} {size : Int} (h : 64 < l.length) : placeV l size = ((0, 0), 2) := by unfold placeV; rw [if_pos h]
theorem placeV_all {l : List Reg} {size : Int} (h : ¬ 64 < l.length) (h2 : ¬ allE l = 0) : placeV l size = ((0, 0), allE l) := by unfold placeV; rw [if_neg h, if_neg h2]
theorem placeV_arg {l : List Reg} {size : Int} (h : ¬ 64 < l.length) (h2 : allE l = 0) (h3 : mayR 0 size = false) : placeV l size = ((0, 0), 2) := by unfold placeV; rw [if_neg h, if_pos h2, if_neg (by rw [h3]; decide)]
theorem find_first {p : Nat → Bool} : ∀ {n k : Nat}, k < n → p k = true → (∀ j, j < k → p j = false) → (List.range n).find? p = some k := by
  intro n k hk hp hn
  rw [List.find?_eq_some_iff_getElem]
  exact ⟨hp, k, by simpa using hk, by simp, fun j hj => by simp [hn j hj]⟩
theorem find_none {p : Nat → Bool} {n : Nat} (hn : ∀ j, j < n → p j = false) : (List.range n).find? p = none := by
  rw [List.find?_eq_none]
  intro x hx
  simp [hn x (by simpa using hx)]
theorem placeV_some {l : List Reg} {size : Int} (h : ¬ 64 < l.length) (h2 : allE l = 0) (h3 : mayR 0 size = true) (k : Nat) (hk : fitsAt l size (4 * (k : Int)) = true) (hn : ∀ j : Nat, j < k → fitsAt l size (4 * (j : Int)) = false) : placeV l size = ((4 * (k : Int), size), 0) := by
  have hs := (mayR_iff.1 h3)
  have h5 : 4 * (k : Int) + size ≤ 4096 := by
    unfold fitsAt at hk; rw [Bool.and_eq_true] at hk; exact of_decide_eq_true hk.1
  unfold placeV placeB; rw [if_neg h, if_pos h2, if_pos h3, find_first (p := fun k : Nat => fitsAt l size (4 * (k : Int))) (by omega) hk hn]
theorem placeV_none {l : List Reg} {size : Int} (h : ¬ 64 < l.length) (h2 : allE l = 0) (h3 : mayR 0 size = true) (hn : ∀ j : Nat, j < 1024 → fitsAt l size (4 * (j : Int)) = false) : placeV l size = ((0, 0), 4) := by
  unfold placeV placeB; rw [if_neg h, if_pos h2, if_pos h3, find_none (p := fun k : Nat => fitsAt l size (4 * (k : Int))) hn]
def PlaceOk (l : List Reg) (size : Int) (w : World) (e : Ending) (w' : World) : Prop :=
  e = .returned (.tuple #[.agg #[.int .i64 (placeV l size).1.1, .int .i64 (placeV l size).1.2], .int .i64 (placeV l size).2]) ∧ Below w.heap.size w w'
theorem PlaceOk.mk {l : List Reg} {size x y E : Int} {w w' : World} (h : placeV l size = ((x, y), E)) (hb : Below w.heap.size w w') : PlaceOk l size w (.returned (.tuple #[.agg #[.int .i64 x, .int .i64 y], .int .i64 E])) w' := by
  unfold PlaceOk; rw [h]; exact ⟨rfl, hb⟩
theorem place_long (l : List Reg) (A : Option Addr) (c : Nat) (hc : l.length ≤ c) (h63 : l.length ≤ 1000000) (size : Int) (hl : 64 < l.length) (w : World) : Calls Try.prog 16 #[.slice A l.length c, .int .i64 size] w (PlaceOk l size w) := by
  have HV := Lib.hid (placeV_long (size := size) hl)
  have h1 : (64 : Int) < (l.length : Int) := by omega
  have hX := (Below.refl w.heap.size w).alloc (Nat.le_refl _) (.cells #[.int .i64 0, .int .i64 0] 23)
  have _ := hc
  have _ := h63
  clear hc h63
  go_enter Try.func16, Try.ntmps16
  go_wp2
  exact ret_row_tmp rfl w.heap.size 23 _ _ rfl (blk_eq (blk_new w _ _) rfl) Try.underlying23 rfl (by kernel_rfl) rfl (PlaceOk.mk HV.out hX)
set_option maxHeartbeats 1000000 in
theorem place_all (l : List Reg) (A : Option Addr) (c : Nat) (hc : l.length ≤ c) (h63 : l.length ≤ 1000000) (size : Int) (hl : ¬ 64 < l.length) (hE : ¬ allE l = 0) (w : World) (h : Rd w A (regCells l)) : Calls Try.prog 16 #[.slice A l.length c, .int .i64 size] w (PlaceOk l size w) := by
  have _ := hc
  have HR := Lib.hid (blk_new w #[.int .i64 0, .int .i64 0] 23)
  have hX := (Below.refl w.heap.size w).alloc (Nat.le_refl _) (.cells #[.int .i64 0, .int .i64 0] 23)
  have hsz : (w.alloc (.cells #[.int .i64 0, .int .i64 0] 23)).heap.size = w.heap.size + 1 := by simp
  have T := all_any l A c hc h63 (w.alloc (.cells #[.int .i64 0, .int .i64 0] 23)) (h.below hX)
  have HT := Lib.hid T; clear T h
  have HV := Lib.hid (placeV_all (size := size) hl hE)
  have h1 : ¬ (64 : Int) < (l.length : Int) := by omega
  have h2 : (allE l == 0) = false := by simpa using hE
  clear hc h63 hE
  generalize allE l = E at *
  go_enter Try.func16, Try.ntmps16
  go_wp2_with fail
  refine HT.out.mono ?_
  rintro e w1 ⟨rfl, b1⟩
  have g1 := blk_below HR.out b1 (by omega)
  have r10 := blk_cell g1 0; have r11 := blk_cell g1 1; have f10 := blk_frozen g1 0; have f11 := blk_frozen g1 1
  have G1 := Lib.hid g1; clear g1
  have B1 := Lib.hid (hX.trans (b1.mono (by omega))); clear b1
  go_wp2
  exact ret_row_tmp rfl w.heap.size 23 _ _ rfl (blk_eq (blk_set (blk_set G1.out _ _) _ _) rfl) Try.underlying23 rfl (by kernel_rfl) rfl (PlaceOk.mk HV.out ((B1.out.setCell (p := ⟨w.heap.size, 0, none⟩) (Nat.le_refl _) _).setCell (p := ⟨w.heap.size, 1, none⟩) (Nat.le_refl _) _))
set_option maxHeartbeats 1000000 in
theorem place_arg (l : List Reg) (A : Option Addr) (c : Nat) (hc : l.length ≤ c) (h63 : l.length ≤ 1000000) (size : Int) (hl : ¬ 64 < l.length) (hE : allE l = 0) (hm : mayR 0 size = false) (w : World) (h : Rd w A (regCells l)) : Calls Try.prog 16 #[.slice A l.length c, .int .i64 size] w (PlaceOk l size w) := by
  have _ := hc
  have HR := Lib.hid (blk_new w #[.int .i64 0, .int .i64 0] 23)
  have hX := (Below.refl w.heap.size w).alloc (Nat.le_refl _) (.cells #[.int .i64 0, .int .i64 0] 23)
  have hsz : (w.alloc (.cells #[.int .i64 0, .int .i64 0] 23)).heap.size = w.heap.size + 1 := by simp
  have T := all_any l A c hc h63 (w.alloc (.cells #[.int .i64 0, .int .i64 0] 23)) (h.below hX)
  rw [hE] at T
  have T2 := may 0 size
  rw [hm] at T2
  have HT := Lib.hid T; have HT2 := Lib.hid T2; have H := Lib.hid (h.below hX); clear T h T2
  have h1 : ¬ (64 : Int) < (l.length : Int) := by omega
  have HV := Lib.hid (placeV_arg (size := size) hl hE hm)
  clear hc h63 hE hm
  go_enter Try.func16, Try.ntmps16
  go_wp2_with fail
  refine HT.out.mono ?_
  rintro e w1 ⟨rfl, b1⟩
  have G1 := Lib.hid (blk_below HR.out b1 (by omega)); have z1 := b1.size
  have B1 := Lib.hid (hX.trans (b1.mono (by omega))); clear b1
  go_wp2_with fail
  refine (HT2.out _).mono ?_
  rintro e w2 ⟨rfl, b2⟩
  have g2 := blk_below G1.out b2 (by omega)
  have r20 := blk_cell g2 0; have r21 := blk_cell g2 1; have f20 := blk_frozen g2 0; have f21 := blk_frozen g2 1
  have G2 := Lib.hid g2; clear g2
  have B2 := Lib.hid (B1.out.trans (b2.mono (by omega))); clear b2
  go_wp2
  exact ret_row_tmp rfl w.heap.size 23 _ _ rfl (blk_eq (blk_set (blk_set G2.out _ _) _ _) rfl) Try.underlying23 rfl (by kernel_rfl) rfl (PlaceOk.mk HV.out ((B2.out.setCell (p := ⟨w.heap.size, 0, none⟩) (Nat.le_refl _) _).setCell (p := ⟨w.heap.size, 1, none⟩) (Nat.le_refl _) _))
set_option maxRecDepth 100000 in
set_option maxHeartbeats 4000000 in
theorem place_go (l : List Reg) (A : Option Addr) (c : Nat) (hc : l.length ≤ c) (h63 : l.length ≤ 1000000) (size : Int) (hl : ¬ 64 < l.length) (hE : allE l = 0) (hm : mayR 0 size = true) (w : World) (h : Rd w A (regCells l)) : Calls Try.prog 16 #[.slice A l.length c, .int .i64 size] w (PlaceOk l size w) := by
  have _ := hc
  have HR := Lib.hid (blk_new w #[.int .i64 0, .int .i64 0] 23)
  have hX := (Below.refl w.heap.size w).alloc (Nat.le_refl _) (.cells #[.int .i64 0, .int .i64 0] 23)
  have hsz : (w.alloc (.cells #[.int .i64 0, .int .i64 0] 23)).heap.size = w.heap.size + 1 := by simp
  have T := all_any l A c hc h63 (w.alloc (.cells #[.int .i64 0, .int .i64 0] 23)) (h.below hX)
  rw [hE] at T
  have T2 := may 0 size
  rw [hm] at T2
  have HT := Lib.hid T; have HT2 := Lib.hid T2; have H := Lib.hid (h.below hX); clear T h T2
  have h1 : ¬ (64 : Int) < (l.length : Int) := by omega
  have HV := Lib.hid (fun k hk hn => placeV_some (l := l) (size := size) hl hE hm k hk hn)
  have HN := Lib.hid (fun hn => placeV_none (l := l) (size := size) hl hE hm hn)
  obtain ⟨_, _, _, hs4, hs1, hs2, _⟩ := mayR_iff.1 hm
  clear hc hE hm hs4
  go_enter Try.func16, Try.ntmps16
  go_wp2_with fail
  refine HT.out.mono ?_
  rintro e w1 ⟨rfl, b1⟩
  have G1 := Lib.hid (blk_below HR.out b1 (by omega)); have z1 := b1.size
  have B1 := Lib.hid (hX.trans (b1.mono (by omega))); have H1 := Lib.hid (H.out.below b1); clear b1
  go_wp2_with fail
  refine (HT2.out _).mono ?_
  rintro e w2 ⟨rfl, b2⟩
  have G2 := Lib.hid (blk_below G1.out b2 (by omega)); have z2 := b2.size
  have B2 := Lib.hid (B1.out.trans (b2.mono (by omega))); have H2 := Lib.hid (H1.out.below b2); clear b2
  go_wp2_with fail
  go_loopw [7] (fun i wr => ∃ k : Nat, k ≤ 1024 ∧ i = .int .i64 (4 * (k : Int)) ∧ (∀ j : Nat, j < k → fitsAt l size (4 * (j : Int)) = false) ∧ Below w2.heap.size w2 wr) (fun i _ => (5000 - intOf i).toNat)
  case atStart => exact ⟨0, by omega, rfl, (fun j hj => absurd hj (Nat.not_lt_zero _)), Below.refl _ _⟩
  case round =>
    obtain ⟨k, hk, rfl, hno, hb⟩ := hrel
    have HB := Lib.hid hb; have HNO := Lib.hid hno; have hz := hb.size
    clear hb hno
    by_cases hfit : 4 * (k : Int) + size ≤ 4096
    · have hXr := (Below.refl wr.heap.size wr).alloc (Nat.le_refl _) (.cells #[.int .i64 (4 * (k : Int)), .int .i64 size] 23)
      have gr := blk_new wr #[.int .i64 (4 * (k : Int)), .int .i64 size] 23
      have TC := contains_place wr.heap.size (fun p => !apartR p.1 p.2 (4 * (k : Int)) size) l A c h63 _ ((H2.out.below HB.out).below hXr) (fun W hW p _ => place1 p.1 p.2 (4 * (k : Int)) size wr.heap.size W (blk_below gr hW (by simp)))
      have HFA := Lib.hid (show fitsAt l size (4 * (k : Int)) = !(l.any fun p => !apartR p.1 p.2 (4 * (k : Int)) size) by unfold fitsAt; rw [decide_eq_true hfit, Bool.true_and])
      have HGR := Lib.hid gr; have HXR := Lib.hid hXr
      clear gr hXr
      have e4 : IntKind.i64.wrap (4 * (k : Int) + 4) = 4 * (k : Int) + 4 := IntWalk.i64_in _ (by omega)
      cases hany : (l.any fun p => !apartR p.1 p.2 (4 * (k : Int)) size) with
      | false =>
        rw [hany] at TC HFA
        have HTC := Lib.hid TC
        clear TC hany
        go_wp2_with fail
        refine HTC.out.mono ?_
        rintro e w3 ⟨rfl, b3⟩
        have q := blk_below HGR.out b3 (by simp)
        have q0 := blk_cell q 0; have q1 := blk_cell q 1
        have b3' := HB.out.trans ((HXR.out.trans (b3.mono HXR.out.size)).mono hz)
        have g3 := blk_below G2.out b3' (by omega)
        have r30 := blk_cell g3 0; have r31 := blk_cell g3 1; have f30 := blk_frozen g3 0; have f31 := blk_frozen g3 1
        have G3 := Lib.hid g3; have B3 := Lib.hid (B2.out.trans (b3'.mono (by omega)))
        clear g3 b3 b3' q
        go_wp2
        exact ret_row_tmp rfl w.heap.size 23 _ _ rfl (blk_eq (blk_set (blk_set G3.out _ _) _ _) rfl) Try.underlying23 rfl (by kernel_rfl) rfl (PlaceOk.mk (HV.out k (by rw [HFA.out]; rfl) HNO.out) ((B3.out.setCell (p := ⟨w.heap.size, 0, none⟩) (Nat.le_refl _) _).setCell (p := ⟨w.heap.size, 1, none⟩) (Nat.le_refl _) _))
      | true =>
        rw [hany] at TC HFA
        have HTC := Lib.hid TC
        clear TC hany
        go_wp2_with fail
        refine HTC.out.mono ?_
        rintro e w3 ⟨rfl, b3⟩
        have B3 := Lib.hid (HB.out.trans ((HXR.out.trans (b3.mono HXR.out.size)).mono hz))
        clear b3
        go_wp2_with fail
        go_roundw
        case rel => exact ⟨k + 1, by omega, by (congr 1) <;> omega, (fun j hj => (Nat.lt_or_eq_of_le (Nat.lt_succ_iff.1 hj)).elim (fun h => HNO.out j h) (fun h => by subst h; rw [HFA.out]; rfl)), B3.out⟩
        case measure => simp [intOf]; omega
    · have g3 := blk_below G2.out HB.out (by omega)
      have r30 := blk_cell g3 0; have r31 := blk_cell g3 1; have f30 := blk_frozen g3 0; have f31 := blk_frozen g3 1
      have G3 := Lib.hid g3; have B3 := Lib.hid (B2.out.trans (HB.out.mono (by omega)))
      clear g3
      go_wp2
      exact ret_row_tmp rfl w.heap.size 23 _ _ rfl (blk_eq (blk_set (blk_set G3.out _ _) _ _) rfl) Try.underlying23 rfl (by kernel_rfl) rfl (PlaceOk.mk (HN.out (fun j hj => by by_cases hjk : j < k; exact HNO.out j hjk; unfold fitsAt; rw [decide_eq_false (by omega)]; rfl)) ((B3.out.setCell (p := ⟨w.heap.size, 0, none⟩) (Nat.le_refl _) _).setCell (p := ⟨w.heap.size, 1, none⟩) (Nat.le_refl _) _))
theorem place (l : List Reg) (A : Option Addr) (c : Nat) (hc : l.length ≤ c) (h63 : l.length ≤ 1000000) (size : Int) (w : World) (h : Rd w A (regCells l)) : Calls Try.prog 16 #[.slice A l.length c, .int .i64 size] w (PlaceOk l size w) := by
  have _ := hc
  by_cases hl : 64 < l.length
  · exact place_long l A c hc h63 size hl w
  by_cases hE : allE l = 0
  · cases hm : mayR 0 size with
    | false => exact place_arg l A c hc h63 size hl hE hm w h
    | true => exact place_go l A c hc h63 size hl hE hm w h
  · exact place_all l A c hc h63 size hl hE w h
set_option maxHeartbeats 1000000 in
theorem rplace_bad (l : List Reg) (A : Option Addr) (c : Nat) (hc : l.length ≤ c) (h63 : l.length ≤ 1000000) (size : Int) (hl : 64 < l.length ∨ (¬ 64 < l.length ∧ ¬ allE l = 0)) (w : World) (h : Rd w A (regCells l)) : Calls Try.prog 17 #[.slice A l.length c, .int .i64 size] w (PlaceOk l size w) := by
  have _ := hc
  have HR := Lib.hid (blk_new w #[.int .i64 0, .int .i64 0] 23)
  have hX := (Below.refl w.heap.size w).alloc (Nat.le_refl _) (.cells #[.int .i64 0, .int .i64 0] 23)
  have hsz : (w.alloc (.cells #[.int .i64 0, .int .i64 0] 23)).heap.size = w.heap.size + 1 := by simp
  have T := rall l A c h63 (w.alloc (.cells #[.int .i64 0, .int .i64 0] 23)) (h.below hX)
  have HT := Lib.hid T; clear T h
  rcases hl with hl | ⟨hl, hE⟩
  · have HV := Lib.hid (placeV_long (size := size) hl)
    have h1 : (64 : Int) < (l.length : Int) := by omega
    clear hc h63
    generalize allE l = E at *
    go_enter Try.func17, Try.ntmps17
    go_wp2_with fail
    refine HT.out.mono ?_
    rintro e w1 ⟨rfl, b1⟩
    have g1 := blk_below HR.out b1 (by omega)
    have r10 := blk_cell g1 0; have r11 := blk_cell g1 1; have f10 := blk_frozen g1 0; have f11 := blk_frozen g1 1
    have G1 := Lib.hid g1; clear g1
    have B1 := Lib.hid (hX.trans (b1.mono (by omega))); clear b1
    go_wp2
    exact ret_row_tmp rfl w.heap.size 23 _ _ rfl (blk_eq (blk_set (blk_set G1.out _ _) _ _) rfl) Try.underlying23 rfl (by kernel_rfl) rfl (PlaceOk.mk HV.out ((B1.out.setCell (p := ⟨w.heap.size, 0, none⟩) (Nat.le_refl _) _).setCell (p := ⟨w.heap.size, 1, none⟩) (Nat.le_refl _) _))
  · have HV := Lib.hid (placeV_all (size := size) hl hE)
    have h1 : ¬ (64 : Int) < (l.length : Int) := by omega
    have h2 : (allE l == 0) = false := by simpa using hE
    clear hc h63 hE
    generalize allE l = E at *
    go_enter Try.func17, Try.ntmps17
    go_wp2_with fail
    refine HT.out.mono ?_
    rintro e w1 ⟨rfl, b1⟩
    have g1 := blk_below HR.out b1 (by omega)
    have r10 := blk_cell g1 0; have r11 := blk_cell g1 1; have f10 := blk_frozen g1 0; have f11 := blk_frozen g1 1
    have G1 := Lib.hid g1; clear g1
    have B1 := Lib.hid (hX.trans (b1.mono (by omega))); clear b1
    go_wp2
    exact ret_row_tmp rfl w.heap.size 23 _ _ rfl (blk_eq (blk_set (blk_set G1.out _ _) _ _) rfl) Try.underlying23 rfl (by kernel_rfl) rfl (PlaceOk.mk HV.out ((B1.out.setCell (p := ⟨w.heap.size, 0, none⟩) (Nat.le_refl _) _).setCell (p := ⟨w.heap.size, 1, none⟩) (Nat.le_refl _) _))
set_option maxHeartbeats 1000000 in
theorem rplace_arg (l : List Reg) (A : Option Addr) (c : Nat) (hc : l.length ≤ c) (h63 : l.length ≤ 1000000) (size : Int) (hl : ¬ 64 < l.length) (hE : allE l = 0) (hm : mayR 0 size = false) (w : World) (h : Rd w A (regCells l)) : Calls Try.prog 17 #[.slice A l.length c, .int .i64 size] w (PlaceOk l size w) := by
  have _ := hc
  have HR := Lib.hid (blk_new w #[.int .i64 0, .int .i64 0] 23)
  have hX := (Below.refl w.heap.size w).alloc (Nat.le_refl _) (.cells #[.int .i64 0, .int .i64 0] 23)
  have hsz : (w.alloc (.cells #[.int .i64 0, .int .i64 0] 23)).heap.size = w.heap.size + 1 := by simp
  have T := rall l A c h63 (w.alloc (.cells #[.int .i64 0, .int .i64 0] 23)) (h.below hX)
  rw [hE] at T
  have T2 := rmay 0 size
  rw [hm] at T2
  have HT := Lib.hid T; have HT2 := Lib.hid T2; have H := Lib.hid (h.below hX); clear T h T2
  have h1 : ¬ (64 : Int) < (l.length : Int) := by omega
  have HV := Lib.hid (placeV_arg (size := size) hl hE hm)
  clear hc h63 hE hm
  go_enter Try.func17, Try.ntmps17
  go_wp2_with fail
  refine HT.out.mono ?_
  rintro e w1 ⟨rfl, b1⟩
  have G1 := Lib.hid (blk_below HR.out b1 (by omega)); have z1 := b1.size
  have B1 := Lib.hid (hX.trans (b1.mono (by omega))); clear b1
  go_wp2_with fail
  refine (HT2.out _).mono ?_
  rintro e w2 ⟨rfl, b2⟩
  have g2 := blk_below G1.out b2 (by omega)
  have r20 := blk_cell g2 0; have r21 := blk_cell g2 1; have f20 := blk_frozen g2 0; have f21 := blk_frozen g2 1
  have G2 := Lib.hid g2; clear g2
  have B2 := Lib.hid (B1.out.trans (b2.mono (by omega))); clear b2
  go_wp2
  exact ret_row_tmp rfl w.heap.size 23 _ _ rfl (blk_eq (blk_set (blk_set G2.out _ _) _ _) rfl) Try.underlying23 rfl (by kernel_rfl) rfl (PlaceOk.mk HV.out ((B2.out.setCell (p := ⟨w.heap.size, 0, none⟩) (Nat.le_refl _) _).setCell (p := ⟨w.heap.size, 1, none⟩) (Nat.le_refl _) _))
/-- What the reference knows of place base behind q regions. -/
def okAt (l : List Reg) (size base : Int) (q : Nat) : Bool := mayR base size && (l.take q).all fun p => apartR p.1 p.2 base size
theorem okAt_succ {l : List Reg} {size base : Int} {q : Nat} {p : Reg} (hp : l[q]? = some p) (h : okAt l size base q = true) : okAt l size base (q + 1) = apartR p.1 p.2 base size := by
  unfold okAt at h ⊢
  rw [Bool.and_eq_true] at h
  rw [take_snoc hp, List.all_append, h.1, h.2]; simp
theorem okAt_mono {l : List Reg} {size base : Int} {q : Nat} (h : okAt l size base q = false) : okAt l size base l.length = false := by
  unfold okAt at h ⊢
  cases hm : mayR base size with
  | false => rfl
  | true =>
    rw [hm, Bool.true_and] at h
    rw [Bool.true_and, List.take_length]
    have e : l = l.take q ++ l.drop q := (List.take_append_drop q l).symm
    rw [e, List.all_append, h]; rfl
theorem okAt_all {l : List Reg} {size : Int} (hm : mayR 0 size = true) {k : Nat} (hk : k < 1024) : okAt l size (4 * (k : Int)) l.length = fitsAt l size (4 * (k : Int)) := by
  unfold okAt fitsAt
  rw [List.take_length]
  have h := mayR_iff.1 hm
  have e : mayR (4 * (k : Int)) size = decide (4 * (k : Int) + size ≤ 4096) := by unfold mayR; rw [decide_eq_decide]; omega
  rw [e, List.not_any_eq_all_not]
  simp
set_option maxRecDepth 100000 in
set_option maxHeartbeats 4000000 in
theorem rplace_go (l : List Reg) (A : Option Addr) (c : Nat) (hc : l.length ≤ c) (h63 : l.length ≤ 1000000) (size : Int) (hl : ¬ 64 < l.length) (hE : allE l = 0) (hm : mayR 0 size = true) (w : World) (h : Rd w A (regCells l)) : Calls Try.prog 17 #[.slice A l.length c, .int .i64 size] w (PlaceOk l size w) := by
  have _ := hc
  have HR := Lib.hid (blk_new w #[.int .i64 0, .int .i64 0] 23)
  have hX := (Below.refl w.heap.size w).alloc (Nat.le_refl _) (.cells #[.int .i64 0, .int .i64 0] 23)
  have hsz : (w.alloc (.cells #[.int .i64 0, .int .i64 0] 23)).heap.size = w.heap.size + 1 := by simp
  have T := rall l A c h63 (w.alloc (.cells #[.int .i64 0, .int .i64 0] 23)) (h.below hX)
  rw [hE] at T
  have T2 := rmay 0 size
  rw [hm] at T2
  have HT := Lib.hid T; have HT2 := Lib.hid T2; have H := Lib.hid (h.below hX); clear T h T2
  have h1 : ¬ (64 : Int) < (l.length : Int) := by omega
  have HV := Lib.hid (fun k hk hn => placeV_some (l := l) (size := size) hl hE hm k hk hn)
  have HN := Lib.hid (fun hn => placeV_none (l := l) (size := size) hl hE hm hn)
  have HOK := Lib.hid (fun k hk => okAt_all (l := l) (size := size) hm (k := k) hk)
  have h63' : (l.length : Int) ≤ 64 := by omega
  clear hc hE hm
  go_enter Try.func17, Try.ntmps17
  go_wp2_with fail
  refine HT.out.mono ?_
  rintro e w1 ⟨rfl, b1⟩
  have G1 := Lib.hid (blk_below HR.out b1 (by omega)); have z1 := b1.size
  have B1 := Lib.hid (hX.trans (b1.mono (by omega))); have H1 := Lib.hid (H.out.below b1); clear b1
  go_wp2_with fail
  refine (HT2.out _).mono ?_
  rintro e w2 ⟨rfl, b2⟩
  have G2 := Lib.hid (blk_below G1.out b2 (by omega)); have z2 := b2.size
  have B2 := Lib.hid (B1.out.trans (b2.mono (by omega))); have H2 := Lib.hid (H1.out.below b2); clear b2
  go_wp2_with fail
  go_loopw [7] (fun i wr => ∃ k : Nat, k ≤ 1024 ∧ i = .int .i64 (4 * (k : Int)) ∧ (∀ j : Nat, j < k → fitsAt l size (4 * (j : Int)) = false) ∧ Below w2.heap.size w2 wr) (fun i _ => (5000 - intOf i).toNat)
  case atStart => exact ⟨0, by omega, rfl, (fun j hj => absurd hj (Nat.not_lt_zero _)), Below.refl _ _⟩
  case round =>
    obtain ⟨wo, rfl⟩ : ∃ wo : World, wo = wr := ⟨_, rfl⟩
    obtain ⟨k, hk, rfl, hno, hb⟩ := hrel
    have HB := Lib.hid hb; have HNO := Lib.hid hno; have hz := hb.size
    clear hb hno
    by_cases hkk : k < 1024
    · have hki : 4 * (k : Int) < 4096 := by omega
      have hOK := Lib.hid (HOK.out k hkk)
      have gr := blk_new wo #[.int .i64 (4 * (k : Int)), .int .i64 size] 23
      have hXr := (Below.refl wo.heap.size wo).alloc (Nat.le_refl _) (.cells #[.int .i64 (4 * (k : Int)), .int .i64 size] 23)
      have T3 := rmay (4 * (k : Int)) size (wo.alloc (.cells #[.int .i64 (4 * (k : Int)), .int .i64 size] 23))
      have e0 : mayR (4 * (k : Int)) size = okAt l size (4 * (k : Int)) 0 := by simp [okAt]
      rw [e0] at T3
      have HT3 := Lib.hid T3; have HGR := Lib.hid gr; have HXR := Lib.hid hXr
      have e4 : IntKind.i64.wrap (4 * (k : Int) + 4) = 4 * (k : Int) + 4 := IntWalk.i64_in _ (by omega)
      clear T3 gr hXr e0
      go_wp2_with fail
      refine HT3.out.mono ?_
      rintro e w3 ⟨rfl, b3⟩
      have Q3 := Lib.hid (blk_below HGR.out b3 (by simp))
      have hq3 : wo.heap.size < w3.heap.size := by have := b3.size; simp at this; omega
      have C3 := Lib.hid (HB.out.trans ((HXR.out.trans (b3.mono HXR.out.size)).mono hz))
      clear b3
      go_wp2_with fail
      go_loopw [9, 10] (fun v i wr => ∃ q : Nat, q ≤ l.length ∧ i = .int .i64 q ∧ v = .bool (okAt l size (4 * (k : Int)) q) ∧ Below w3.heap.size w3 wr) (fun _ i _ => l.length - (intOf i).toNat)
      case atStart => exact ⟨0, Nat.zero_le _, rfl, rfl, Below.refl _ _⟩
      case round =>
        obtain ⟨q, hq, rfl, rfl, hb4⟩ := hrel
        have HB4 := Lib.hid hb4; have hz4 := hb4.size
        clear hb4
        have QR := blk_below Q3.out HB4.out hq3
        have C4 := Lib.hid (C3.out.trans (HB4.out.mono C3.out.size))
        cases hok : okAt l size (4 * (k : Int)) q with
        | true =>
          by_cases hql : q < l.length
          · have hqi : (q : Int) < (l.length : Int) := by omega
            obtain ⟨⟨x2, y2⟩, hp2⟩ : ∃ p, l[q]? = some p := ⟨l[q]'(by omega), List.getElem?_eq_getElem (by omega)⟩
            obtain ⟨b, off, rfl, hlt⟩ := H2.out.addr (by rw [regCells_length]; omega)
            have hr := H2.out.below C4.out
            have hw2 := regCells_at l q _ hp2
            have c2 := hr.cell hw2.1; have c3 := hr.cell hw2.2
            have hltr := hr.lt (by rw [regCells_length]; omega)
            rw [← Nat.add_assoc] at c3
            simp only at c2 c3
            have y2' : ∀ x : Ext wr.heap.size wr, x.world.cell? _ = _ := fun x => (x.cell _ _ hltr).trans c2
            have y3 : ∀ x : Ext wr.heap.size wr, x.world.cell? _ = _ := fun x => (x.cell _ _ hltr).trans c3
            have y4 : ∀ x : Ext wr.heap.size wr, x.world.cell? ⟨wo.heap.size, 0, none⟩ = some (.int .i64 (4 * (k : Int))) := fun x => (x.cell _ _ (blk_lt QR)).trans (blk_cell QR 0)
            have y5 : ∀ x : Ext wr.heap.size wr, x.world.cell? ⟨wo.heap.size, 1, none⟩ = some (.int .i64 size) := fun x => (x.cell _ _ (blk_lt QR)).trans (blk_cell QR 1)
            have T := fun W => rapart x2 y2 (4 * (k : Int)) size W
            have HS := Lib.hid (okAt_succ hp2 hok)
            have HOKQ := Lib.hid hok
            clear hw2 c2 c3 hr hltr hlt hp2 QR hok
            go_wp2_with fail
            refine region_ext (by kernel_rfl) (by kernel_rfl) ?_
            repeat (go_big_quiet_step (exact calls_ext (Nat.le_refl _) (T _)))
            refine wpQuiet_nil ?_
            intro z
            clear y2' y3 y4 y5 T
            have B5 := Lib.hid (HB4.out.trans (z.below.mono hz4))
            go_wp2_with fail
            go_roundw
            case rel => exact ⟨q + 1, by omega, by go_num, by rw [HS.out], B5.out⟩
            case measure => simp [intOf]; omega
          · obtain rfl : q = l.length := by omega
            have g3 := blk_below G2.out C4.out (by omega)
            have r30 := blk_cell g3 0; have r31 := blk_cell g3 1; have f30 := blk_frozen g3 0; have f31 := blk_frozen g3 1
            have q0 := blk_cell QR 0; have q1 := blk_cell QR 1
            have G3 := Lib.hid g3; have B3 := Lib.hid (B2.out.trans (C4.out.mono (by omega)))
            have HK := Lib.hid hok
            clear g3 QR hok
            go_wp2
            exact ret_row_tmp rfl w.heap.size 23 _ _ rfl (blk_eq (blk_set (blk_set G3.out _ _) _ _) rfl) Try.underlying23 rfl (by kernel_rfl) rfl (PlaceOk.mk (HV.out k (by rw [← hOK.out]; exact HK.out) HNO.out) ((B3.out.setCell (p := ⟨w.heap.size, 0, none⟩) (Nat.le_refl _) _).setCell (p := ⟨w.heap.size, 1, none⟩) (Nat.le_refl _) _))
        | false =>
          have HK := Lib.hid (okAt_mono hok)
          clear hok QR
          by_cases hql : (q : Int) < (l.length : Int)
          all_goals
            go_wp2_with fail
            go_roundw
            case rel => exact ⟨k + 1, by omega, by (congr 1) <;> omega, (fun j hj => (Nat.lt_or_eq_of_le (Nat.lt_succ_iff.1 hj)).elim (fun h => HNO.out j h) (fun h => by subst h; rw [← hOK.out]; exact HK.out)), C4.out⟩
            case measure => simp [intOf]; omega
    · obtain rfl : k = 1024 := by omega
      have g3 := blk_below G2.out HB.out (by omega)
      have r30 := blk_cell g3 0; have r31 := blk_cell g3 1; have f30 := blk_frozen g3 0; have f31 := blk_frozen g3 1
      have G3 := Lib.hid g3; have B3 := Lib.hid (B2.out.trans (HB.out.mono (by omega)))
      clear g3
      go_wp2
      exact ret_row_tmp rfl w.heap.size 23 _ _ rfl (blk_eq (blk_set (blk_set G3.out _ _) _ _) rfl) Try.underlying23 rfl (by kernel_rfl) rfl (PlaceOk.mk (HN.out HNO.out) ((B3.out.setCell (p := ⟨w.heap.size, 0, none⟩) (Nat.le_refl _) _).setCell (p := ⟨w.heap.size, 1, none⟩) (Nat.le_refl _) _))
theorem rplace (l : List Reg) (A : Option Addr) (c : Nat) (hc : l.length ≤ c) (h63 : l.length ≤ 1000000) (size : Int) (w : World) (h : Rd w A (regCells l)) : Calls Try.prog 17 #[.slice A l.length c, .int .i64 size] w (PlaceOk l size w) := by
  have _ := hc
  by_cases hl : 64 < l.length
  · exact rplace_bad l A c hc h63 size (.inl hl) w h
  by_cases hE : allE l = 0
  · cases hm : mayR 0 size with
    | false => exact rplace_arg l A c hc h63 size hl hE hm w h
    | true => exact rplace_go l A c hc h63 size hl hE hm w h
  · exact rplace_bad l A c hc h63 size (.inr ⟨hl, hE⟩) w h
theorem of_any (b s : Int) (w : World) : Calls Try.prog 22 #[.int .i64 b, .int .i64 s] w fun e w' => e = .returned (.agg #[.int .i64 b, .int .i64 s]) ∧ Below w.heap.size w w' := by
  have hX := (Below.refl w.heap.size w).alloc (Nat.le_refl _) (.cells #[.int .i64 b, .int .i64 s] 23)
  go_enter Try.func22, Try.ntmps22
  go_wp2
  exact ret_row rfl w.heap.size 23 _ _ rfl (blk_new w _ _) Try.underlying23 rfl (by kernel_rfl) rfl ⟨rfl, hX⟩
end Go.Proofs.Ytcgpndjidommlaa.reg
