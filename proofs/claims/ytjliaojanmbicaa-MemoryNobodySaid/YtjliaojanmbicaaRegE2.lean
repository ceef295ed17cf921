/- Regions: who has a byte; All of the reference; no condition. -/
import Derived.Test.YtjliaojanmbicaaRows
import Derived.Test.YtjliaojanmbicaaRegD
import Derived.Test.YtjliaojanmbicaaLibI
namespace Go.Proofs.Ytjliaojanmbicaa.reg
open Go Go.ChangeShapes Go.WideShapes Go.ChangeAt Go.RowKit
set_option maxHeartbeats 1000000 in
theorem index_holder (B : Nat) (f : Reg → Bool) (l : List Reg) (A : Option Addr) (c : Nat) (h63 : l.length ≤ 1000000) (w : World) (h : Rd w A (regCells l))
    (hf : ∀ W : World, Below w.heap.size w W → ∀ p ∈ l, Calls Try.prog 43 #[.agg #[.int .i64 p.1, .int .i64 p.2], .pointer (some ⟨B, 0, none⟩)] W fun e w' => e = .returned (.bool (f p)) ∧ Below W.heap.size W w') :
    Calls Try.prog 42 #[.slice A l.length c, .func (.func 43) #[] #[.pointer (some ⟨B, 0, none⟩)]] w fun e w' => e = .returned (.int .i64 (firstI f l)) ∧ Below w.heap.size w w' := by
  have h63' : (l.length : Int) ≤ 1000000 := by omega
  have H := Lib.hid h; have HF := Lib.hid hf
  clear h hf
  go_enter Try.func42, Try.ntmps42
  go_wp2
  go_loopw [8] (fun i wr => ∃ k : Nat, k ≤ l.length ∧ i = .int .i64 k ∧ (∀ (j : Nat) (p : Reg), j < k → l[j]? = some p → f p = false) ∧ Below w.heap.size w wr) (fun i _ => l.length - (intOf i).toNat)
  case atStart => exact ⟨0, Nat.zero_le _, rfl, (fun j p hj => absurd hj (Nat.not_lt_zero _)), Below.refl _ _⟩
  case round =>
    obtain ⟨k, hk, rfl, hno, hb⟩ := hrel
    have HB := Lib.hid hb; have HN := Lib.hid hno; have hz := hb.size
    clear hb hno
    by_cases hkl : k < l.length
    · have hki : (k : Int) < (l.length : Int) := by omega
      obtain ⟨b, off, rfl, hlt⟩ := H.out.addr (by rw [regCells_length]; omega)
      obtain ⟨p, hp⟩ : ∃ p, l[k]? = some p := ⟨l[k], List.getElem?_eq_getElem hkl⟩
      have hr := H.out.below HB.out
      have hw := regCells_at l k _ hp
      have c0 := hr.cell hw.1
      have c1 := hr.cell hw.2
      rw [← Nat.add_assoc] at c1
      have T := HF.out wr HB.out p (List.mem_of_getElem? hp)
      have HP := Lib.hid hp
      clear hw hp hr
      cases hfp : f p with
      | true =>
        rw [hfp] at T
        have HT := Lib.hid T; have HFP := Lib.hid hfp
        clear T hfp
        go_wp2_with fail
        refine HT.out.mono ?_
        rintro e w1 ⟨rfl, b1⟩
        have B1 := Lib.hid (HB.out.trans (b1.mono hz)); clear b1
        go_wp2
        go_ret
        exact ⟨by rw [firstI_at f l k p HP.out HFP.out HN.out]; rfl, B1.out⟩
      | false =>
        rw [hfp] at T
        have HT := Lib.hid T; have HFP := Lib.hid hfp
        clear T hfp
        go_wp2_with fail
        refine HT.out.mono ?_
        rintro e w1 ⟨rfl, b1⟩
        have B1 := Lib.hid (HB.out.trans (b1.mono hz)); clear b1
        go_wp2
        go_roundw
        case rel => exact ⟨k + 1, by omega, by go_num, (fun j q hj hq => (Nat.lt_or_eq_of_le (Nat.lt_succ_iff.1 hj)).elim (fun h => HN.out j q h hq) (fun h => by subst h; rw [HP.out] at hq; injection hq with hq; subst hq; exact HFP.out)), B1.out⟩
        case measure => simp [intOf]; omega
    · obtain rfl : k = l.length := by omega
      go_wp2
      go_ret
      exact ⟨by rw [firstI_none f l HN.out]; rfl, HB.out⟩
def holderR (l : List Reg) (x : Int) : Int := firstI (fun p => hasR p.1 p.2 x) l
theorem holder1 (b s x : Int) (B : Nat) (w : World) (hB : w.heap[B]? = some (.cells #[.int .i64 x] 3 (0, 0))) : Calls Try.prog 43 #[.agg #[.int .i64 b, .int .i64 s], .pointer (some ⟨B, 0, none⟩)] w fun e w' => e = .returned (.bool (hasR b s x)) ∧ Below w.heap.size w w' := by
  have T := has b s x (w.alloc (.cells #[.int .i64 b, .int .i64 s] 52))
  have cB := blk_cell (blk_alloc hB (.cells #[.int .i64 b, .int .i64 s] 52)) 0
  have HT := Lib.hid T
  clear T hB
  generalize hasR b s x = r at *
  go_enter Try.func43, Try.ntmps43
  go_wp2_with fail
  refine HT.out.mono ?_
  rintro e w1 ⟨rfl, b1⟩
  have B1 := Lib.hid (below_alloc b1); clear b1 cB
  go_wp2
  go_ret
  exact ⟨rfl, B1.out⟩
theorem holder (l : List Reg) (A : Option Addr) (c : Nat) (x : Int) (h63 : l.length ≤ 1000000) (w : World) (h : Rd w A (regCells l)) : Calls Try.prog 27 #[.slice A l.length c, .int .i64 x] w fun e w' => e = .returned (.int .i64 (holderR l x)) ∧ Below w.heap.size w w' := by
  have hX := (Below.refl w.heap.size w).alloc (Nat.le_refl _) (.cells #[.int .i64 x] 3)
  have T := index_holder w.heap.size (fun p => hasR p.1 p.2 x) l A c h63 _ (h.below hX) (fun W hW p _ => holder1 p.1 p.2 x w.heap.size W (blk_below (blk_new w #[.int .i64 x] 3) hW (by simp)))
  rw [show firstI (fun p : Reg => hasR p.1 p.2 x) l = holderR l x from rfl] at T
  have HT := Lib.hid T; clear T hX h
  generalize holderR l x = z at *
  go_enter Try.func27, Try.ntmps27
  go_wp2_with fail
  refine HT.out.mono ?_
  rintro e w1 ⟨rfl, b1⟩
  have B1 := Lib.hid (below_alloc b1); clear b1
  go_wp2
  go_ret
  exact ⟨rfl, B1.out⟩
theorem mem_upTo_iff (l : List Reg) (m : Nat) (x : Reg × Reg) : x ∈ upTo l m ↔ ∃ i j, i < m ∧ j < l.length - (i + 1) ∧ x = (l[i]?.getD (0, 0), l[i + 1 + j]?.getD (0, 0)) := by
  induction m with
  | zero => simp [upTo]
  | succ m ih =>
    simp only [upTo, List.mem_append, ih, rowOf, List.mem_map, List.mem_range]
    constructor
    · rintro (⟨i, j, h1, h2, h3⟩ | ⟨j, h1, h2⟩)
      · exact ⟨i, j, by omega, h2, h3⟩
      · exact ⟨m, j, by omega, h1, h2.symm⟩
    · rintro ⟨i, j, h1, h2, h3⟩
      by_cases e : i = m
      · subst e; exact .inr ⟨j, h2, h3.symm⟩
      · exact .inl ⟨i, j, by omega, h2, h3⟩
def apartAt (l : List Reg) (i k : Nat) : Bool := apartP (l[i]?.getD (0, 0), l[k]?.getD (0, 0))
theorem apartAt_comm (l : List Reg) (i k : Nat) : apartAt l i k = apartAt l k i := by unfold apartAt apartP; exact apart_comm _ _ _ _
theorem upTo_all_iff (l : List Reg) : (upTo l l.length).all apartP = true ↔ ∀ i k, k < i → i < l.length → apartAt l i k = true := by
  rw [List.all_eq_true]
  constructor
  · intro h i k hk hi
    rw [apartAt_comm]
    exact h _ ((mem_upTo_iff l _ _).2 ⟨k, i - (k + 1), by omega, by omega, by rw [show k + 1 + (i - (k + 1)) = i by omega]⟩)
  · intro h x hx
    obtain ⟨i, j, h1, h2, rfl⟩ := (mem_upTo_iff l _ _).1 hx
    have := h (i + 1 + j) i (by omega) (by omega)
    rw [apartAt_comm] at this
    exact this
theorem allE_bad (l : List Reg) (k : Nat) (p : Reg) (hp : l[k]? = some p) (hm : mayP p = false) : allE l = 2 := by
  unfold allE
  rw [if_neg (fun h => by have := List.all_eq_true.1 h p (List.mem_of_getElem? hp); rw [hm] at this; cases this)]
theorem allE_over (l : List Reg) (h : (l.take l.length).all mayP = true) (i k : Nat) (hk : k < i) (hi : i < l.length) (ha : apartAt l i k = false) : allE l = 121 := by
  rw [List.take_length] at h
  unfold allE
  rw [if_pos h, if_neg (fun h2 => by have := (upTo_all_iff l).1 h2 i k hk hi; rw [ha] at this; cases this)]
theorem allE_ok (l : List Reg) (h : (l.take l.length).all mayP = true) (ha : ∀ i k, k < i → i < l.length → apartAt l i k = true) : allE l = 0 := by
  rw [List.take_length] at h
  unfold allE
  rw [if_pos h, if_pos ((upTo_all_iff l).2 ha)]
set_option maxRecDepth 100000 in
set_option maxHeartbeats 4000000 in
theorem rall (l : List Reg) (A : Option Addr) (c : Nat) (h63 : l.length ≤ 1000000) (w : World) (h : Rd w A (regCells l)) : Calls Try.prog 39 #[.slice A l.length c] w fun e w' => e = .returned (.int .i64 (allE l)) ∧ Below w.heap.size w w' := by
  have h63' : (l.length : Int) ≤ 1000000 := by omega
  have H := Lib.hid h
  clear h
  go_enter Try.func39, Try.ntmps39
  go_wp2
  go_loopw [3] (fun i wr => ∃ k : Nat, k ≤ l.length ∧ i = .int .i64 k ∧ (l.take k).all mayP = true ∧ Below w.heap.size w wr) (fun i _ => l.length - (intOf i).toNat)
  case atStart => exact ⟨0, Nat.zero_le _, rfl, rfl, Below.refl _ _⟩
  case round =>
    obtain ⟨k, hk, rfl, hall, hb⟩ := hrel
    have HB := Lib.hid hb; have HA := Lib.hid hall; have hz := hb.size
    clear hb hall
    by_cases hkl : k < l.length
    · have hki : (k : Int) < (l.length : Int) := by omega
      obtain ⟨b, off, rfl, hlt⟩ := H.out.addr (by rw [regCells_length]; omega)
      obtain ⟨⟨x, y⟩, hp⟩ : ∃ p, l[k]? = some p := ⟨l[k], List.getElem?_eq_getElem hkl⟩
      have hw := regCells_at l k _ hp
      have hr := H.out.below HB.out
      have c0 := hr.cell hw.1; have c1 := hr.cell hw.2
      rw [← Nat.add_assoc] at c1
      simp only at c0 c1
      have T := rmay x y wr
      have HP := Lib.hid hp
      clear hw hp hr
      cases hm : mayR x y with
      | true =>
        rw [hm] at T
        have HT := Lib.hid T; have HM := Lib.hid hm; clear T hm
        go_wp2_with fail
        refine HT.out.mono ?_
        rintro e w1 ⟨rfl, b1⟩
        have B1 := Lib.hid (HB.out.trans (b1.mono hz)); clear b1
        go_wp2_with fail
        go_roundw
        case rel => exact ⟨k + 1, by omega, by go_num, by rw [take_snoc HP.out, List.all_append, HA.out]; simp [mayP, HM.out], B1.out⟩
        case measure => simp [intOf]; omega
      | false =>
        rw [hm] at T
        have HT := Lib.hid T; have HM := Lib.hid hm; clear T hm
        go_wp2_with fail
        refine HT.out.mono ?_
        rintro e w1 ⟨rfl, b1⟩
        have B1 := Lib.hid (HB.out.trans (b1.mono hz)); clear b1
        go_wp2
        go_ret
        exact ⟨by rw [allE_bad l k _ HP.out HM.out]; rfl, B1.out⟩
    · obtain rfl : k = l.length := by omega
      go_wp2_with fail
      clear hz
      obtain ⟨w1, rfl⟩ : ∃ w1 : World, w1 = wr := ⟨_, rfl⟩
      go_loopw [4] (fun i wr => ∃ m : Nat, m ≤ l.length ∧ i = .int .i64 m ∧ (∀ i k, k < i → i < m → apartAt l i k = true) ∧ Below w.heap.size w wr) (fun i _ => l.length - (intOf i).toNat)
      case atStart => exact ⟨0, Nat.zero_le _, rfl, (fun i k _ h => absurd h (Nat.not_lt_zero _)), HB.out⟩
      case round =>
        obtain ⟨w2, rfl⟩ : ∃ w2 : World, w2 = wr := ⟨_, rfl⟩
        obtain ⟨m, hm, rfl, hap, hb2⟩ := hrel
        have HP2 := Lib.hid hap; have HB2 := Lib.hid hb2
        clear hap hb2
        by_cases hml : m < l.length
        · have hmi : (m : Int) < (l.length : Int) := by omega
          obtain ⟨⟨x, y⟩, hp⟩ : ∃ p, l[m]? = some p := ⟨l[m], List.getElem?_eq_getElem hml⟩
          have HPM := Lib.hid hp; clear hp
          go_wp2_with fail
          go_loopw [5] (fun i wr => ∃ q : Nat, q ≤ m ∧ i = .int .i64 q ∧ (∀ k, k < q → apartAt l m k = true) ∧ Below w.heap.size w wr) (fun i _ => m - (intOf i).toNat)
          case atStart => exact ⟨0, Nat.zero_le _, rfl, (fun k h => absurd h (Nat.not_lt_zero _)), HB2.out⟩
          case round =>
            obtain ⟨q, hq, rfl, hap, hb3⟩ := hrel
            have HP3 := Lib.hid hap; have HB3 := Lib.hid hb3
            clear hap hb3
            by_cases hqm : q < m
            · have hqi : (q : Int) < (m : Int) := by omega
              have hql : (q : Int) < (l.length : Int) := by omega
              obtain ⟨⟨x2, y2⟩, hp2⟩ : ∃ p, l[q]? = some p := ⟨l[q]'(by omega), List.getElem?_eq_getElem (by omega)⟩
              obtain ⟨b, off, rfl, hlt⟩ := H.out.addr (by rw [regCells_length]; omega)
              have hr := H.out.below HB3.out
              have hw := regCells_at l m _ HPM.out
              have hw2 := regCells_at l q _ hp2
              have c0 := hr.cell hw.1; have c1 := hr.cell hw.2; have c2 := hr.cell hw2.1; have c3 := hr.cell hw2.2
              have hltr := hr.lt (by rw [regCells_length]; omega)
              rw [← Nat.add_assoc] at c1 c3
              simp only at c0 c1 c2 c3
              have y0 : ∀ x : Ext wr.heap.size wr, x.world.cell? _ = _ := fun x => (x.cell _ _ hltr).trans c0
              have y1 : ∀ x : Ext wr.heap.size wr, x.world.cell? _ = _ := fun x => (x.cell _ _ hltr).trans c1
              have y2' : ∀ x : Ext wr.heap.size wr, x.world.cell? _ = _ := fun x => (x.cell _ _ hltr).trans c2
              have y3 : ∀ x : Ext wr.heap.size wr, x.world.cell? _ = _ := fun x => (x.cell _ _ hltr).trans c3
              have T := fun W => rapart x y x2 y2 W
              have e : apartAt l m q = apartR x y x2 y2 := by unfold apartAt apartP; rw [HPM.out, hp2]; rfl
              have HE := Lib.hid e
              clear e hw hw2 c0 c1 c2 c3 hr hltr hlt hp2
              cases hv : apartR x y x2 y2 with
              | true =>
                rw [hv] at T
                have HV := Lib.hid hv; clear hv
                have hq5 := hq
                go_wp2_with fail
                refine region_ext (by kernel_rfl) (by kernel_rfl) ?_
                repeat (go_big_quiet_step (exact calls_ext (Nat.le_refl _) (T _)))
                refine wpQuiet_nil ?_
                intro z
                clear y0 y1 y2' y3 T
                have B4 := Lib.hid (HB3.out.trans (z.below.mono HB3.out.size))
                go_wp2_with fail
                go_roundw
                case rel => exact ⟨q + 1, by omega, by go_num, (fun k hk => (Nat.lt_or_eq_of_le (Nat.lt_succ_iff.1 hk)).elim (fun h => HP3.out k h) (fun h => by subst h; rw [HE.out]; exact HV.out)), B4.out⟩
                case measure => simp [intOf]; omega
              | false =>
                rw [hv] at T
                have HV := Lib.hid hv; clear hv
                go_wp2_with fail
                refine region_ext (by kernel_rfl) (by kernel_rfl) ?_
                repeat (go_big_quiet_step (exact calls_ext (Nat.le_refl _) (T _)))
                refine wpQuiet_nil ?_
                intro z
                clear y0 y1 y2' y3 T
                have B4 := Lib.hid (HB3.out.trans (z.below.mono HB3.out.size))
                go_wp2_with fail
                go_ret
                exact ⟨by rw [allE_over l HA.out m q hqm hml (by rw [HE.out]; exact HV.out)]; rfl, B4.out⟩
            · obtain rfl : q = m := by omega
              go_wp2_with fail
              go_roundw
              case rel => exact ⟨q + 1, by omega, by go_num, (fun i k hk hi => (Nat.lt_or_eq_of_le (Nat.lt_succ_iff.1 hi)).elim (fun h => HP2.out i k hk h) (fun h => by subst h; exact HP3.out k hk)), HB3.out⟩
              case measure => simp [intOf]; omega
        · obtain rfl : m = l.length := by omega
          go_wp2_with fail
          go_ret
          exact ⟨by rw [allE_ok l HA.out HP2.out]; rfl, HB2.out⟩
end Go.Proofs.Ytjliaojanmbicaa.reg
