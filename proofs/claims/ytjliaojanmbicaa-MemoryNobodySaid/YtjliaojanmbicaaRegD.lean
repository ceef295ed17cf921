/- Regions: All of the program; no condition. -/
import Derived.Test.YtjliaojanmbicaaRows
import Derived.Test.YtjliaojanmbicaaRegC
namespace Go.Proofs.Ytjliaojanmbicaa.reg
open Go Go.ChangeShapes Go.WideShapes Go.ChangeAt Go.RowKit Go.Shelf
attribute [local go_sem] Oper.semAt_some
def mayP (p : Reg) : Bool := mayR p.1 p.2
def apartP (x : Reg × Reg) : Bool := apartR x.1.1 x.1.2 x.2.1 x.2.2
def allE (l : List Reg) : Int := if l.all mayP = true then if (upTo l l.length).all apartP = true then 0 else 121 else 2
set_option maxRecDepth 100000 in
theorem pairs1_0 (n lp Bs cap : Nat) (A : Option Addr) (J : List (Reg × Reg) → World → Prop) (W : World) (hBs : W.heap[Bs]? = some (.cells #[.slice A 0 cap] 48 (0, 0))) (h0 : J [] W) :
    CallsIn Fence.wide n Try.prog 47 #[.func (.yield lp) #[] #[], .pointer (some ⟨Bs, 0, none⟩)] W fun e W' => (∃ v, e = .returned v) ∧ J [] W' := by
  refine callsIn_of_wp Try.func47 rfl trivial ?_ rfl
  simp only [Try.ntmps47, List.size_toArray, List.length_cons, List.length_nil, Nat.reduceAdd, Nat.reduceSub, Array.replicate_succ, Array.replicate_zero, List.push_toArray, List.append_toArray, List.nil_append, List.cons_append]
  have hcB := blk_cell hBs 0
  gi_wp2
  clear hcB
  gi_loopw [9] (fun i wr => i = .int .i64 0 ∧ J [] wr) (fun _ _ => 0)
  case atStart => exact ⟨rfl, h0⟩
  case round =>
    obtain ⟨rfl, hJs⟩ := hrel
    gi_wp2
    go_end0
    exact ⟨⟨_, rfl⟩, hJs⟩
theorem pairs_stops (n : Nat) (hn : 1 ≤ n) (Bs : Nat) (A : Option Addr) (cap : Nat) (l : List Reg) (hcap : l.length ≤ cap) (h63 : l.length ≤ 1000000) (w : World)
    (hBs : w.heap[Bs]? = some (.cells #[.slice A l.length cap] 48 (0, 0))) (hr : Rd w A (regCells l)) :
    SeqStopsK Fence.wide n Try.prog 47 #[.pointer (some ⟨Bs, 0, none⟩)] encs KeepC (fun ys => ys = upTo l l.length) (fun pre => ∃ k j, k < l.length ∧ j ≤ l.length - (k + 1) ∧ pre = upTo l k ++ rowOf l k j) (l.length * l.length + 1) w := fun lp J Jx W hW hJ _ hY h0 => by
  have hBs' := blk_below hBs hW (blk_lt hBs)
  have hr' := hr.below hW
  by_cases hz : l.length = 0
  · have hl : l = [] := List.eq_nil_of_length_eq_zero hz
    subst hl
    refine (pairs1_0 n lp Bs cap A J W hBs' h0).mono fun e W' ⟨he, hj⟩ => ⟨he, .inl ⟨_, rfl, hj⟩⟩
  · obtain ⟨b, off, rfl, _⟩ := hr'.addr (by rw [regCells_length]; omega)
    exact pairs1 n hn lp Bs b off cap l hcap h63 J Jx W hJ hY hBs' hr' h0
theorem take_snoc {α : Type} {l : List α} {k : Nat} {p : α} (h : l[k]? = some p) : l.take (k + 1) = l.take k ++ [p] := by
  rw [List.take_add_one, h]; rfl
theorem mem_upTo_mono (l : List Reg) {k m : Nat} (h : k ≤ m) {x : Reg × Reg} (hx : x ∈ upTo l k) : x ∈ upTo l m := by
  induction m with
  | zero => obtain rfl : k = 0 := by omega
            exact hx
  | succ m ih =>
    by_cases e : k = m + 1
    · subst e; exact hx
    · exact List.mem_append.2 (.inl (ih (by omega)))
theorem mem_upTo (l : List Reg) (k j : Nat) (hk : k < l.length) (hj : j ≤ l.length - (k + 1)) {x : Reg × Reg} (hx : x ∈ upTo l k ++ rowOf l k j) : x ∈ upTo l l.length := by
  apply mem_upTo_mono l (show k + 1 ≤ l.length by omega)
  rcases List.mem_append.1 hx with h | h
  · exact List.mem_append.2 (.inl h)
  · refine List.mem_append.2 (.inr ?_)
    simp only [rowOf, List.mem_map, List.mem_range] at h ⊢
    obtain ⟨m, hm, e⟩ := h
    exact ⟨m, by omega, e⟩
set_option maxRecDepth 100000 in
set_option maxHeartbeats 1000000 in
theorem all_bad (l : List Reg) (A : Option Addr) (c : Nat) (h63 : l.length ≤ 1000000) (hbad : l.all mayP = false) (w : World) (h : Rd w A (regCells l)) :
    Calls Try.prog 26 #[.slice A l.length c] w fun e w' => e = .returned (.int .i64 2) ∧ Below w.heap.size w w' := by
  have hn0 : 0 < l.length := by cases l with | nil => simp at hbad | cons => simp
  obtain ⟨b, off, rfl, hlt⟩ := h.addr (by rw [regCells_length]; omega)
  have h63' : (l.length : Int) ≤ 1000000 := by omega
  have hb0 := (Below.refl w.heap.size w).alloc (Nat.le_refl _) (.cells #[.int .i64 0] 24)
  have hB0 := Lib.hid hb0; have H := Lib.hid h; have HR := Lib.hid (blk_new w #[.int .i64 0] 24); have HBAD := Lib.hid hbad
  have hsz : (w.alloc (.cells #[.int .i64 0] 24)).heap.size = w.heap.size + 1 := by simp
  clear hb0 h hbad
  go_enter Try.func26, Try.ntmps26
  go_wp2
  generalize w.alloc (.cells #[.int .i64 0] 24) = W0 at *
  go_loopw [9] (fun i wr => ∃ k : Nat, k ≤ l.length ∧ i = .int .i64 k ∧ (l.take k).all mayP = true ∧ Below W0.heap.size W0 wr) (fun i _ => l.length - (intOf i).toNat)
  case atStart => exact ⟨0, Nat.zero_le _, rfl, rfl, Below.refl _ _⟩
  case round =>
    obtain ⟨k, hk, rfl, hall, hb⟩ := hrel
    have HB := Lib.hid hb; have HA := Lib.hid hall
    clear hb hall
    by_cases hkl : k < l.length
    · have hki : (k : Int) < (l.length : Int) := by omega
      obtain ⟨⟨x, y⟩, hp⟩ : ∃ p, l[k]? = some p := ⟨l[k], List.getElem?_eq_getElem hkl⟩
      have hw := regCells_at l k _ hp
      have hr := (H.out.below hB0.out).below HB.out
      have c0 := hr.cell hw.1; have c1 := hr.cell hw.2
      rw [← Nat.add_assoc] at c1
      simp only at c0 c1
      have T := may x y
      have HP := Lib.hid hp
      clear hw hp hr
      have hz := HB.out.size
      cases hm : mayR x y with
      | true =>
        rw [hm] at T
        have HT := Lib.hid T; have HM := Lib.hid hm; clear T hm
        go_wp2_with fail
        refine (HT.out _).mono ?_
        rintro e w1 ⟨rfl, b1⟩
        have B1 := Lib.hid (HB.out.trans ((below_alloc b1).mono hz)); clear b1
        go_wp2_with fail
        go_roundw
        case rel => exact ⟨k + 1, by omega, by go_num, by rw [take_snoc HP.out, List.all_append, HA.out]; simp [mayP, HM.out], B1.out⟩
        case measure => simp [intOf]; omega
      | false =>
        rw [hm] at T
        have HT := Lib.hid T; clear T hm
        go_wp2_with fail
        refine (HT.out _).mono ?_
        rintro e w1 ⟨rfl, b1⟩
        have b1' := HB.out.trans ((below_alloc b1).mono hz)
        have hR1 := blk_below HR.out b1' (by omega)
        have r0 := blk_cell hR1 0; have r1 := blk_frozen hR1 0
        have B1 := Lib.hid b1'
        have r2 := blk_cell (blk_set hR1 0 (.int .i64 2)) 0
        clear b1 b1' hR1
        go_wp2
        refine bodyPost_ret (v := .int .i64 2) (by simp [results, Try.results26, go_sem, r0]) rfl ⟨rfl, ?_⟩
        exact (hB0.out.trans (B1.out.mono (by omega))).setCell (p := ⟨w.heap.size, 0, none⟩) (Nat.le_refl _) _
    · obtain rfl : k = l.length := by omega
      have h1 := HA.out
      rw [List.take_length, HBAD.out] at h1
      cases h1
set_option maxRecDepth 100000 in
set_option maxHeartbeats 2000000 in
theorem all_in (l : List Reg) (A : Option Addr) (c : Nat) (hc : l.length ≤ c) (h63 : l.length ≤ 1000000) (hgood : l.all mayP = true) (w : World) (h : Rd w A (regCells l)) :
    CallsIn Fence.wide 8 Try.prog 26 #[.slice A l.length c] w fun e w' => e = .returned (.int .i64 (allE l)) ∧ Below w.heap.size w w' := by
  have h63' : (l.length : Int) ≤ 1000000 := by omega
  have hb0 := (Below.refl w.heap.size w).alloc (Nat.le_refl _) (.cells #[.int .i64 0] 24)
  have hB0 := Lib.hid hb0; have H := Lib.hid h; have HR := Lib.hid (blk_new w #[.int .i64 0] 24); have HG := Lib.hid hgood
  have hsz : (w.alloc (.cells #[.int .i64 0] 24)).heap.size = w.heap.size + 1 := by simp
  clear hb0 h hgood
  refine callsIn_of_wp_marks Try.func26 rfl trivial ?_ rfl
  simp only [Try.ntmps26, List.size_toArray, List.length_cons, List.length_nil, Nat.reduceAdd, Nat.reduceSub, Array.replicate_succ, Array.replicate_zero, List.push_toArray, List.append_toArray, List.nil_append, List.cons_append]
  gi_wp2
  generalize w.alloc (.cells #[.int .i64 0] 24) = W0 at *
  gi_loopw [9] (fun i wr => ∃ k : Nat, k ≤ l.length ∧ i = .int .i64 k ∧ Below W0.heap.size W0 wr) (fun i _ => l.length - (intOf i).toNat)
  case atStart => exact ⟨0, Nat.zero_le _, rfl, Below.refl _ _⟩
  case round =>
    obtain ⟨k, hk, rfl, hb⟩ := hrel
    have HB := Lib.hid hb
    have hz := hb.size
    clear hb
    by_cases hkl : k < l.length
    · have hki : (k : Int) < (l.length : Int) := by omega
      obtain ⟨b, off, rfl, hlt⟩ := H.out.addr (by rw [regCells_length]; omega)
      obtain ⟨⟨x, y⟩, hp⟩ : ∃ p, l[k]? = some p := ⟨l[k], List.getElem?_eq_getElem hkl⟩
      have hw := regCells_at l k _ hp
      have hr := (H.out.below hB0.out).below HB.out
      have c0 := hr.cell hw.1; have c1 := hr.cell hw.2
      rw [← Nat.add_assoc] at c1
      simp only at c0 c1
      have T := may x y
      have hm : mayR x y = true := by have := HG.out; rw [List.all_eq_true] at this; exact this _ (List.mem_of_getElem? hp)
      rw [hm] at T
      have HT := Lib.hid T
      clear hw hp hr T hm
      gi_wp2_with fail
      refine ⟨trivial, (callsIn_wide.2 (HT.out _)).mono ?_⟩
      rintro e w1 ⟨rfl, b1⟩
      have B1 := Lib.hid (HB.out.trans ((below_alloc b1).mono hz)); clear b1
      gi_wp2
      go_roundw
      case rel => exact ⟨k + 1, by omega, by go_num, B1.out⟩
      case measure => simp [intOf]; omega
    · obtain rfl : k = l.length := by omega
      gi_wp2_with fail
      refine ⟨trivial, (callsIn_wide.2 (pairs A l.length c _)).mono ?_⟩
      rintro e w1 ⟨rfl, rfl⟩
      gi_wp2
      have hBs := blk_new wr #[.slice A l.length c] 48
      have hbl : Below w.heap.size w wr := hB0.out.trans (HB.out.mono (by omega))
      have hBL := hbl.alloc hbl.size (.cells #[.slice A l.length c] 48)
      have hrL := H.out.below hBL
      have bR0 : Boxed (wr.alloc (.cells #[.slice A l.length c] 48)) w.heap.size 24 (.int .i64 0) := blk_alloc (blk_below HR.out HB.out (by omega)) _
      have hsL : wr.heap.size + 1 = (wr.alloc (.cells #[.slice A l.length c] 48)).heap.size := by simp
      generalize wr.heap.size = wb at *
      generalize wr.alloc (.cells #[.slice A l.length c] 48) = WL at *
      have hsw : w.heap.size < WL.heap.size := by omega
      refine wpIn_rangeFunc_ownH (F := Fence.wide) rfl (by decide) (gf := 47) (lb := #[.pointer (some ⟨wb, 0, none⟩)]) rfl trivial (enters_of Try.func47 (by kernel_rfl) rfl)
        (pairs_stops 7 (by decide) wb A c l hc h63 WL hBs hrL) keepC_t (keepC_b (w := WL)) (Below.refl _ _) (fun _ => rfl)
        (fun pre W => ((∀ x ∈ pre, apartP x = true) ∧ Boxed W w.heap.size 24 (.int .i64 0)) ∧ Below w.heap.size w W)
        (fun c pre W => ((c = .ret ∧ ∃ x ∈ pre, apartP x = false) ∧ Boxed W w.heap.size 24 (.int .i64 121)) ∧ Below w.heap.size w W)
        (OwnFrom.and (OwnFrom.and (ownFrom_pure _ _) (Own.from (boxed_own _ _ _) _)) (ownFrom_below (Nat.le_refl _) (by omega)))
        (fun c => OwnFrom.and (OwnFrom.and (ownFrom_pure _ _) (Own.from (boxed_own _ _ _) _)) (ownFrom_below (Nat.le_refl _) (by omega)))
        ⟨⟨by simp, bR0⟩, hBL⟩
        (fun x a' W => ∃ B1 B2, w.heap.size < B1 ∧ w.heap.size < B2 ∧ W.heap[B1]? = some (.cells #[.int .i64 x.1.1, .int .i64 x.1.2] 52 (0, 0)) ∧ W.heap[B2]? = some (.cells #[.int .i64 x.2.1, .int .i64 x.2.2] 52 (0, 0)) ∧
          a' = { tmps := #[.slice A l.length c, undef, .pointer (some ⟨w.heap.size, 0, none⟩), undef, u4, .pointer (some ⟨B1, 0, none⟩), .pointer (some ⟨B2, 0, none⟩), .slice A l.length c, .int .i64 l.length, .int .i64 l.length, .bool false, u11, u12, u13, u14, u15, u16, .slice A l.length c,
            .func (.func 47) #[] #[.pointer (some ⟨wb, 0, none⟩)], .agg #[.int .i64 x.1.1, .int .i64 x.1.2], .agg #[.int .i64 x.2.1, .int .i64 x.2.2], undef, undef, undef, undef], defers := [] })
        (fun x a' _ X Y row hs hg hr => by
          obtain ⟨B1, B2, h1, h2, g1, g2, e⟩ := hs
          have ne : ∀ (B : Nat) (cs : Array Value), X.heap[B]? = some (.cells cs 52 (0, 0)) → some B ≠ row := fun B cs hB hrow => by obtain ⟨_, o, ho, hc⟩ := hr B hrow.symm; rw [hB] at ho; cases ho; cases hc
          exact ⟨B1, B2, h1, h2, blk_grown g1 hg (ne _ _ g1), blk_grown g2 hg (ne _ _ g2), e⟩)
        ?assign ?body ?done ?stop
      case assign =>
        rintro lp pre x W K ⟨⟨hp, bR1⟩, hB1⟩ hK
        dsimp only [encs]
        have hzW := hB1.size
        have g1 := blk_alloc (blk_new W #[.int .i64 x.1.1, .int .i64 x.1.2] 52) (.cells #[.int .i64 x.2.1, .int .i64 x.2.2] 52)
        have g2 := blk_new (W.alloc (.cells #[.int .i64 x.1.1, .int .i64 x.1.2] 52)) #[.int .i64 x.2.1, .int .i64 x.2.2] 52
        have hlt := bR1.lt
        gi_wp2
        refine hK _ _ (((KeepsOthers.alloc _ _).trans (KeepsOthers.alloc _ _)).from _) (KeepC.of_below (((Below.refl _ W).alloc (Nat.le_refl _) _).alloc (by simp) _)) ⟨⟨hp, (bR1.alloc _).alloc _⟩, (hB1.alloc hzW _).alloc (by simp; omega) _⟩ ⟨W.heap.size, W.heap.size + 1, hlt, by omega, g1, by simpa using g2, rfl⟩
      case body =>
        rintro lp pre x a' W hl ⟨r, hr⟩ ⟨⟨hp, bR1⟩, hB1⟩ ⟨B1, B2, h1, h2, g1, g2, rfl⟩ hlt
        have c10 := blk_cell g1 0; have c11 := blk_cell g1 1; have c20 := blk_cell g2 0; have c21 := blk_cell g2 1
        have T := apart x.1.1 x.1.2 x.2.1 x.2.2 W
        have HW := Lib.hid bR1; have HB1 := Lib.hid hB1; have HP := Lib.hid hp; have hzW := hB1.size; have hltR := bR1.lt
        cases hap : apartP x with
        | true =>
          rw [show apartR x.1.1 x.1.2 x.2.1 x.2.2 = true from hap] at T
          have HT := Lib.hid T; have HAP := Lib.hid hap
          clear T hap g1 g2 hp bR1 hB1
          gi_wp2_with fail
          refine ⟨trivial, (CallsIn.inRound lp (callsIn_wide.2 HT.out)).mono ?_⟩
          rintro e w1 ⟨rfl, b1⟩
          have HB := Lib.hid b1; clear b1
          gi_wp2
          exact ⟨⟨HB.out.size, fun k o _ h0 _ => (HB.out.block k (Array.getElem?_eq_some_iff.1 h0).1).trans h0⟩, KeepC.of_below HB.out,
            ⟨fun z hz => (List.mem_append.1 hz).elim (HP.out z) (fun e => by simp at e; subst e; exact HAP.out), blk_below HW.out HB.out hltR⟩, HB1.out.trans (HB.out.mono hzW)⟩
        | false =>
          rw [show apartR x.1.1 x.1.2 x.2.1 x.2.2 = false from hap] at T
          have HT := Lib.hid T; have HAP := Lib.hid hap
          clear T hap g1 g2 hp bR1 hB1
          gi_wp2_with fail
          refine ⟨trivial, (CallsIn.inRound lp (callsIn_wide.2 HT.out)).mono ?_⟩
          rintro e w1 ⟨rfl, b1⟩
          have bR2 : Boxed w1 w.heap.size 24 (.int .i64 0) := blk_below HW.out b1 hltR
          have cR := bR2.cell; have fR := bR2.frozen
          have HB := Lib.hid b1; have HR2 := Lib.hid bR2; clear b1 bR2
          gi_wp2
          refine ⟨KeepsFrom.trans ⟨HB.out.size, fun k o _ h0 _ => (HB.out.block k (Array.getElem?_eq_some_iff.1 h0).1).trans h0⟩ ((KeepsOthers.setCell _ _ _).from _), ⟨⟨rfl, x, List.mem_append.2 (.inr (by simp)), HAP.out⟩, HR2.out.set _⟩, (HB1.out.trans (HB.out.mono hzW)).setCell (p := ⟨w.heap.size, 0, none⟩) (Nat.le_refl _) _⟩
      case done =>
        rintro D ys W hD rfl ⟨⟨hp, bR1⟩, hB1⟩ hK
        have cR := bR1.cell
        have fR := bR1.frozen
        gi_wp2
        have hK' := (KeepsOthers.setCell W ⟨w.heap.size, 0, none⟩ (.int .i64 0)).same D _ hK rfl
        refine ⟨by simp, .inl ⟨_, _, rfl, run_takeDeferred hK', ?_⟩⟩
        have hc5 := cell_kept (bR1.set (.int .i64 0)).cell (grownBy_putObj' _ D (.deferred none)) (fun r e => by cases e; exact ⟨_, hK', rfl⟩)
        refine ⟨.int .i64 0, ?_, by unfold allE; rw [if_pos HG.out, if_pos (List.all_eq_true.2 hp)], (hB1.setCell (p := ⟨w.heap.size, 0, none⟩) (Nat.le_refl _) _).trans (belowK_b (w := w) (Nat.le_refl _) _ D _ _ (by omega) hK' rfl rfl)⟩
        simp [results, Try.results26, go_sem, hc5]
      case stop =>
        rintro D c pre W hD ⟨k, j, hk, hj, rfl⟩ ⟨⟨⟨rfl, x, hx, hy⟩, bR1⟩, hB1⟩ hK
        gi_wp2
        refine ⟨by simp, .inl ⟨_, _, rfl, run_takeDeferred hK, ?_⟩⟩
        have hc5 := cell_kept bR1.cell (grownBy_putObj' _ D (.deferred none)) (fun r e => by cases e; exact ⟨_, hK, rfl⟩)
        refine ⟨.int .i64 121, ?_, by unfold allE; rw [if_pos HG.out, if_neg (fun hall => by have := List.all_eq_true.1 hall x (mem_upTo l k j hk hj hx); rw [hy] at this; cases this)], hB1.trans (belowK_b (w := w) (Nat.le_refl _) W D _ _ (by omega) hK rfl rfl)⟩
        simp [results, Try.results26, go_sem, hc5]
theorem all_any (l : List Reg) (A : Option Addr) (c : Nat) (hc : l.length ≤ c) (h63 : l.length ≤ 1000000) (w : World) (h : Rd w A (regCells l)) :
    Calls Try.prog 26 #[.slice A l.length c] w fun e w' => e = .returned (.int .i64 (allE l)) ∧ Below w.heap.size w w' := by
  by_cases hg : l.all mayP = true
  · exact callsIn_wide.1 (all_in l A c hc h63 hg w h)
  · rw [show allE l = 2 by unfold allE; rw [if_neg hg]]
    exact all_bad l A c h63 (by simpa using hg) w h
end Go.Proofs.Ytjliaojanmbicaa.reg
