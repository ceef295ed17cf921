/- The law RegionApart: its walk. -/
import Derived.Test.YtcgpndjidommlaaRows
import Derived.Test.YtcgpndjidommlaaRegG
import Derived.Laws.OwnMore
import Derived.RegionTactic
import Derived.BigRegion
import Derived.Test.YtcgpndjidommlaaRegP
import Derived.Test.YtcgpndjidommlaaRegionAllLaw
namespace Go.Proofs.Ytcgpndjidommlaa.reg.order
open Go Go.ChangeShapes Go.WideShapes Go.ChangeAt Go.RowKit Go.Proofs.Ytcgpndjidommlaa.reg
theorem edge (l : List Reg) (A : Option Addr) (c : Nat) (a0 b0 : Int) (h : l.length = 0 ∨ 20 < l.length) (w : World) : Calls Try.prog 7 #[.slice A l.length c, .int .i64 a0, .int .i64 b0] w fun e w' => e = .returned (.bool true) ∧ Below w.heap.size w w' := by
  by_cases h0 : l.length = 0
  · have h1 : ((l.length : Int) == 0) = true := by rw [h0]; rfl
    clear h
    go_enter Try.func7, Try.ntmps7
    go_wp2_with fail
    refine (awake _).mono ?_
    rintro e w1 ⟨rfl, b1⟩
    have B1 := Lib.hid b1; clear b1
    go_wp2
    go_ret
    exact ⟨rfl, B1.out⟩
  · have h1 : ((l.length : Int) == 0) = false := by rw [beq_eq_false_iff_ne]; omega
    have h2 : (20 : Int) < (l.length : Int) := by omega
    clear h h0
    go_enter Try.func7, Try.ntmps7
    go_wp2_with fail
    refine (awake _).mono ?_
    rintro e w1 ⟨rfl, b1⟩
    have B1 := Lib.hid b1; clear b1
    go_wp2
    go_ret
    exact ⟨rfl, B1.out⟩
theorem regCells_set (l : List Reg) (k : Nat) (p : Reg) : ((regCells l).set (k * 2) (.int .i64 p.1)).set (k * 2 + 1) (.int .i64 p.2) = regCells (l.set k p) := by
  induction l generalizing k with
  | nil => simp [regCells]
  | cons x l ih =>
    cases k with
    | zero => simp [regCells]
    | succ k =>
      have := ih k
      simp only [regCells, List.flatMap_cons, List.set_cons_succ] at this ⊢
      rw [show (k + 1) * 2 = k * 2 + 1 + 1 by omega]
      simpa using this
theorem allE_perm {l l' : List Reg} (hlen : l'.length = l.length) (f : Nat → Nat) (hf : ∀ i, i < l.length → f i < l.length ∧ f (f i) = i) (h : ∀ i, i < l.length → l'[i]? = l[f i]?) : allE l' = allE l := by
  have hat : ∀ i k, i < l.length → k < l.length → apartAt l' i k = apartAt l (f i) (f k) := fun i k hi hk => by unfold apartAt; rw [h i hi, h k hk]
  have hA : l'.all mayP = true ↔ l.all mayP = true := by
    constructor
    · intro h1
      rw [List.all_eq_true] at h1 ⊢
      intro p hp
      obtain ⟨i, hi⟩ := List.mem_iff_getElem?.1 hp
      have hil := (List.getElem?_eq_some_iff.1 hi).1
      exact h1 p (List.mem_of_getElem? (i := f i) (by rw [h (f i) (hf i hil).1, (hf i hil).2]; exact hi))
    · intro h1
      rw [List.all_eq_true] at h1 ⊢
      intro p hp
      obtain ⟨i, hi⟩ := List.mem_iff_getElem?.1 hp
      have hil := (List.getElem?_eq_some_iff.1 hi).1
      rw [h i (by omega)] at hi
      exact h1 p (List.mem_of_getElem? hi)
  have hne : ∀ (m : List Reg), (∀ i k, k < i → i < m.length → apartAt m i k = true) ↔ ∀ i k, i ≠ k → i < m.length → k < m.length → apartAt m i k = true := fun m => by
    constructor
    · intro h1 i k hik hi hk
      rcases Nat.lt_or_ge k i with hlt | hge
      · exact h1 i k hlt hi
      · rw [apartAt_comm]; exact h1 k i (by omega) hk
    · intro h1 i k hk hi
      exact h1 i k (by omega) hi (by omega)
  have hP : (upTo l' l'.length).all apartP = true ↔ (upTo l l.length).all apartP = true := by
    rw [upTo_all_iff, upTo_all_iff, hne, hne]
    constructor
    · intro h1 i k hik hi hk
      have a1 := hf i hi; have a2 := hf k hk
      have := h1 (f i) (f k) (fun e => hik (by rw [← a1.2, ← a2.2, e])) (by omega) (by omega)
      rwa [hat _ _ a1.1 a2.1, a1.2, a2.2] at this
    · intro h1 i k hik hi hk
      have a1 := hf i (by omega); have a2 := hf k (by omega)
      rw [hat i k (by omega) (by omega)]
      exact h1 (f i) (f k) (fun e => hik (by rw [← a1.2, ← a2.2, e])) a1.1 a2.1
  unfold allE
  by_cases hA1 : l.all mayP = true
  · rw [if_pos hA1, if_pos (hA.2 hA1)]
    by_cases hP1 : (upTo l l.length).all apartP = true
    · rw [if_pos hP1, if_pos (hP.2 hP1)]
    · rw [if_neg hP1, if_neg (fun e => hP1 (hP.1 e))]
  · rw [if_neg hA1, if_neg (fun e => hA1 (hA.1 e))]
theorem allE_swap (l : List Reg) (a b : Nat) (pa pb : Reg) (hpa : l[a]? = some pa) (hpb : l[b]? = some pb) : allE ((l.set a pb).set b pa) = allE l := by
  have ha := (List.getElem?_eq_some_iff.1 hpa).1
  have hb := (List.getElem?_eq_some_iff.1 hpb).1
  refine allE_perm (by simp) (fun i => if i = b then a else if i = a then b else i) (fun i hi => ?_) (fun i hi => ?_)
  · by_cases h1 : i = b
    · subst h1
      by_cases h2 : a = i
      · subst h2; simp [ha]
      · simp [ha, h2]
    · by_cases h2 : i = a
      · subst h2; simp [h1, hb]
      · simp [h1, h2, hi]
  · show ((l.set a pb).set b pa)[i]? = l[if i = b then a else if i = a then b else i]?
    rw [List.getElem?_set]
    by_cases h1 : b = i
    · subst h1
      rw [if_pos rfl, if_pos rfl, hpa]
      simp [hb]
    · rw [if_neg h1, if_neg (fun e => h1 e.symm), List.getElem?_set]
      by_cases h2 : a = i
      · subst h2; rw [if_pos rfl, if_pos rfl, hpb]; simp [ha]
      · rw [if_neg h2, if_neg (fun e => h2 e.symm)]
theorem apart_self (a s : Int) : apartR a s a s = false := by
  unfold apartR
  cases hm : mayR a s with
  | false => rfl
  | true =>
    have := mayR_iff.1 hm
    simp only [Bool.true_and, Bool.or_self, decide_eq_false_iff_not]; omega
set_option maxRecDepth 100000 in
set_option maxHeartbeats 4000000 in
theorem same (l : List Reg) (A : Option Addr) (c : Nat) (hc : l.length ≤ c) (a0 b0 : Int) (h20 : ¬ 20 < l.length) (hn0 : 0 < l.length) (a b : Nat) (ha : a < l.length) (hb : b < l.length) (e1 : (IntKind.u64.wrap a0).tmod (l.length : Int) = (a : Int)) (e2 : (IntKind.u64.wrap b0).tmod (l.length : Int) = (b : Int)) (w : World) (h : Rd w A (regCells l)) : Calls Try.prog 7 #[.slice A l.length c, .int .i64 a0, .int .i64 b0] w fun e w' => e = .returned (.bool true) ∧ Below w.heap.size w w' := by
  obtain ⟨i0, hi, hz0, hz1, hz2⟩ := info_parts all.info_reg
  have hown : (w.alloc (.cells #[] 23)).ownsRow w.heap.size 23 2 (.slice (some ⟨w.heap.size, 0, none⟩) 0 0) 0 [] := World.ownsRow_lit w #[] 0 (Nat.le_refl _) (by decide) rfl
  have hr2 := h.alloc (.cells #[] 23)
  have hn := regCells_length l
  have hl1 := regCells_one l
  have n1 : ¬ (20 : Int) < (l.length : Int) := by omega
  have n2 : ¬ (l.length : Int) = 0 := by omega
  have n3 : ((l.length : Int) == 0) = false := by rw [beq_eq_false_iff_ne]; omega
  have n4 : (l.length : Int) ≤ 20 := by omega
  have ha' : (a : Int) < (l.length : Int) := by omega
  have hb' : (b : Int) < (l.length : Int) := by omega
  obtain ⟨⟨xa, ya⟩, hpa⟩ : ∃ p, l[a]? = some p := ⟨l[a], List.getElem?_eq_getElem ha⟩
  obtain ⟨⟨xb, yb⟩, hpb⟩ : ∃ p, l[b]? = some p := ⟨l[b], List.getElem?_eq_getElem hb⟩
  obtain ⟨bb, off, rfl, hlt⟩ := h.addr (by rw [hn]; omega)
  have H := Lib.hid h; have HN := Lib.hid hn; have HL1 := Lib.hid hl1; have HPA := Lib.hid hpa; have HPB := Lib.hid hpb; have HC := Lib.hid hc; have H20 := Lib.hid h20
  clear h hn hl1 hpa hpb hc h20
  go_enter Try.func7, Try.ntmps7
  go_wp2_with (at_builtin; refine wpList_append_rd _ rfl (.tmp 31) (.tmp 32) 30 rfl w.heap.size 23 i0 (.agg #[.int .i64 0, .int .i64 0]) 2 16 Try.underlying30 hi hz0 hz1 hz2 rfl (by decide) _ 0 [] rfl hown _ l.length _ (regCells l) rfl HN.out hr2 HL1.out ?c3 ?c4 (by simp) ?_)
  case c3 => have := H20.out; unfold maxLen; omega
  case c4 => have := H20.out; omega
  intro v' w1 hown5 hg
  have b5 : Below w.heap.size w w1 := below_own ((Below.refl _ w).alloc (Nat.le_refl _) _) hown hg (by simp)
  obtain ⟨g, c5, rfl, hc5⟩ : ∃ g c5, v' = .slice (some ⟨g, 0, none⟩) l.length c5 ∧ l.length ≤ c5 := by
    rcases hown5.2 with ⟨_, hz⟩ | ⟨g, cap5, _, hv, _, _, hcap, _⟩
    · omega
    · exact ⟨g, cap5, hv, hcap⟩
  have hlg := (hown5.lt g rfl).1
  have hnw : bb ≠ g := by omega
  have hwa := regCells_at l a _ HPA.out; have hwb := regCells_at l b _ HPB.out
  have hr := H.out.below b5
  have c0 := hr.cell hwa.1; have c1 := hr.cell hwa.2; have c2 := hr.cell hwb.1; have c3 := hr.cell hwb.2
  rw [← Nat.add_assoc] at c1 c3
  have lenx := HN.out
  have m0 := (hown5.cellAt (a * 2) (by omega)).trans hwa.1
  have m1 := (hown5.cellAt (a * 2 + 1) (by omega)).trans hwa.2
  have m2 := (hown5.cellAt (b * 2) (by omega)).trans hwb.1
  have m3 := (hown5.cellAt (b * 2 + 1) (by omega)).trans hwb.2
  have f0 := hown5.frozenAt (a * 2); have f1 := hown5.frozenAt (a * 2 + 1); have f2 := hown5.frozenAt (b * 2); have f3 := hown5.frozenAt (b * 2 + 1)
  simp only at c0 c1 c2 c3 m0 m1 m2 m3
  have O5 := Lib.hid hown5; have B5 := Lib.hid b5
  clear hown5 b5 hg hown hr2 hr hwa hwb lenx
  by_cases hab : a = b
  · subst hab
    obtain ⟨rfl, rfl⟩ : xb = xa ∧ yb = ya := by have h1 := HPA.out; have h2 := HPB.out; rw [h1] at h2; injection h2 with h2; injection h2 with h3 h4; exact ⟨h3.symm, h4.symm⟩
    go_wp2_with fail
    go_region
    have o4 := ((((O5.out.stored (a * 2) (.int .i64 xb)).1.stored (a * 2 + 1) (.int .i64 yb)).1.stored (a * 2) (.int .i64 xb)).1.stored (a * 2 + 1) (.int .i64 yb)).1
    rw [regCells_set l a (xb, yb), regCells_set (l.set a (xb, yb)) a (xb, yb)] at o4
    have hB2 := (((B5.out.setCell (p := ⟨g, a * 2, none⟩) hlg (.int .i64 xb)).setCell (p := ⟨g, a * 2 + 1, none⟩) hlg (.int .i64 yb)).setCell (p := ⟨g, a * 2, none⟩) hlg (.int .i64 xb)).setCell (p := ⟨g, a * 2 + 1, none⟩) hlg (.int .i64 yb)
    have hBd := hB2.drew
    have hrm := (Rd.of_own o4).drew
    generalize ((((w1.setCell ⟨g, a * 2, none⟩ (.int .i64 xb)).setCell ⟨g, a * 2 + 1, none⟩ (.int .i64 yb)).setCell ⟨g, a * 2, none⟩ (.int .i64 xb)).setCell ⟨g, a * 2 + 1, none⟩ (.int .i64 yb)).drew = W at *
    have hrl := H.out.below hBd
    have hlw := hrl.lt (by have := HN.out; omega)
    have hwa := regCells_at l a _ HPA.out; have hwb := regCells_at l a _ HPB.out
    have k0 := hrl.cell hwa.1; have k1 := hrl.cell hwa.2; have k2 := hrl.cell hwb.1; have k3 := hrl.cell hwb.2
    rw [← Nat.add_assoc] at k1 k3
    simp only at k0 k1 k2 k3
    have y0 : ∀ x : Ext W.heap.size W, x.world.cell? _ = _ := fun x => (x.cell _ _ hlw).trans k0
    have y1 : ∀ x : Ext W.heap.size W, x.world.cell? _ = _ := fun x => (x.cell _ _ hlw).trans k1
    have y2 : ∀ x : Ext W.heap.size W, x.world.cell? _ = _ := fun x => (x.cell _ _ hlw).trans k2
    have y3 : ∀ x : Ext W.heap.size W, x.world.cell? _ = _ := fun x => (x.cell _ _ hlw).trans k3
    have hll : ((l.set a (xb, yb)).set a (xb, yb)).length = l.length := by simp
    have T1 := fun x : Ext W.heap.size W => all_any ((l.set a (xb, yb)).set a (xb, yb)) (some ⟨g, 0, none⟩) c5 (by rw [hll]; exact hc5) (by rw [hll]; omega) x.world (hrm.below x.below)
    rw [hll, allE_swap l a a (xb, yb) (xb, yb) HPA.out HPB.out] at T1
    have T2 := fun x : Ext W.heap.size W => all_any l (some ⟨bb, off, none⟩) c HC.out (by omega) x.world (hrl.below x.below)
    have T3 := apart xb yb xb yb
    have T4 := apart xb yb xb yb
    rw [apart_comm] at T4
    have T5 := apart xb yb xb yb
    rw [apart_self] at T5
    generalize allE l = E at *
    have HB := Lib.hid hBd
    clear hB2 hBd hrm hrl hlw hwa hwb k0 k1 k2 k3 hll o4 c0 c1 c2 c3 m0 m1 m2 m3 f0 f1 f2 f3
    go_wp2_with fail
    refine region_ext (by kernel_rfl) (by kernel_rfl) ?_
    try simp only [List.append_eq, List.cons_append, List.nil_append]
    repeat (go_big_quiet_step (first | (with_reducible exact calls_ext (Nat.le_refl _) (T1 _)) | (with_reducible exact calls_ext (Nat.le_refl _) (T2 _)) | (with_reducible exact calls_ext (Nat.le_refl _) (T5 _)) | (with_reducible exact calls_ext (Nat.le_refl _) (T3 _)) | (with_reducible exact calls_ext (Nat.le_refl _) (T4 _)) | (with_reducible exact calls_ext (Nat.le_refl _) (awake _))))
    refine wpQuiet_nil ?_
    intro z
    go_wp2
    go_ret
    exact ⟨rfl, HB.out.trans (z.below.mono HB.out.size)⟩
  · have x1 : ¬ a * 2 = b * 2 := by omega
    have x2 : ¬ a * 2 = b * 2 + 1 := by omega
    have x3 : ¬ a * 2 + 1 = b * 2 := by omega
    have x4 : ¬ b * 2 = a * 2 := by omega
    have x5 : ¬ b * 2 = a * 2 + 1 := by omega
    have x6 : ¬ b * 2 + 1 = a * 2 := by omega
    go_wp2_with fail
    go_region
    have o4 := ((((O5.out.stored (a * 2) (.int .i64 xb)).1.stored (a * 2 + 1) (.int .i64 yb)).1.stored (b * 2) (.int .i64 xa)).1.stored (b * 2 + 1) (.int .i64 ya)).1
    rw [regCells_set l a (xb, yb), regCells_set (l.set a (xb, yb)) b (xa, ya)] at o4
    have hB2 := (((B5.out.setCell (p := ⟨g, a * 2, none⟩) hlg (.int .i64 xb)).setCell (p := ⟨g, a * 2 + 1, none⟩) hlg (.int .i64 yb)).setCell (p := ⟨g, b * 2, none⟩) hlg (.int .i64 xa)).setCell (p := ⟨g, b * 2 + 1, none⟩) hlg (.int .i64 ya)
    have hBd := hB2.drew
    have hrm := (Rd.of_own o4).drew
    generalize ((((w1.setCell ⟨g, a * 2, none⟩ (.int .i64 xb)).setCell ⟨g, a * 2 + 1, none⟩ (.int .i64 yb)).setCell ⟨g, b * 2, none⟩ (.int .i64 xa)).setCell ⟨g, b * 2 + 1, none⟩ (.int .i64 ya)).drew = W at *
    have hrl := H.out.below hBd
    have hlw := hrl.lt (by have := HN.out; omega)
    have hwa := regCells_at l a _ HPA.out; have hwb := regCells_at l b _ HPB.out
    have k0 := hrl.cell hwa.1; have k1 := hrl.cell hwa.2; have k2 := hrl.cell hwb.1; have k3 := hrl.cell hwb.2
    rw [← Nat.add_assoc] at k1 k3
    simp only at k0 k1 k2 k3
    have y0 : ∀ x : Ext W.heap.size W, x.world.cell? _ = _ := fun x => (x.cell _ _ hlw).trans k0
    have y1 : ∀ x : Ext W.heap.size W, x.world.cell? _ = _ := fun x => (x.cell _ _ hlw).trans k1
    have y2 : ∀ x : Ext W.heap.size W, x.world.cell? _ = _ := fun x => (x.cell _ _ hlw).trans k2
    have y3 : ∀ x : Ext W.heap.size W, x.world.cell? _ = _ := fun x => (x.cell _ _ hlw).trans k3
    have hll : ((l.set a (xb, yb)).set b (xa, ya)).length = l.length := by simp
    have T1 := fun x : Ext W.heap.size W => all_any ((l.set a (xb, yb)).set b (xa, ya)) (some ⟨g, 0, none⟩) c5 (by rw [hll]; exact hc5) (by rw [hll]; omega) x.world (hrm.below x.below)
    rw [hll, allE_swap l a b (xa, ya) (xb, yb) HPA.out HPB.out] at T1
    have T2 := fun x : Ext W.heap.size W => all_any l (some ⟨bb, off, none⟩) c HC.out (by omega) x.world (hrl.below x.below)
    have T3 := apart xa ya xb yb
    have T4 := apart xb yb xa ya
    rw [apart_comm] at T4
    have T5 := apart xa ya xa ya
    rw [apart_self] at T5
    generalize apartR xa ya xb yb = p at *
    generalize allE l = E at *
    have HB := Lib.hid hBd
    clear hB2 hBd hrm hrl hlw hwa hwb k0 k1 k2 k3 hll o4 c0 c1 c2 c3 m0 m1 m2 m3 f0 f1 f2 f3
    go_wp2_with fail
    refine region_ext (by kernel_rfl) (by kernel_rfl) ?_
    try simp only [List.append_eq, List.cons_append, List.nil_append]
    repeat (go_big_quiet_step (first | (with_reducible exact calls_ext (Nat.le_refl _) (T1 _)) | (with_reducible exact calls_ext (Nat.le_refl _) (T2 _)) | (with_reducible exact calls_ext (Nat.le_refl _) (T5 _)) | (with_reducible exact calls_ext (Nat.le_refl _) (T3 _)) | (with_reducible exact calls_ext (Nat.le_refl _) (T4 _)) | (with_reducible exact calls_ext (Nat.le_refl _) (awake _))))
    refine wpQuiet_nil ?_
    intro z
    go_wp2
    go_ret
    exact ⟨rfl, HB.out.trans (z.below.mono HB.out.size)⟩
theorem law (l : List Reg) (A : Option Addr) (c : Nat) (hc : l.length ≤ c) (a0 b0 : Int) (w : World) (h : Rd w A (regCells l)) : Calls Try.prog 7 #[.slice A l.length c, .int .i64 a0, .int .i64 b0] w fun e w' => e = .returned (.bool true) ∧ Below w.heap.size w w' := by
  by_cases h1 : l.length = 0 ∨ 20 < l.length
  · exact edge l A c a0 b0 h1 w
  · obtain ⟨a, ha, e1⟩ := umod a0 l.length (by omega)
    obtain ⟨b, hb, e2⟩ := umod b0 l.length (by omega)
    exact same l A c hc a0 b0 (by omega) (by omega) a b ha hb e1 e2 w h
end Go.Proofs.Ytcgpndjidommlaa.reg.order
