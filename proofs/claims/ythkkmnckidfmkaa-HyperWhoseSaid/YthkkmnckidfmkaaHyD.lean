/- Calls of a partition: a queue by its number, what send does; no condition. -/
import Derived.Test.YthkkmnckidfmkaaRows
import Derived.Test.YthkkmnckidfmkaaHyC
import Derived.Deep.RegionHeld3
import Derived.Deep.Cut
import Derived.BigRegion
namespace Go.Proofs.Ythkkmnckidfmkaa.hy
open Go Go.ChangeShapes Go.WideShapes Go.ChangeAt Go.RowKit Go.Proofs.Ythkkmnckidfmkaa.rows
theorem ext1 (w : World) (o : Obj) : Below w.heap.size w (w.alloc o) := (Below.refl w.heap.size w).alloc (Nat.le_refl _) o
theorem xc {W : World} {b o : Nat} {v : Value} (h : W.cell? ⟨b, o, none⟩ = some v) (x : Ext W.heap.size W) : x.world.cell? ⟨b, o, none⟩ = some v := (x.cell _ _ (World.block_lt_of_cell? W _ h)).trans h
def isId (r : Int) (q : Qu) : Bool := decide (q.ch.id = r)
/-- The place of a channel's queue. -/
def qix (qs : List Qu) (r : Int) : Int := firstI (isId r) qs
def qat (qs : List Qu) (r : Int) : Option (Nat × Qu) := if qix qs r < 0 then none else (qs[(qix qs r).toNat]?).map fun q => ((qix qs r).toNat, q)
theorem qat_spec (qs : List Qu) (r : Int) : (qat qs r = none ∧ qix qs r = -1) ∨ ∃ (k : Nat) (q : Qu), qat qs r = some (k, q) ∧ qix qs r = (k : Int) ∧ qs[k]? = some q ∧ q.ch.id = r := by
  rcases firstI_spec (isId r) qs with ⟨h, _⟩ | ⟨k, q, h, hq, hf, _⟩
  · have h' : qix qs r = -1 := h
    exact .inl ⟨by unfold qat; rw [h']; rfl, h'⟩
  · have h' : qix qs r = (k : Int) := h
    refine .inr ⟨k, q, ?_, h', hq, by simpa [isId] using hf⟩
    unfold qat
    rw [h', if_neg (by omega)]
    simp [hq]
/-- What send does to the queues; did it? -/
def sendV (x : Pt) (qs : List Qu) : Bool × List Qu := match qat qs x.r0 with
  | none => (false, qs)
  | some (k, q) => if mem.thereE x.mem.length x.r1 x.r2 = 0 ∧ q.ch.fr = x.id then (if (chan.putR q.ch q.msgs (mem.part x.mem x.r1 x.r2)).2.2 = 0 then (true, qs.set k ⟨(chan.putR q.ch q.msgs (mem.part x.mem x.r1 x.r2)).1, (chan.putR q.ch q.msgs (mem.part x.mem x.r1 x.r2)).2.1⟩) else (false, qs)) else (false, qs)
theorem sendV_no {x : Pt} {qs : List Qu} (h : qat qs x.r0 = none) : sendV x qs = (false, qs) := by unfold sendV; rw [h]
theorem sendV_bad {x : Pt} {qs : List Qu} {k : Nat} {q : Qu} (h : qat qs x.r0 = some (k, q)) (h2 : ¬ (mem.thereE x.mem.length x.r1 x.r2 = 0 ∧ q.ch.fr = x.id)) : sendV x qs = (false, qs) := by unfold sendV; rw [h]; exact if_neg h2
theorem sendV_err {x : Pt} {qs : List Qu} {k : Nat} {q : Qu} {y : Ch} {l2 : List Msg} {E : Int} (h : qat qs x.r0 = some (k, q)) (hr : chan.putR q.ch q.msgs (mem.part x.mem x.r1 x.r2) = (y, l2, E)) (hE : E ≠ 0) : sendV x qs = (false, qs) := by
  unfold sendV; rw [h]; dsimp only; rw [hr]
  by_cases h2 : mem.thereE x.mem.length x.r1 x.r2 = 0 ∧ q.ch.fr = x.id
  · rw [if_pos h2]; exact if_neg hE
  · rw [if_neg h2]
theorem sendV_ok {x : Pt} {qs : List Qu} {k : Nat} {q : Qu} {y : Ch} {l2 : List Msg} {E : Int} (h : qat qs x.r0 = some (k, q)) (h2 : mem.thereE x.mem.length x.r1 x.r2 = 0 ∧ q.ch.fr = x.id) (hr : chan.putR q.ch q.msgs (mem.part x.mem x.r1 x.r2) = (y, l2, E)) (hE : E = 0) : sendV x qs = (true, qs.set k ⟨y, l2⟩) := by
  unfold sendV; rw [h]; dsimp only; rw [if_pos h2, hr]; exact if_pos hE
theorem queue (g : Nat) (qs : List Qu) (B : Option Addr) (n d : Nat) (hn : qs.length = n) (h63 : n ≤ 1000000) (r : Int) (h0 : 0 ≤ r) (h1 : r < 4294967296) (w : World) (c17 : w.cell? ⟨g, 17, none⟩ = some (.slice B n d)) (hq : Qus w B qs) :
    Calls Try.prog 45 #[.pointer (some ⟨g, 0, none⟩), .int .u32 r] w fun e w' => e = .returned (.int .i64 (qix qs r)) ∧ Below w.heap.size w w' := by
  have hX := (Below.refl w.heap.size w).alloc (Nat.le_refl _) (.cells #[.int .u32 r] 22)
  have G0 := blk_new w #[.int .u32 r] 22
  have T := index_id w.heap.size (isId r) qs B n d hn h63 (w.alloc (.cells #[.int .u32 r] 22)) (hq.below hX) (fun W hW x _ A c _ => queue1 x A c w.heap.size r h0 h1 W (blk_cell (blk_below G0 hW (blk_lt G0)) 0))
  have c17' := Lib.cell?_alloc_marked (.cells #[.int .u32 r] 22) c17
  have HX := Lib.hid hX; have HT := Lib.hid T; clear T hX G0 hq hn
  go_enter Try.func45, Try.ntmps45
  go_wp2_with fail
  refine HT.out.mono ?_
  rintro e w1 ⟨rfl, b1⟩
  have B1 := Lib.hid (HX.out.trans (b1.mono HX.out.size)); clear b1
  go_wp2
  go_ret
  exact ⟨rfl, B1.out⟩
set_option maxRecDepth 100000 in
set_option maxHeartbeats 4000000 in
theorem send {lo g : Nat} {w : World} {x : Pt} {fr tk ver : Int} {qs : List Qu} {inp : Msg} {y : Bool} (hql : qs.length ≤ 1000000) (hqm : ∀ q ∈ qs, q.msgs.length ≤ 1000000) (r0a : 0 ≤ x.r0) (r0b : x.r0 < 4294967296) (r1a : 0 ≤ x.r1) (r1b : x.r1 < 4294967296) (r2a : 0 ≤ x.r2) (r2b : x.r2 < 4294967296) (h : At lo g w x fr tk ver qs inp y) :
    Calls Try.prog 37 #[.pointer (some ⟨g, 0, none⟩)] w (MOut lo g (sendV x qs).1 x fr tk ver (sendV x qs).2 inp y w) := by
  obtain ⟨Am, cm, B, d, Ci, ci, h⟩ := h
  have H := Lib.hid h; clear h
  obtain ⟨ml, hml⟩ : ∃ m, x.mem.length = m := ⟨_, rfl⟩
  obtain ⟨nq, hnq⟩ : ∃ m, qs.length = m := ⟨_, rfl⟩
  obtain ⟨ni, hni⟩ : ∃ m, inp.length = m := ⟨_, rfl⟩
  have HNI := Lib.hid hni; clear hni
  have HML := Lib.hid hml; have HNQ := Lib.hid hnq; have HQM := Lib.hid hqm
  have h63 : nq ≤ 1000000 := by rw [← hnq]; exact hql
  clear hml hnq hqm hql
  have c3 : w.cell? ⟨g, 3, none⟩ = some (.int .u32 x.r0) := H.out.cell 3
  have c17 : w.cell? ⟨g, 17, none⟩ = some (.slice B nq d) := by rw [H.out.cell 17, ← HNQ.out]; rfl
  have T0 := queue g qs B nq d HNQ.out h63 x.r0 r0a r0b w c17 H.out.2.2.2.1.qus
  have HT0 := Lib.hid T0; clear T0
  obtain ⟨i, hi⟩ : ∃ i, qix qs x.r0 = i := ⟨_, rfl⟩
  rw [hi] at HT0
  have HI := Lib.hid hi; clear hi
  go_enter Try.func37, Try.ntmps37
  go_wp2_with fail
  refine HT0.out.mono ?_
  rintro e w1 ⟨rfl, b1⟩
  clear HT0 c3 c17
  have H1 := Lib.hid (H.out.below b1)
  have B1 := Lib.hid (b1.mono H.out.size)
  clear b1
  obtain ⟨ee, hee⟩ : ∃ m, mem.thereE x.mem.length x.r1 x.r2 = m := ⟨_, rfl⟩
  obtain ⟨pm, hpm⟩ : ∃ m, mem.part x.mem x.r1 x.r2 = m := ⟨_, rfl⟩
  have hw1 : IntKind.i64.wrap x.r1 = x.r1 := by rw [IntKind.wrap_i64]; omega
  have hw2 : IntKind.i64.wrap x.r2 = x.r2 := by rw [IntKind.wrap_i64]; omega
  have HR := Lib.hid (show ∀ W, Below w1.heap.size w1 W → Calls Try.prog 46 #[.slice Am ml cm, .int .i64 (IntKind.i64.wrap x.r1), .int .i64 (IntKind.i64.wrap x.r2)] W fun e w' => ∃ v, e = .returned (.tuple #[v, .int .i64 ee]) ∧ mem.CopyOf pm W v w' from fun W hW => by rw [hw1, hw2, ← hee, ← hpm, ← HML.out]; exact mem.read x.mem Am cm (H1.out.below hW).2.2.1.2.1 (H1.out.below hW).2.2.1.1 x.r1 x.r2 W (H1.out.below hW).2.2.1.2.2.rd)
  rw [HML.out] at hee
  have HEE := Lib.hid hee; have HPM := Lib.hid hpm; clear hee hpm hw1 hw2
  have c4 : w1.cell? ⟨g, 4, none⟩ = some (.int .u32 x.r1) := H1.out.cell 4
  have c5 : w1.cell? ⟨g, 5, none⟩ = some (.int .u32 x.r2) := H1.out.cell 5
  have c13 : w1.cell? ⟨g, 13, none⟩ = some (.slice Am ml cm) := by rw [H1.out.cell 13, ← HML.out]; rfl
  go_wp2_with fail
  have HSALL := Lib.hid (show ∀ w', Below w1.heap.size w1 w' → (Below w1.heap.size w1 w' ∧ w'.cell? ⟨g, 4, none⟩ = some (.int .u32 x.r1) ∧ w'.cell? ⟨g, 5, none⟩ = some (.int .u32 x.r2) ∧ w'.cell? ⟨g, 13, none⟩ = some (.slice Am ml cm)) from fun w' hb => ⟨hb, (hb.cell (p := ⟨g, 4, none⟩) H1.out.lt).trans c4, (hb.cell (p := ⟨g, 5, none⟩) H1.out.lt).trans c5, (hb.cell (p := ⟨g, 13, none⟩) H1.out.lt).trans c13⟩)
  have hk1 : Below w1.heap.size w1 w1.drew := (Below.refl w1.heap.size w1).drew
  go_region_held3 (fun w' => Below w1.heap.size w1 w' ∧ w'.cell? ⟨g, 4, none⟩ = some (.int .u32 x.r1) ∧ w'.cell? ⟨g, 5, none⟩ = some (.int .u32 x.r2) ∧ w'.cell? ⟨g, 13, none⟩ = some (.slice Am ml cm))
    (first | (with_reducible exact HSALL.out _ hk1) | (with_reducible exact HSALL.out _ (by assumption)))
    (first | ((with_reducible refine (HR.out _ (And.left (by assumption))).mono ?_); rintro e u1 ⟨v, rfl, hv⟩; obtain ⟨Ar, cr, rfl, hy, hb2⟩ := Bys.of_copy hv; have l1 : Below w1.heap.size w1 u1 := Below.trans (And.left (by assumption)) (Below.mono hb2 (Below.size (And.left (by assumption))))))
  obtain ⟨w2, hw2⟩ : ∃ x : World, x = u1 := ⟨_, rfl⟩
  subst hw2
  have H2 := Lib.hid (H1.out.below l1)
  have H2 := Lib.hid (H1.out.below l1)
  have B2 := Lib.hid (B1.out.trans (l1.mono H1.out.size))
  have HY := Lib.hid hy
  clear c4 c5 c13 HSALL hk1 HR hb2 hy l1 hv
  rcases qat_spec qs x.r0 with ⟨hq1, hq2⟩ | ⟨k, q, hq1, hq2, hqk, hqi⟩
  · obtain rfl : i = -1 := HI.out.symm.trans hq2
    have HS := Lib.hid (sendV_no hq1); clear hq1 hq2 HI
    go_wp2_with fail
    refine region_ext (by kernel_rfl) (by kernel_rfl) ?_
    try simp only [List.append_eq, List.cons_append, List.nil_append]
    repeat (go_big_quiet_step (fail))
    refine wpQuiet_nil ?_
    intro v9
    go_wp2
    go_ret
    rw [HS.out]
    exact ⟨rfl, B2.out.trans (v9.below.mono H2.out.size), Am, cm, B, d, Ci, ci, H2.out.below v9.below⟩
  · obtain rfl : i = (k : Int) := HI.out.symm.trans hq2
    have HQ := Lib.hid hqk; have HQ1 := Lib.hid hq1; clear hqk hq1 hq2 hqi HI
    have hkl : k < nq := by rw [← HNQ.out]; exact (List.getElem?_eq_some_iff.1 HQ.out).1
    have hki : (k : Int) < (nq : Int) := by omega
    have hk00 : (0 : Int) ≤ (k : Int) := by omega
    have hkd : ((k : Int) < 0) = False := eq_false (by omega)
    obtain ⟨gq, Aq, cq, rfl, hgl, _, hcq, hoq, _⟩ := H2.out.2.2.2.1.open HQ.out
    have HCQ := Lib.hid hcq; have HOQ := Lib.hid hoq; clear hcq hoq
    by_cases hee : ee = 0
    · subst hee
      have q0 := HCQ.out 0 _ rfl
      have q1 := HCQ.out 1 _ rfl
      have q2 := HCQ.out 2 _ rfl
      have q3 := HCQ.out 3 _ rfl
      have q4 := HCQ.out 4 _ rfl
      have q5 := HCQ.out 5 _ rfl
      dsimp only [Nat.add_zero] at q0 q1 q2 q3 q4 q5
      have c0 : w2.cell? ⟨g, 0, none⟩ = some (.int .i64 x.id) := H2.out.cell 0
      have c17 : w2.cell? ⟨g, 17, none⟩ = some (.slice (some ⟨gq, 0, none⟩) nq d) := by rw [H2.out.cell 17, ← HNQ.out]; rfl
      have k0 := xc c0; have k17 := xc c17; have k1 := xc q1
      by_cases hfr : q.ch.fr = x.id
      · have hf1 : (q.ch.fr == x.id) = true := by simp [hfr]
        have hf2 : (q.ch.fr != x.id) = false := by simp [hfr]
        have HFR := Lib.hid hfr; clear hfr
        obtain ⟨yy, l2, E, hr⟩ : ∃ yy l2 E, chan.putR q.ch q.msgs (mem.part x.mem x.r1 x.r2) = (yy, l2, E) := ⟨_, _, _, rfl⟩
        have HPR := Lib.hid hr; clear hr
        go_wp2_with fail
        refine region_ext (by kernel_rfl) (by kernel_rfl) ?_
        try simp only [List.append_eq, List.cons_append, List.nil_append]
        repeat (go_big_quiet_step (fail))
        refine wpQuiet_nil ?_
        intro v9
        obtain ⟨w3, hw3⟩ : ∃ z : World, z = v9.world := ⟨_, rfl⟩
        rw [← hw3]
        have b3 : Below w2.heap.size w2 w3 := hw3 ▸ v9.below
        clear hw3 v9
        have H3 := Lib.hid (H2.out.below b3)
        have B3 := Lib.hid (B2.out.trans (b3.mono H2.out.size))
        have HO3 := Lib.hid (ownM.below HOQ.out b3)
        have HY3 := Lib.hid (Bys.below HY.out b3)
        have HC3 := Lib.hid (fun (j : Nat) (u : Value) (hu : (Qu.cells q Aq cq)[j]? = some u) => (b3.cell (p := ⟨gq, k * 6 + j, none⟩) (World.block_lt_of_cell? w2 _ (HCQ.out j u hu))).trans (HCQ.out j u hu))
        clear q0 q1 q2 q3 q4 q5 c0 c17 k0 k17 k1 HCQ HOQ HY b3 H H1 H2 B1 B2
        have q0 := HC3.out 0 _ rfl
        have q1 := HC3.out 1 _ rfl
        have q2 := HC3.out 2 _ rfl
        have q3 := HC3.out 3 _ rfl
        have q4 := HC3.out 4 _ rfl
        have q5 := HC3.out 5 _ rfl
        dsimp only [Nat.add_zero] at q0 q1 q2 q3 q4 q5
        have c17 : w3.cell? ⟨g, 17, none⟩ = some (.slice (some ⟨gq, 0, none⟩) nq d) := by rw [H3.out.cell 17, ← HNQ.out]; rfl
        have T3 := chan.put_to (y := yy) (l2 := l2) (E := E) (by rw [← HPM.out]; exact HPR.out) Aq cq HO3.out.2.1 HO3.out.1 (HQM.out q (List.mem_of_getElem? HQ.out)) Ar cr HY3.out.2.1 HY3.out.1 w3 HO3.out.2.2.rows HY3.out.2.2.rd
        simp only [chan.qcells] at T3
        have HT3 := Lib.hid T3; clear T3
        go_wp2_with fail
        refine HT3.out.mono ?_
        rintro e w4 ⟨A4, c4, rfl, hq4, b4⟩
        clear HT3 q0 q1 q2 q3 q4 q5 c17
        have H4 := Lib.hid (H3.out.below b4)
        have B4 := Lib.hid (B3.out.trans (b4.mono H3.out.size))
        have HQ4 := Lib.hid (show ownM lo w4 A4 c4 ⟨yy, l2⟩ from ⟨hq4.1, hq4.2.1, hq4.2.2.mono H3.out.size (Nat.le_refl _)⟩)
        clear hq4 b4 HC3 HO3 HY3 H3 B3 H2
        by_cases hE : E = 0
        · subst hE
          have HS := Lib.hid (sendV_ok HQ1.out ⟨by rw [HML.out]; exact HEE.out, HFR.out⟩ HPR.out rfl)
          go_wp2_with fail
          have G5 := Lib.hid (blk_new w4 #[.int .i64 yy.id, .int .i64 yy.fr, .int .i64 yy.to, .int .i64 yy.cap, .int .i64 yy.sz, .slice A4 l2.length c4] 36)
          have H5 := Lib.hid (H4.out.below (ext1 w4 (.cells #[.int .i64 yy.id, .int .i64 yy.fr, .int .i64 yy.to, .int .i64 yy.cap, .int .i64 yy.sz, .slice A4 l2.length c4] 36)))
          have B5 := Lib.hid (B4.out.trans ((ext1 w4 (.cells #[.int .i64 yy.id, .int .i64 yy.fr, .int .i64 yy.to, .int .i64 yy.cap, .int .i64 yy.sz, .slice A4 l2.length c4] 36)).mono H4.out.size))
          have HQ5 := Lib.hid (HQ4.out.below (ext1 w4 (.cells #[.int .i64 yy.id, .int .i64 yy.fr, .int .i64 yy.to, .int .i64 yy.cap, .int .i64 yy.sz, .slice A4 l2.length c4] 36)))
          generalize (w4.alloc (.cells #[.int .i64 yy.id, .int .i64 yy.fr, .int .i64 yy.to, .int .i64 yy.cap, .int .i64 yy.sz, .slice A4 l2.length c4] 36)) = w5 at *
          obtain ⟨gq2, A6, c6, e6, _, ⟨csq, hgq⟩, hc6, _, _⟩ := H5.out.2.2.2.1.open HQ.out
          injection e6 with e6; injection e6 with e6; subst e6
          have q0 := hc6 0 _ rfl
          have q1 := hc6 1 _ rfl
          have q2 := hc6 2 _ rfl
          have q3 := hc6 3 _ rfl
          have q4 := hc6 4 _ rfl
          have q5 := hc6 5 _ rfl
          dsimp only [Nat.add_zero] at q0 q1 q2 q3 q4 q5
          have f0 := blk_frozen hgq (k * 6)
          have f1 := blk_frozen hgq (k * 6 + 1)
          have f2 := blk_frozen hgq (k * 6 + 2)
          have f3 := blk_frozen hgq (k * 6 + 3)
          have f4 := blk_frozen hgq (k * 6 + 4)
          have f5 := blk_frozen hgq (k * 6 + 5)
          have HGQ := Lib.hid hgq; clear hgq hc6
          have n0 := blk_cell G5.out 0
          have n1 := blk_cell G5.out 1
          have n2 := blk_cell G5.out 2
          have n3 := blk_cell G5.out 3
          have n4 := blk_cell G5.out 4
          have n5 := blk_cell G5.out 5
          have c17 : w5.cell? ⟨g, 17, none⟩ = some (.slice (some ⟨gq, 0, none⟩) nq d) := by rw [H5.out.cell 17, ← HNQ.out]; rfl
          go_region
          all_goals go_wp2
          all_goals go_ret
          all_goals rw [HS.out]
          all_goals exact ⟨rfl, (set6_below B5.out (H5.out.putQ (k := k) (by rw [HNQ.out]; exact hkl) HQ5.out).2 _ _ _ _ _ _ _).drew, Am, cm, some ⟨gq, 0, none⟩, d, Ci, ci, ((H5.out.putQ (k := k) (by rw [HNQ.out]; exact hkl) HQ5.out).1.drew).eq (by rw [List.length_set])⟩
        have H5 := Lib.hid (H4.out.below (ext1 w4 (.cells #[.int .i64 yy.id, .int .i64 yy.fr, .int .i64 yy.to, .int .i64 yy.cap, .int .i64 yy.sz, .slice A4 l2.length c4] 36)))
        have B5 := Lib.hid (B4.out.trans ((ext1 w4 (.cells #[.int .i64 yy.id, .int .i64 yy.fr, .int .i64 yy.to, .int .i64 yy.cap, .int .i64 yy.sz, .slice A4 l2.length c4] 36)).mono H4.out.size))
        have hE1 : (E == 0) = false := by simp [hE]
        have HS := Lib.hid (sendV_err HQ1.out HPR.out hE); clear hE
        go_wp2_with fail
        go_wp2
        go_ret
        rw [HS.out]
        exact ⟨rfl, B5.out, Am, cm, some ⟨gq, 0, none⟩, d, Ci, ci, H5.out⟩
      · have hf1 : (q.ch.fr == x.id) = false := by simp [hfr]
        have hf2 : (q.ch.fr != x.id) = true := by simp [hfr]
        have HS := Lib.hid (sendV_bad HQ1.out (fun h => hfr h.2)); clear hfr
        go_wp2_with fail
        refine region_ext (by kernel_rfl) (by kernel_rfl) ?_
        try simp only [List.append_eq, List.cons_append, List.nil_append]
        repeat (go_big_quiet_step (fail))
        refine wpQuiet_nil ?_
        intro v9
        go_wp2
        go_ret
        rw [HS.out]
        exact ⟨rfl, B2.out.trans (v9.below.mono H2.out.size), Am, cm, some ⟨gq, 0, none⟩, d, Ci, ci, H2.out.below v9.below⟩
    · have he1 : (ee == 0) = false := by simp [hee]
      have he2 : (ee != 0) = true := by simp [hee]
      have HS := Lib.hid (sendV_bad HQ1.out (fun h => hee (by rw [← HEE.out, ← HML.out]; exact h.1))); clear hee
      go_wp2_with fail
      refine region_ext (by kernel_rfl) (by kernel_rfl) ?_
      try simp only [List.append_eq, List.cons_append, List.nil_append]
      repeat (go_big_quiet_step (fail))
      refine wpQuiet_nil ?_
      intro v9
      go_wp2
      go_ret
      rw [HS.out]
      exact ⟨rfl, B2.out.trans (v9.below.mono H2.out.size), Am, cm, some ⟨gq, 0, none⟩, d, Ci, ci, H2.out.below v9.below⟩
end Go.Proofs.Ythkkmnckidfmkaa.hy
