/- Calls of a partition: what receive does; no condition. -/
import Derived.Test.YthkkmnckidfmkaaRows
import Derived.Test.YthkkmnckidfmkaaHyD
import Derived.Deep.RegionHeld3
import Derived.Deep.CutRange
import Derived.BigRegion
namespace Go.Proofs.Ythkkmnckidfmkaa.hy
open Go Go.ChangeShapes Go.WideShapes Go.ChangeAt Go.RowKit Go.Proofs.Ythkkmnckidfmkaa.rows
/-- What receive does to the part and to the queues; did it? -/
def recvV (x : Pt) (qs : List Qu) : Bool × Pt × List Qu := match qat qs x.r0 with
  | none => (false, x, qs)
  | some (k, q) => if mem.thereE x.mem.length x.r1 x.r2 = 0 ∧ q.ch.to = x.id then (if (chan.takeR q.ch q.msgs).2.2.2 = 0 then (true, { x with r0 := ((chan.takeR q.ch q.msgs).1.length : Int) + 1, mem := mem.written x.mem ((chan.takeR q.ch q.msgs).1.take x.r2.toNat) x.r1 }, qs.set k ⟨(chan.takeR q.ch q.msgs).2.1, (chan.takeR q.ch q.msgs).2.2.1⟩) else (true, { x with r0 := 0 }, qs)) else (false, x, qs)
theorem recvV_no {x : Pt} {qs : List Qu} (h : qat qs x.r0 = none) : recvV x qs = (false, x, qs) := by unfold recvV; rw [h]
theorem recvV_bad {x : Pt} {qs : List Qu} {k : Nat} {q : Qu} (h : qat qs x.r0 = some (k, q)) (h2 : ¬ (mem.thereE x.mem.length x.r1 x.r2 = 0 ∧ q.ch.to = x.id)) : recvV x qs = (false, x, qs) := by unfold recvV; rw [h]; exact if_neg h2
theorem recvV_err {x : Pt} {qs : List Qu} {k : Nat} {q : Qu} {m : Msg} {y : Ch} {l2 : List Msg} {E : Int} (h : qat qs x.r0 = some (k, q)) (h2 : mem.thereE x.mem.length x.r1 x.r2 = 0 ∧ q.ch.to = x.id) (hr : chan.takeR q.ch q.msgs = (m, y, l2, E)) (hE : E ≠ 0) : recvV x qs = (true, { x with r0 := 0 }, qs) := by
  unfold recvV; rw [h]; dsimp only; rw [hr, if_pos h2]; exact if_neg hE
theorem recvV_ok {x : Pt} {qs : List Qu} {k : Nat} {q : Qu} {m : Msg} {y : Ch} {l2 : List Msg} {E : Int} (h : qat qs x.r0 = some (k, q)) (h2 : mem.thereE x.mem.length x.r1 x.r2 = 0 ∧ q.ch.to = x.id) (hr : chan.takeR q.ch q.msgs = (m, y, l2, E)) (hE : E = 0) : recvV x qs = (true, { x with r0 := (m.length : Int) + 1, mem := mem.written x.mem (m.take x.r2.toNat) x.r1 }, qs.set k ⟨y, l2⟩) := by
  unfold recvV; rw [h]; dsimp only; rw [if_pos h2, hr]; exact if_pos hE
theorem Bys.drew {lo : Nat} {w : World} {C : Option Addr} {ci : Nat} {l : Msg} (h : Bys lo w C ci l) : Bys lo w.drew C ci l := h
theorem Ato.memory {lo g : Nat} {w : World} {cs : Array Value} {Am A' : Option Addr} {cm c' : Nat} {l l' : Msg} {B : Option Addr} {d : Nat} {qs : List Qu} {Ci : Option Addr} {ci : Nat} {inp : Msg} (h : Ato lo g w cs Am cm l B d qs Ci ci inp) (k : Bys lo w A' c' l') : Ato lo g w cs A' c' l' B d qs Ci ci inp := ⟨h.1, h.2.1, k, h.2.2.2⟩
theorem takeR_len {x : Ch} {ls : List Msg} {m : Msg} {y : Ch} {l2 : List Msg} {E : Int} (hr : chan.takeR x ls = (m, y, l2, E)) {n : Nat} (h : ∀ l ∈ ls, l.length ≤ n) : m.length ≤ n := by
  unfold chan.takeR at hr
  split at hr
  · split at hr
    · injection hr with h1 _; subst h1; exact Nat.zero_le _
    · rename_i m' r
      injection hr with h1 _; subst h1; exact h _ (List.mem_cons_self ..)
  · injection hr with h1 _; subst h1; exact Nat.zero_le _
set_option maxRecDepth 100000 in
set_option maxHeartbeats 4000000 in
theorem receive {lo g : Nat} {w : World} {x : Pt} {fr tk ver : Int} {qs : List Qu} {inp : Msg} {y : Bool} (hql : qs.length ≤ 1000000) (hqm : ∀ q ∈ qs, q.msgs.length ≤ 1000000 ∧ ∀ m ∈ q.msgs, m.length ≤ 1000000) (r0a : 0 ≤ x.r0) (r0b : x.r0 < 4294967296) (r1a : 0 ≤ x.r1) (r1b : x.r1 < 4294967296) (r2a : 0 ≤ x.r2) (r2b : x.r2 < 4294967296) (h : At lo g w x fr tk ver qs inp y) :
    Calls Try.prog 38 #[.pointer (some ⟨g, 0, none⟩)] w (MOut lo g (recvV x qs).1 (recvV x qs).2.1 fr tk ver (recvV x qs).2.2 inp y w) := by
  obtain ⟨Am, cm, B, d, Ci, ci, h⟩ := h
  have H := Lib.hid h; clear h
  obtain ⟨ml, hml⟩ : ∃ m, x.mem.length = m := ⟨_, rfl⟩
  obtain ⟨nq, hnq⟩ : ∃ m, qs.length = m := ⟨_, rfl⟩
  obtain ⟨ni, hni⟩ : ∃ m, inp.length = m := ⟨_, rfl⟩
  have HNI := Lib.hid hni; clear hni
  have HML := Lib.hid hml; have HNQ := Lib.hid hnq; have HQM := Lib.hid hqm
  have h63 : nq ≤ 1000000 := by rw [← hnq]; exact hql
  clear hml hnq hqm hql
  have c3 : w.cell? ⟨g, 3, none⟩ = some (.int .u32 x.r0) := H.out.cell 3
  have c17 : w.cell? ⟨g, 17, none⟩ = some (.slice B nq d) := by rw [H.out.cell 17, ← HNQ.out]; rfl
  have T0 := queue g qs B nq d HNQ.out h63 x.r0 r0a r0b w c17 H.out.2.2.2.1.qus
  have HT0 := Lib.hid T0; clear T0
  obtain ⟨i, hi⟩ : ∃ i, qix qs x.r0 = i := ⟨_, rfl⟩
  rw [hi] at HT0
  have HI := Lib.hid hi; clear hi
  go_enter Try.func38, Try.ntmps38
  go_wp2_with fail
  refine HT0.out.mono ?_
  rintro e w1 ⟨rfl, b1⟩
  clear HT0 c3 c17
  have H1 := Lib.hid (H.out.below b1)
  have B1 := Lib.hid (b1.mono H.out.size)
  clear b1
  obtain ⟨ee, hee⟩ : ∃ m, mem.thereE x.mem.length x.r1 x.r2 = m := ⟨_, rfl⟩
  have hw1 : IntKind.i64.wrap x.r1 = x.r1 := by rw [IntKind.wrap_i64]; omega
  have HR := Lib.hid (show ∀ W, Below w1.heap.size w1 W → Calls Try.prog 46 #[.slice Am ml cm, .int .i64 (IntKind.i64.wrap x.r1), .int .i64 x.r2] W fun e w' => ∃ v, e = .returned (.tuple #[v, .int .i64 ee]) ∧ mem.CopyOf (mem.part x.mem x.r1 x.r2) W v w' from fun W hW => by rw [hw1, ← hee, ← HML.out]; exact mem.read x.mem Am cm (H1.out.below hW).2.2.1.2.1 (H1.out.below hW).2.2.1.1 x.r1 x.r2 W (H1.out.below hW).2.2.1.2.2.rd)
  rw [HML.out] at hee
  have HEE := Lib.hid hee; clear hee hw1
  have c4 : w1.cell? ⟨g, 4, none⟩ = some (.int .u32 x.r1) := H1.out.cell 4
  have c5 : w1.cell? ⟨g, 5, none⟩ = some (.int .u32 x.r2) := H1.out.cell 5
  have c13 : w1.cell? ⟨g, 13, none⟩ = some (.slice Am ml cm) := by rw [H1.out.cell 13, ← HML.out]; rfl
  go_wp2_with fail
  have HSALL := Lib.hid (show ∀ w', Below w1.heap.size w1 w' → (Below w1.heap.size w1 w' ∧ w'.cell? ⟨g, 4, none⟩ = some (.int .u32 x.r1) ∧ w'.cell? ⟨g, 13, none⟩ = some (.slice Am ml cm)) from fun w' hb => ⟨hb, (hb.cell (p := ⟨g, 4, none⟩) H1.out.lt).trans c4, (hb.cell (p := ⟨g, 13, none⟩) H1.out.lt).trans c13⟩)
  have hk1 : Below w1.heap.size w1 w1.drew := (Below.refl w1.heap.size w1).drew
  go_region_held3 (fun w' => Below w1.heap.size w1 w' ∧ w'.cell? ⟨g, 4, none⟩ = some (.int .u32 x.r1) ∧ w'.cell? ⟨g, 13, none⟩ = some (.slice Am ml cm))
    (first | (with_reducible exact HSALL.out _ hk1) | (with_reducible exact HSALL.out _ (by assumption)))
    (first | ((with_reducible refine (HR.out _ (And.left (by assumption))).mono ?_); rintro e u1 ⟨v, rfl, hv⟩; obtain ⟨Ar, cr, rfl, hy, hb2⟩ := Bys.of_copy hv; have l1 : Below w1.heap.size w1 u1 := Below.trans (And.left (by assumption)) (Below.mono hb2 (Below.size (And.left (by assumption))))))
  obtain ⟨w2, hw2⟩ : ∃ x : World, x = u1 := ⟨_, rfl⟩
  subst hw2
  have H2 := Lib.hid (H1.out.below l1)
  have B2 := Lib.hid (B1.out.trans (l1.mono H1.out.size))
  clear c4 c5 c13 HSALL hk1 HR hb2 hy l1 hv
  rcases qat_spec qs x.r0 with ⟨hq1, hq2⟩ | ⟨k, q, hq1, hq2, hqk, hqi⟩
  · obtain rfl : i = -1 := HI.out.symm.trans hq2
    have HS := Lib.hid (recvV_no hq1); clear hq1 hq2 HI
    go_wp2_with fail
    refine region_ext (by kernel_rfl) (by kernel_rfl) ?_
    try simp only [List.append_eq, List.cons_append, List.nil_append]
    repeat (go_big_quiet_step (fail))
    refine wpQuiet_nil ?_
    intro v9
    go_wp2
    go_ret
    rw [HS.out]
    exact ⟨rfl, B2.out.trans (v9.below.mono H2.out.size), Am, cm, B, d, Ci, ci, H2.out.below v9.below⟩
  · obtain rfl : i = (k : Int) := HI.out.symm.trans hq2
    have HQ := Lib.hid hqk; have HQ1 := Lib.hid hq1; clear hqk hq1 hq2 hqi HI
    have hkl : k < nq := by rw [← HNQ.out]; exact (List.getElem?_eq_some_iff.1 HQ.out).1
    have hki : (k : Int) < (nq : Int) := by omega
    have hk00 : (0 : Int) ≤ (k : Int) := by omega
    have hkd : ((k : Int) < 0) = False := eq_false (by omega)
    obtain ⟨gq, Aq, cq, rfl, hgl, _, hcq, hoq, _⟩ := H2.out.2.2.2.1.open HQ.out
    have HCQ := Lib.hid hcq; have HOQ := Lib.hid hoq; clear hcq hoq
    by_cases hee : ee = 0
    · subst hee
      have q0 := HCQ.out 0 _ rfl
      have q1 := HCQ.out 1 _ rfl
      have q2 := HCQ.out 2 _ rfl
      have q3 := HCQ.out 3 _ rfl
      have q4 := HCQ.out 4 _ rfl
      have q5 := HCQ.out 5 _ rfl
      dsimp only [Nat.add_zero] at q0 q1 q2 q3 q4 q5
      have c0 : w2.cell? ⟨g, 0, none⟩ = some (.int .i64 x.id) := H2.out.cell 0
      have c17 : w2.cell? ⟨g, 17, none⟩ = some (.slice (some ⟨gq, 0, none⟩) nq d) := by rw [H2.out.cell 17, ← HNQ.out]; rfl
      have k0 := xc c0; have k17 := xc c17; have k1 := xc q2
      by_cases hfr : q.ch.to = x.id
      · have hf1 : (q.ch.to == x.id) = true := by simp [hfr]
        have hf2 : (q.ch.to != x.id) = false := by simp [hfr]
        have HFR := Lib.hid hfr; clear hfr
        obtain ⟨m, yy, l2, E, hr⟩ : ∃ m yy l2 E, chan.takeR q.ch q.msgs = (m, yy, l2, E) := ⟨_, _, _, _, rfl⟩
        have hmm := takeR_len hr (HQM.out q (List.mem_of_getElem? HQ.out)).2
        have HPR := Lib.hid hr; clear hr
        go_wp2_with fail
        refine region_ext (by kernel_rfl) (by kernel_rfl) ?_
        try simp only [List.append_eq, List.cons_append, List.nil_append]
        repeat (go_big_quiet_step (fail))
        refine wpQuiet_nil ?_
        intro v9
        obtain ⟨w3, hw3⟩ : ∃ z : World, z = v9.world := ⟨_, rfl⟩
        rw [← hw3]
        have b3 : Below w2.heap.size w2 w3 := hw3 ▸ v9.below
        clear hw3 v9
        have H3 := Lib.hid (H2.out.below b3)
        have B3 := Lib.hid (B2.out.trans (b3.mono H2.out.size))
        have HO3 := Lib.hid (ownM.below HOQ.out b3)
        have HC3 := Lib.hid (fun (j : Nat) (u : Value) (hu : (Qu.cells q Aq cq)[j]? = some u) => (b3.cell (p := ⟨gq, k * 6 + j, none⟩) (World.block_lt_of_cell? w2 _ (HCQ.out j u hu))).trans (HCQ.out j u hu))
        clear q0 q1 q2 q3 q4 q5 c0 c17 k0 k17 k1 HCQ HOQ b3 H H1 H2 B1 B2
        have q0 := HC3.out 0 _ rfl
        have q1 := HC3.out 1 _ rfl
        have q2 := HC3.out 2 _ rfl
        have q3 := HC3.out 3 _ rfl
        have q4 := HC3.out 4 _ rfl
        have q5 := HC3.out 5 _ rfl
        dsimp only [Nat.add_zero] at q0 q1 q2 q3 q4 q5
        have c17 : w3.cell? ⟨g, 17, none⟩ = some (.slice (some ⟨gq, 0, none⟩) nq d) := by rw [H3.out.cell 17, ← HNQ.out]; rfl
        have T3 := chan.take_to HPR.out Aq cq (HQM.out q (List.mem_of_getElem? HQ.out)).1 w3 HO3.out.2.2.rows
        simp only [chan.qcells] at T3
        have HT3 := Lib.hid T3; clear T3
        go_wp2_with fail
        refine HT3.out.mono ?_
        rintro e w4 ⟨u, A4, c4, rfl, hu4, hq4, b4⟩
        clear HT3 q0 q1 q2 q3 q4 q5 c17
        obtain ⟨A5, c5, rfl, hy4⟩ := Bys.of_msg hu4
        obtain ⟨mm, hmn⟩ : ∃ z, m.length = z := ⟨_, rfl⟩
        rw [hmn] at hmm
        rw [hmn]
        have HMN := Lib.hid hmn; clear hmn hu4
        have H4 := Lib.hid (H3.out.below b4)
        have B4 := Lib.hid (B3.out.trans (b4.mono H3.out.size))
        have HQ4 := Lib.hid (show ownM lo w4 A4 c4 ⟨yy, l2⟩ from ⟨hq4.1, hq4.2.1, hq4.2.2.mono H3.out.size (Nat.le_refl _)⟩)
        have HY4 := Lib.hid (hy4.lo H3.out.size)
        have H5 := Lib.hid (H4.out.below (ext1 w4 (.cells #[.int .i64 yy.id, .int .i64 yy.fr, .int .i64 yy.to, .int .i64 yy.cap, .int .i64 yy.sz, .slice A4 l2.length c4] 36)))
        have B5 := Lib.hid (B4.out.trans ((ext1 w4 (.cells #[.int .i64 yy.id, .int .i64 yy.fr, .int .i64 yy.to, .int .i64 yy.cap, .int .i64 yy.sz, .slice A4 l2.length c4] 36)).mono H4.out.size))
        clear hq4 b4 hy4 HC3 HO3 H3 B3
        by_cases hE : E = 0
        · subst hE
          have HS := Lib.hid (recvV_ok HQ1.out ⟨by rw [HML.out]; exact HEE.out, HFR.out⟩ HPR.out rfl)
          go_wp2_with fail
          have G5 := Lib.hid (blk_new w4 #[.int .i64 yy.id, .int .i64 yy.fr, .int .i64 yy.to, .int .i64 yy.cap, .int .i64 yy.sz, .slice A4 l2.length c4] 36)
          have HQ5 := Lib.hid (HQ4.out.below (ext1 w4 (.cells #[.int .i64 yy.id, .int .i64 yy.fr, .int .i64 yy.to, .int .i64 yy.cap, .int .i64 yy.sz, .slice A4 l2.length c4] 36)))
          have HY5 := Lib.hid (HY4.out.below (ext1 w4 (.cells #[.int .i64 yy.id, .int .i64 yy.fr, .int .i64 yy.to, .int .i64 yy.cap, .int .i64 yy.sz, .slice A4 l2.length c4] 36)))
          generalize (w4.alloc (.cells #[.int .i64 yy.id, .int .i64 yy.fr, .int .i64 yy.to, .int .i64 yy.cap, .int .i64 yy.sz, .slice A4 l2.length c4] 36)) = w5 at *
          obtain ⟨gq2, A6, c6, e6, _, ⟨csq, hgq⟩, hc6, _, _⟩ := H5.out.2.2.2.1.open HQ.out
          injection e6 with e6; injection e6 with e6; subst e6
          have q0 := hc6 0 _ rfl
          have q1 := hc6 1 _ rfl
          have q2 := hc6 2 _ rfl
          have q3 := hc6 3 _ rfl
          have q4 := hc6 4 _ rfl
          have q5 := hc6 5 _ rfl
          dsimp only [Nat.add_zero] at q0 q1 q2 q3 q4 q5
          have f0 := blk_frozen hgq (k * 6)
          have f1 := blk_frozen hgq (k * 6 + 1)
          have f2 := blk_frozen hgq (k * 6 + 2)
          have f3 := blk_frozen hgq (k * 6 + 3)
          have f4 := blk_frozen hgq (k * 6 + 4)
          have f5 := blk_frozen hgq (k * 6 + 5)
          have HGQ := Lib.hid hgq; clear hgq hc6
          have n0 := blk_cell G5.out 0
          have n1 := blk_cell G5.out 1
          have n2 := blk_cell G5.out 2
          have n3 := blk_cell G5.out 3
          have n4 := blk_cell G5.out 4
          have n5 := blk_cell G5.out 5
          have c17 : w5.cell? ⟨g, 17, none⟩ = some (.slice (some ⟨gq, 0, none⟩) nq d) := by rw [H5.out.cell 17, ← HNQ.out]; rfl
          go_region
          have H6 := Lib.hid ((H5.out.putQ (k := k) (by rw [HNQ.out]; exact hkl) HQ5.out).1.drew)
          have B6 := Lib.hid ((set6_below B5.out (H5.out.putQ (k := k) (by rw [HNQ.out]; exact hkl) HQ5.out).2 (k * 6) (.int .i64 yy.id) (.int .i64 yy.fr) (.int .i64 yy.to) (.int .i64 yy.cap) (.int .i64 yy.sz) (.slice A4 l2.length c4)).drew)
          have HY6 := Lib.hid ((HY5.out.keptX (by decide) (set6_kept HGQ.out (k * 6) (.int .i64 yy.id) (.int .i64 yy.fr) (.int .i64 yy.to) (.int .i64 yy.cap) (.int .i64 yy.sz) (.slice A4 l2.length c4))).drew)
          dsimp only [set6] at H6 B6 HY6
          generalize (((((((w5.setCell ⟨gq, k * 6, none⟩ (.int .i64 yy.id)).setCell ⟨gq, k * 6 + 1, none⟩ (.int .i64 yy.fr)).setCell ⟨gq, k * 6 + 2, none⟩ (.int .i64 yy.to)).setCell ⟨gq, k * 6 + 3, none⟩ (.int .i64 yy.cap)).setCell ⟨gq, k * 6 + 4, none⟩ (.int .i64 yy.sz)).setCell ⟨gq, k * 6 + 5, none⟩ (.slice A4 l2.length c4))).drew = w6 at *
          clear H4 B4 H5 B5 HY4 HQ4 HY5 HQ5 G5 HGQ q0 q1 q2 q3 q4 q5 f0 f1 f2 f3 f4 f5 n0 n1 n2 n3 n4 n5 c17
          have c4 : w6.cell? ⟨g, 4, none⟩ = some (.int .u32 x.r1) := H6.out.cell 4
          have c13 : w6.cell? ⟨g, 13, none⟩ = some (.slice Am ml cm) := by rw [H6.out.cell 13, ← HML.out]; rfl
          have f13 : w6.frozen? ⟨g, 13, none⟩ = false := H6.out.frozen 13
          have hmi : (mm : Int) ≤ 1000000 := by omega
          have hw1 : IntKind.i64.wrap x.r1 = x.r1 := by rw [IntKind.wrap_i64]; omega
          obtain ⟨hh, hl2⟩ : ∃ z : Nat, (if x.r2 < (mm : Int) then x.r2 else (mm : Int)) = (z : Int) := by split; exact Int.eq_ofNat_of_zero_le r2a; exact ⟨mm, rfl⟩
          have hl3 : m.take x.r2.toNat = m.take hh := by split at hl2; rw [hl2, Int.toNat_natCast]; rw [← Int.ofNat.inj hl2, ← HMN.out, List.take_length]; exact List.take_of_length_le (by rw [HMN.out]; omega)
          have hl4 : hh ≤ mm := by split at hl2 <;> omega
          have hl5 : (m.take hh).length = hh := by rw [List.length_take, HMN.out]; omega
          obtain ⟨ez, hez⟩ : ∃ z, mem.thereE x.mem.length x.r1 ((m.take hh).length : Int) = z := ⟨_, rfl⟩
          obtain ⟨wm, hwm⟩ : ∃ z, mem.written x.mem (m.take hh) x.r1 = z := ⟨_, rfl⟩
          have HT6 := Lib.hid (show ∀ W, Below w6.heap.size w6 W → Calls Try.prog 49 #[.slice Am ml cm, .int .i64 (IntKind.i64.wrap x.r1), .slice A5 hh c5] W fun e w' => ∃ v, e = .returned (.tuple #[v, .int .i64 ez]) ∧ mem.CopyOf wm W v w' from fun W hW => by have T6 := mem.write x.mem (m.take hh) Am A5 cm c5 (H6.out.below hW).2.2.1.2.1 (H6.out.below hW).2.2.1.1 x.r1 W (H6.out.below hW).2.2.1.2.2.rd (by have h := (HY6.out.below hW).2.2.rd.take hh; rwa [bcs_take] at h); rw [hez, hwm, hl5, HML.out] at T6; rw [hw1]; exact T6)
          have hl8 : hh ≤ c5 := Nat.le_trans hl4 (by rw [← HMN.out]; exact HY6.out.1)
          have hl9 : (hh : Int) ≤ (c5 : Int) := by omega
          have hs := HS.out
          rw [hl3, hwm, HMN.out] at hs
          have HS2 := Lib.hid hs; clear HS hs hl3 hl5 hez hwm hw1 HY6
          have hmi0 : (0 : Int) ≤ (mm : Int) := by omega
          have hl6 : (hh : Int) ≤ (mm : Int) := by omega
          have hl7 : (0 : Int) ≤ (hh : Int) := by omega
          go_wp2_with fail
          go_cut [] from 94 to 118 (fun wc => ∃ A7 c7, Below lo w wc ∧ Ato lo g wc (cells20 { x with mem := wm } A7 c7 fr tk ver (some ⟨gq, 0, none⟩) qs.length d Ci inp.length ci y) A7 c7 wm (some ⟨gq, 0, none⟩) d (qs.set k ⟨yy, l2⟩) Ci ci inp)
          case first =>
            go_wp2_with fail
            go_region_with (go_at_call 49; refine (HT6.out _ (Below.refl _ _).drew).mono ?_; rintro e w7 ⟨v, rfl, hv⟩; obtain ⟨A7, c7, rfl, hy7, hb7⟩ := Bys.of_copy hv; have H7 := Lib.hid (H6.out.drew.below hb7); have c13b : w7.cell? ⟨g, 13, none⟩ = some (.slice Am ml cm) := (by rw [H7.out.cell 13, ← HML.out]; rfl); have f13b : w7.frozen? ⟨g, 13, none⟩ = false := H7.out.frozen 13)
            all_goals
              have H8 := (H7.out.memory (hy7.lo H6.out.size)).set 13 (.slice A7 wm.length c7)
              have B8 := (B6.out.trans ((show Below w6.heap.size w6 w7 from ⟨hb7.os, hb7.tape, hb7.output, hb7.size, hb7.block⟩).mono H6.out.size)).setCell (p := ⟨g, 13, none⟩) H7.out.2.1 (.slice A7 wm.length c7)
              have HH := Lib.hid (And.intro B8 (Ato.eq (cs' := cells20 { x with mem := wm } A7 c7 fr tk ver (some ⟨gq, 0, none⟩) qs.length d Ci inp.length ci y) H8 rfl)); clear B8 H8 c13b f13b H7 hy7 hb7 hv
              go_wp2_with fail
              go_meet
              exact ⟨A7, c7, HH.out⟩
          case rest =>
            obtain ⟨A7, c7, hb8, h8⟩ := hcut
            have H8 := Lib.hid h8; have B8 := Lib.hid hb8; clear h8 hb8 H6 c4 c13 f13
            obtain ⟨w8, hw8⟩ : ∃ z : World, z = wc := ⟨_, rfl⟩
            subst hw8
            have c3 : w8.cell? ⟨g, 3, none⟩ = some (.int .u32 x.r0) := H8.out.cell 3
            have f3 : w8.frozen? ⟨g, 3, none⟩ = false := H8.out.frozen 3
            go_wp2
            go_ret
            rw [HS2.out]
            exact ⟨rfl, B8.out.setCell (p := ⟨g, 3, none⟩) H8.out.2.1 _, A7, c7, some ⟨gq, 0, none⟩, d, Ci, ci, (H8.out.set 3 (.int .u32 ((mm : Int) + 1))).eq (by rw [List.length_set]; rfl)⟩
        have hE1 : (E == 0) = false := by simp [hE]
        have hE2 : (E != 0) = true := by simp [hE]
        have HS := Lib.hid (recvV_err HQ1.out ⟨by rw [HML.out]; exact HEE.out, HFR.out⟩ HPR.out hE); clear hE
        have c3 : (w4.alloc (.cells #[.int .i64 yy.id, .int .i64 yy.fr, .int .i64 yy.to, .int .i64 yy.cap, .int .i64 yy.sz, .slice A4 l2.length c4] 36)).cell? ⟨g, 3, none⟩ = some (.int .u32 x.r0) := H5.out.cell 3
        have f3 : (w4.alloc (.cells #[.int .i64 yy.id, .int .i64 yy.fr, .int .i64 yy.to, .int .i64 yy.cap, .int .i64 yy.sz, .slice A4 l2.length c4] 36)).frozen? ⟨g, 3, none⟩ = false := H5.out.frozen 3
        go_wp2_with fail
        go_wp2
        go_ret
        rw [HS.out]
        exact ⟨rfl, B5.out.setCell (p := ⟨g, 3, none⟩) H5.out.2.1 _, Am, cm, some ⟨gq, 0, none⟩, d, Ci, ci, (H5.out.set 3 (.int .u32 0)).eq rfl⟩
      · have hf1 : (q.ch.to == x.id) = false := by simp [hfr]
        have hf2 : (q.ch.to != x.id) = true := by simp [hfr]
        have HS := Lib.hid (recvV_bad HQ1.out (fun h => hfr h.2)); clear hfr
        go_wp2_with fail
        refine region_ext (by kernel_rfl) (by kernel_rfl) ?_
        try simp only [List.append_eq, List.cons_append, List.nil_append]
        repeat (go_big_quiet_step (fail))
        refine wpQuiet_nil ?_
        intro v9
        go_wp2
        go_ret
        rw [HS.out]
        exact ⟨rfl, B2.out.trans (v9.below.mono H2.out.size), Am, cm, some ⟨gq, 0, none⟩, d, Ci, ci, H2.out.below v9.below⟩
    · have he1 : (ee == 0) = false := by simp [hee]
      have he2 : (ee != 0) = true := by simp [hee]
      have HS := Lib.hid (recvV_bad HQ1.out (fun h => hee (by rw [← HEE.out, ← HML.out]; exact h.1))); clear hee
      go_wp2_with fail
      refine region_ext (by kernel_rfl) (by kernel_rfl) ?_
      try simp only [List.append_eq, List.cons_append, List.nil_append]
      repeat (go_big_quiet_step (fail))
      refine wpQuiet_nil ?_
      intro v9
      go_wp2
      go_ret
      rw [HS.out]
      exact ⟨rfl, B2.out.trans (v9.below.mono H2.out.size), Am, cm, some ⟨gq, 0, none⟩, d, Ci, ci, H2.out.below v9.below⟩
end Go.Proofs.Ythkkmnckidfmkaa.hy
