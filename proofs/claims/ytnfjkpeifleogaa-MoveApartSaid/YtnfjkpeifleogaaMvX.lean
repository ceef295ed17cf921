/- Moves: Great and once, with their very answers; no condition. -/
import Derived.Test.YtnfjkpeifleogaaRows
import Derived.Test.YtnfjkpeifleogaaMvW
namespace Go.Proofs.Ytnfjkpeifleogaa.mv
open Go Go.ChangeShapes Go.WideShapes Go.ChangeAt Go.RowKit Go.Proofs.Ytnfjkpeifleogaa.rows
def sumP (l : List Pt) : Nat := (l.map fun x => x.mem.length).sum
def sumM (l : List Msg) : Nat := (l.map fun x => x.length + 5).sum
def sumQ (l : List Qu) : Nat := (l.map fun x => sumM x.msgs).sum
def sumI (l : List Pn) : Nat := (l.map fun x => x.img.length).sum
theorem sum_take {α : Type} (f : α → Nat) {l : List α} {k : Nat} {x : α} (h : l[k]? = some x) : ((l.take (k + 1)).map f).sum = ((l.take k).map f).sum + f x := by
  rw [List.take_add_one, h]; simp
theorem sum_take_le {α : Type} (f : α → Nat) (l : List α) (k : Nat) : ((l.take k).map f).sum ≤ (l.map f).sum := by
  have h := congrArg (fun m => (m.map f).sum) (List.take_append_drop k l)
  simp only [List.map_append, List.sum_append] at h
  omega
theorem sum_mem {α : Type} (f : α → Nat) : ∀ {l : List α} {x : α}, x ∈ l → f x ≤ (l.map f).sum
  | a :: l, x, h => by
    rw [List.map_cons, List.sum_cons]
    rcases List.mem_cons.1 h with rfl | h
    · omega
    · have := sum_mem f h; omega
theorem sumP_take {l : List Pt} {k : Nat} {x : Pt} (h : l[k]? = some x) : sumP (l.take (k + 1)) = sumP (l.take k) + x.mem.length := sum_take _ h
theorem sumM_take {l : List Msg} {k : Nat} {x : Msg} (h : l[k]? = some x) : sumM (l.take (k + 1)) = sumM (l.take k) + (x.length + 5) := sum_take (fun x : Msg => x.length + 5) h
theorem sumQ_take {l : List Qu} {k : Nat} {x : Qu} (h : l[k]? = some x) : sumQ (l.take (k + 1)) = sumQ (l.take k) + sumM x.msgs := sum_take (fun x : Qu => sumM x.msgs) h
theorem sumI_take {l : List Pn} {k : Nat} {x : Pn} (h : l[k]? = some x) : sumI (l.take (k + 1)) = sumI (l.take k) + x.img.length := sum_take _ h
/-- Is this more than the laws go through? -/
def greatV (ps : List Pt) (pn : List Pn) (qs : List Qu) (nc : Nat) : Bool := decide (20 < ps.length ∨ 20 < qs.length ∨ 20 < pn.length ∨ 20 < nc ∨ 8000 < sumP ps + sumQ qs + sumI pn)
theorem great_big {ps : List Pt} {pn : List Pn} {qs : List Qu} {nc S k j z : Nat} {q : Qu} {l : Msg} (hS : S = sumP ps + sumQ (qs.take k) + sumM (q.msgs.take j)) (hq : qs[k]? = some q) (hl : q.msgs[j]? = some l) (hz : l.length = z) (hbig : 8000 < S + z + 5) : greatV ps pn qs nc = true := by
  apply decide_eq_true
  have h1 := sumM_take hl
  have h2 : sumM (q.msgs.take (j + 1)) ≤ sumM q.msgs := sum_take_le _ _ _
  have h3 := sumQ_take hq
  have h4 : sumQ (qs.take (k + 1)) ≤ sumQ qs := sum_take_le _ _ _
  omega
theorem great_end {ps : List Pt} {pn : List Pn} {qs : List Qu} {nc S : Nat} (h1 : ps.length ≤ 20) (h2 : qs.length ≤ 20) (h3 : pn.length ≤ 20) (h4 : nc ≤ 20) (hS : S = sumP ps + sumQ qs + sumI pn) : greatV ps pn qs nc = decide ((8000 : Int) < (S : Int)) := by
  unfold greatV
  rw [decide_eq_decide]
  omega
theorem greatV_tame {ps : List Pt} {pn : List Pn} {qs : List Qu} {nc : Nat} (h : greatV ps pn qs nc = false) : Tame ps pn qs nc := by
  have h := of_decide_eq_false h
  have hp : ps.length ≤ 20 ∧ qs.length ≤ 20 ∧ pn.length ≤ 20 ∧ nc ≤ 20 ∧ sumP ps ≤ 8000 ∧ sumQ qs ≤ 8000 ∧ sumI pn ≤ 8000 := by omega
  obtain ⟨h1, h2, h3, h4, h5, h6, h7⟩ := hp
  have hm : ∀ q ∈ qs, sumM q.msgs ≤ 8000 := fun q hq => Nat.le_trans (sum_mem (fun x : Qu => sumM x.msgs) hq) h6
  refine ⟨h1, h2, h3, h4, fun x hx => Nat.le_trans (sum_mem (fun x : Pt => x.mem.length) hx) h5, fun q hq => ⟨?_, fun m hm' => ?_⟩, fun x hx => Nat.le_trans (sum_mem (fun x : Pn => x.img.length) hx) h7⟩
  · have h8 := hm q hq
    have : ∀ l : List Msg, l.length ≤ sumM l := fun l => by
      induction l with
      | nil => simp [sumM]
      | cons a l ih => simp only [sumM, List.map_cons, List.sum_cons, List.length_cons] at ih ⊢; omega
    exact Nat.le_trans (this _) h8
  · have h8 := sum_mem (fun x : Msg => x.length + 5) hm'
    have := hm q hq
    unfold sumM at this
    omega
set_option maxHeartbeats 8000000 in
theorem great_gx (fr : Int) (ps : List Pt) (pn : List Pn) (qs : List Qu) (Ap Aq Aw An Ac : Option Addr) (np cp nq cq nw cw nn cn nc cc : Nat) (hnp : ps.length = np) (hnn : pn.length = nn) (hnq : qs.length = nq) (hp : (np : Int) ≤ 20) (hq : (nq : Int) ≤ 20) (hn : (nn : Int) ≤ 20) (hc : (nc : Int) ≤ 20)
    (hml : ∀ x ∈ ps, x.mem.length ≤ 140737488355328) (hqm : ∀ q ∈ qs, q.msgs.length ≤ 140737488355328 ∧ ∀ m ∈ q.msgs, m.length ≤ 140737488355328) (hil : ∀ x ∈ pn, x.img.length ≤ 140737488355328) (w : World) (h : Pts w Ap ps) (h2 : Pns w An pn) (h3 : Qus w Aq qs) : Calls Try.prog 9 #[.agg #[.int .i64 fr, .slice Ap np cp, .slice Aq nq cq], .agg #[.slice Aw nw cw, .slice An nn cn, .slice Ac nc cc]] w fun e w' => e = .returned (.bool (greatV ps pn qs nc)) ∧ Below w.heap.size w w' := by
  have hB2 := (((Below.refl w.heap.size w).alloc (Nat.le_refl _) (.cells #[.int .i64 fr, .slice Ap np cp, .slice Aq nq cq] 25)).alloc (by simp) (.cells #[.slice Aw nw cw, .slice An nn cn, .slice Ac nc cc] 30))
  have hs2 : ((w.alloc (.cells #[.int .i64 fr, .slice Ap np cp, .slice Aq nq cq] 25)).alloc (.cells #[.slice Aw nw cw, .slice An nn cn, .slice Ac nc cc] 30)).heap.size = w.heap.size + 2 := by simp
  have G0 := Lib.hid (blk_alloc (blk_new w #[.int .i64 fr, .slice Ap np cp, .slice Aq nq cq] 25) (.cells #[.slice Aw nw cw, .slice An nn cn, .slice Ac nc cc] 30))
  have G1 := Lib.hid (show ((w.alloc (.cells #[.int .i64 fr, .slice Ap np cp, .slice Aq nq cq] 25)).alloc (.cells #[.slice Aw nw cw, .slice An nn cn, .slice Ac nc cc] 30)).heap[w.heap.size + 1]? = some (.cells #[.slice Aw nw cw, .slice An nn cn, .slice Ac nc cc] 30 (0, 0)) by have := blk_new (w.alloc (.cells #[.int .i64 fr, .slice Ap np cp, .slice Aq nq cq] 25)) #[.slice Aw nw cw, .slice An nn cn, .slice Ac nc cc] 30; simpa using this)
  have HB := Lib.hid hB2; have HS2 := Lib.hid hs2
  have H1 := Lib.hid (h.below hB2); have H2 := Lib.hid (h2.below hB2); have H3 := Lib.hid (h3.below hB2)
  have HNP := Lib.hid hnp; have HNN := Lib.hid hnn; have HNQ := Lib.hid hnq; have HML := Lib.hid hml; have HQM := Lib.hid hqm; have HIL := Lib.hid hil
  have hnp20 : np ≤ 20 := by omega
  have hnq20 : nq ≤ 20 := by omega
  have hnn20 : nn ≤ 20 := by omega
  have hnc20 : nc ≤ 20 := by omega
  have HN4 := Lib.hid (show np ≤ 20 ∧ nq ≤ 20 ∧ nn ≤ 20 ∧ nc ≤ 20 from ⟨hnp20, hnq20, hnn20, hnc20⟩)
  have a1 := blk_cell G0.out 1; have a2 := blk_cell G0.out 2; have b1 := blk_cell G1.out 1; have b2 := blk_cell G1.out 2
  clear h h2 h3 hB2 hs2 hnp hnn hnq hml hqm hil
  go_enter Try.func9, Try.ntmps9
  go_wp2_with fail
  generalize ((w.alloc (.cells #[.int .i64 fr, .slice Ap np cp, .slice Aq nq cq] 25)).alloc (.cells #[.slice Aw nw cw, .slice An nn cn, .slice Ac nc cc] 30)) = wb at *
  go_loopw [5, 6] (fun nv iv wr => ∃ k S : Nat, k ≤ np ∧ nv = .int .i64 S ∧ iv = .int .i64 k ∧ S ≤ k * 140737488355328 ∧ S = sumP (ps.take k) ∧ wr = wb) (fun _ iv _ => np - (intOf iv).toNat)
  case atStart => exact ⟨0, 0, Nat.zero_le _, rfl, rfl, Nat.zero_le _, by simp [sumP], rfl⟩
  case round =>
    obtain ⟨k, S, hk, rfl, rfl, hS, hall, rfl⟩ := hrel
    have HALL := Lib.hid hall; clear hall
    by_cases hkl : k < np
    · have hki : (k : Int) < (np : Int) := by omega
      have hk20 : (k : Int) < 20 := by omega
      obtain ⟨b, off, rfl, _⟩ := Rws.addr pt_len (by decide) H1.out (by rw [HNP.out]; omega)
      obtain ⟨x, hx⟩ : ∃ x, ps[k]? = some x := ⟨_, List.getElem?_eq_getElem (by rw [HNP.out]; exact hkl)⟩
      obtain ⟨A0, c0, _, hc9⟩ := Rws.at pt_len H1.out hx
      have cm : wr.cell? ⟨b, off + k * 14 + 13, none⟩ = some (.slice A0 x.mem.length c0) := hc9 13 _ rfl
      have hb := HML.out x (List.mem_of_getElem? hx)
      have HX := Lib.hid hx
      obtain ⟨m, hm⟩ : ∃ m, x.mem.length = m := ⟨_, rfl⟩
      have HM := Lib.hid hm
      rw [hm] at cm hb
      clear hc9 hx hm
      have hS2 : S ≤ 20 * 140737488355328 := Nat.le_trans hS (Nat.mul_le_mul_right _ (by omega))
      have HS := Lib.hid hS
      clear hS
      have hsum : IntKind.i64.wrap ((S : Int) + (m : Int)) = ((S + m : Nat) : Int) := by rw [IntWalk.i64_in _ (by omega)]; omega
      go_wp2_with fail
      go_roundw
      case rel => exact ⟨k + 1, S + m, by omega, by first | rfl | (congr 1), by go_num, (by rw [Nat.add_mul, Nat.one_mul]; exact Nat.add_le_add HS.out hb), (by have h := HALL.out; have h2 := sumP_take HX.out; have h3 := HM.out; omega), trivial⟩
      case measure => simp [intOf]; omega
    · have hkn : np = k := by omega
      subst hkn
      have HMEM := HALL
      have hS2 : S ≤ 20 * 140737488355328 := Nat.le_trans hS (Nat.mul_le_mul_right _ (by omega))
      clear hS HALL hkl
      go_wp2_with fail
      go_loopw [5, 7] (fun nv iv wr2 => ∃ k S : Nat, k ≤ nq ∧ nv = .int .i64 S ∧ iv = .int .i64 k ∧ S ≤ 20 * 140737488355328 ∧ S = sumP ps + sumQ (qs.take k) ∧ True ∧ wr2 = wr) (fun _ iv _ => nq - (intOf iv).toNat)
      case atStart => exact ⟨0, S, Nat.zero_le _, rfl, rfl, hS2, (by have h := HMEM.out; rw [List.take_of_length_le (by rw [HNP.out]; exact Nat.le_refl _)] at h; rw [List.take_zero]; simpa [sumQ] using h), trivial, rfl⟩
      case round =>
        clear HMEM hS2
        obtain ⟨k, S, hk, rfl, rfl, hS, hmem, hall, rfl⟩ := hrel
        have HMEM := Lib.hid hmem; have HALL := Lib.hid hall; clear hmem hall
        by_cases hkl : k < nq
        · have hki : (k : Int) < (nq : Int) := by omega
          have hk20 : (k : Int) < 20 := by omega
          obtain ⟨b, off, rfl, _⟩ := Rws.addr qu_len (by decide) H3.out (by rw [HNQ.out]; omega)
          obtain ⟨q, hq9⟩ : ∃ q, qs[k]? = some q := ⟨_, List.getElem?_eq_getElem (by rw [HNQ.out]; exact hkl)⟩
          obtain ⟨Am, cm, hin, hc9⟩ := Rws.at qu_len H3.out hq9
          have cq5 : wr.cell? ⟨b, off + k * 6 + 5, none⟩ = some (.slice Am q.msgs.length cm) := hc9 5 _ rfl
          have hbq := HQM.out q (List.mem_of_getElem? hq9)
          have HBM := Lib.hid hbq.2; have hbl := hbq.1
          have HQ := Lib.hid hq9
          obtain ⟨m, hm⟩ : ∃ m, q.msgs.length = m := ⟨_, rfl⟩
          have HM := Lib.hid hm
          rw [hm] at cq5 hbl
          have HR := Lib.hid hin.2.2
          clear hc9 hq9 hm hin hbq
          go_wp2_with fail
          go_loopw [5, 8] (fun nv jv wr2 => ∃ j S : Nat, j ≤ m ∧ nv = .int .i64 S ∧ jv = .int .i64 j ∧ S ≤ 20 * 140737488355328 ∧ S = sumP ps + sumQ (qs.take k) + sumM (q.msgs.take j) ∧ True ∧ True ∧ True ∧ wr2 = wr) (fun _ jv _ => m - (intOf jv).toNat)
          case atStart => exact ⟨0, S, Nat.zero_le _, rfl, rfl, hS, (by have h := HMEM.out; rw [List.take_zero]; simpa [sumM] using h), trivial, trivial, trivial, rfl⟩
          case round =>
            clear HMEM HALL hS
            obtain ⟨j, S, hj, rfl, rfl, hS, hmem, hall, hmsg, _, rfl⟩ := hrel
            have HMEM := Lib.hid hmem; have HALL := Lib.hid hall; have HMSG := Lib.hid hmsg; clear hmem hall hmsg
            by_cases hjl : j < m
            · have hji : (j : Int) < (m : Int) := by omega
              obtain ⟨b2, o2, rfl⟩ := HR.out.addr (by rw [HM.out]; omega)
              obtain ⟨l, hl⟩ : ∃ l, q.msgs[j]? = some l := ⟨_, List.getElem?_eq_getElem (by rw [HM.out]; exact hjl)⟩
              obtain ⟨A3, c3, k3, _, _, _⟩ := HR.out.at hl
              have hb3 := HBM.out l (List.mem_of_getElem? hl)
              have HL := Lib.hid hl
              obtain ⟨z, hz⟩ : ∃ z, l.length = z := ⟨_, rfl⟩
              have HZ := Lib.hid hz
              rw [hz] at k3 hb3
              clear hl hz
              have hsum : IntKind.i64.wrap ((S : Int) + (z : Int)) = ((S + z : Nat) : Int) := by rw [IntWalk.i64_in _ (by omega)]; omega
              have hsum2 : IntKind.i64.wrap (((S + z : Nat) : Int) + 5) = ((S + z + 5 : Nat) : Int) := by rw [IntWalk.i64_in _ (by omega)]; omega
              by_cases hbig : 8000 < S + z + 5
              · have hbi : (8000 : Int) < ((S + z + 5 : Nat) : Int) := by omega
                have HG := Lib.hid (show greatV ps pn qs nc = true from great_big HMEM.out HQ.out HL.out HZ.out hbig)
                clear HMEM
                have hjb : (j : Int) < 140737488355328 := by omega
                generalize S + z + 5 = S5 at *
                generalize S + z = S4 at *
                go_wp2_with fail
                go_ret
                exact ⟨by rw [HG.out]; rfl, HB.out⟩
              · have hbi : ¬ (8000 : Int) < ((S + z + 5 : Nat) : Int) := by omega
                have hjb : (j : Int) < 140737488355328 := by omega
                have HEQ := Lib.hid (show S + z + 5 = sumP ps + sumQ (qs.take k) + sumM (q.msgs.take (j + 1)) by have h := HMEM.out; have h2 := sumM_take HL.out; have h3 := HZ.out; omega)
                have HSUM := Lib.hid (show S ≤ S + z + 5 ∧ z ≤ S + z + 5 ∧ True ∧ S + z + 5 ≤ 20 * 140737488355328 by refine ⟨by omega, by omega, trivial, by omega⟩)
                clear hbig
                generalize S + z + 5 = S5 at *
                generalize S + z = S4 at *
                go_wp2_with fail
                go_roundw
                case rel => exact ⟨j + 1, S5, by omega, by first | rfl | (congr 1), by go_num, HSUM.out.2.2.2, HEQ.out, trivial, trivial, trivial, trivial⟩
                case measure => simp [intOf]; omega
            · have hjm : m = j := by omega
              subst hjm
              have HE2 := Lib.hid (show S = sumP ps + sumQ (qs.take (k + 1)) by have h := HMEM.out; rw [show q.msgs.take m = q.msgs from List.take_of_length_le (by rw [HM.out]; exact Nat.le_refl _)] at h; have h2 := sumQ_take HQ.out; omega)
              go_wp2_with fail
              go_roundw
              case rel => exact ⟨k + 1, S, by omega, rfl, by go_num, hS, HE2.out, trivial, trivial⟩
              case measure => simp [intOf]; omega
        · have hkn : nq = k := by omega
          subst hkn
          have HMSG := HALL
          clear HALL hkl
          go_wp2_with fail
          go_loopw [5, 9] (fun nv iv wr2 => ∃ k S : Nat, k ≤ nn ∧ nv = .int .i64 S ∧ iv = .int .i64 k ∧ S ≤ 20 * 140737488355328 + k * 140737488355328 ∧ S = sumP ps + sumQ qs + sumI (pn.take k) ∧ True ∧ True ∧ wr2 = wr) (fun _ iv _ => nn - (intOf iv).toNat)
          case atStart => exact ⟨0, S, Nat.zero_le _, rfl, rfl, by omega, (by have h := HMEM.out; rw [List.take_of_length_le (by rw [HNQ.out]; exact Nat.le_refl _)] at h; rw [List.take_zero]; simpa [sumI] using h), trivial, trivial, rfl⟩
          case round =>
            clear HMEM HMSG hS
            obtain ⟨k, S, hk, rfl, rfl, hS, hmem, hmsg, hall, rfl⟩ := hrel
            have HMEM := Lib.hid hmem; have HMSG := Lib.hid hmsg; have HALL := Lib.hid hall; clear hmem hall hmsg
            by_cases hkl : k < nn
            · have hki : (k : Int) < (nn : Int) := by omega
              have hk20 : (k : Int) < 20 := by omega
              obtain ⟨b, off, rfl, _⟩ := Rws.addr pn_len (by decide) H2.out (by rw [HNN.out]; omega)
              obtain ⟨x, hx⟩ : ∃ x, pn[k]? = some x := ⟨_, List.getElem?_eq_getElem (by rw [HNN.out]; exact hkl)⟩
              obtain ⟨A0, c0, _, hc9⟩ := Rws.at pn_len H2.out hx
              have cm : wr.cell? ⟨b, off + k * 5 + 4, none⟩ = some (.slice A0 x.img.length c0) := hc9 4 _ rfl
              have hb := HIL.out x (List.mem_of_getElem? hx)
              have HX := Lib.hid hx
              obtain ⟨m, hm⟩ : ∃ m, x.img.length = m := ⟨_, rfl⟩
              have HM := Lib.hid hm
              rw [hm] at cm hb
              clear hc9 hx hm
              have hS2 : S ≤ 40 * 140737488355328 := Nat.le_trans hS (Nat.le_trans (Nat.add_le_add_left (Nat.mul_le_mul_right _ (show k ≤ 20 by omega)) _) (by decide))
              have HS := Lib.hid hS
              clear hS
              have hsum : IntKind.i64.wrap ((S : Int) + (m : Int)) = ((S + m : Nat) : Int) := by rw [IntWalk.i64_in _ (by omega)]; omega
              go_wp2_with fail
              go_roundw
              case rel => exact ⟨k + 1, S + m, by omega, by first | rfl | (congr 1), by go_num, (by have := HS.out; rw [Nat.add_mul, Nat.one_mul]; omega), (by have h := HMEM.out; have h2 := sumI_take HX.out; have h3 := HM.out; omega), trivial, trivial, trivial⟩
              case measure => simp [intOf]; omega
            · have hkn : nn = k := by omega
              subst hkn
              have HALLS := Lib.hid (show greatV ps pn qs nc = decide ((8000 : Int) < (S : Int)) from great_end (by rw [HNP.out]; exact HN4.out.1) (by rw [HNQ.out]; exact HN4.out.2.1) (by rw [HNN.out]; exact HN4.out.2.2.1) HN4.out.2.2.2 (by have h := HMEM.out; rw [List.take_of_length_le (by rw [HNN.out]; exact Nat.le_refl _)] at h; exact h))
              clear hS HALL hkl
              go_wp2_with fail
              go_ret
              exact ⟨by rw [HALLS.out]; rfl, HB.out⟩
theorem great_x (fr : Int) (ps : List Pt) (pn : List Pn) (qs : List Qu) (Ap Aq Aw An Ac : Option Addr) (np cp nq cq nw cw nn cn nc cc : Nat) (hnp : ps.length = np) (hnn : pn.length = nn) (hnq : qs.length = nq)
    (hml : ∀ x ∈ ps, x.mem.length ≤ 140737488355328) (hqm : ∀ q ∈ qs, q.msgs.length ≤ 140737488355328 ∧ ∀ m ∈ q.msgs, m.length ≤ 140737488355328) (hil : ∀ x ∈ pn, x.img.length ≤ 140737488355328) (w : World) (h : Pts w Ap ps) (h2 : Pns w An pn) (h3 : Qus w Aq qs) :
    Calls Try.prog 9 #[.agg #[.int .i64 fr, .slice Ap np cp, .slice Aq nq cq], .agg #[.slice Aw nw cw, .slice An nn cn, .slice Ac nc cc]] w fun e w' => e = .returned (.bool (greatV ps pn qs nc)) ∧ Below w.heap.size w w' := by
  by_cases hb : 20 < np ∨ 20 < nq ∨ 20 < nn ∨ 20 < nc
  · refine (great fr ps pn qs Ap Aq Aw An Ac np cp nq cq nw cw nn cn nc cc hnp hnn hnq hml hqm hil w h h2 h3).mono ?_
    rintro e w' ⟨v, rfl, hv, b⟩
    have hg : greatV ps pn qs nc = true := decide_eq_true (by omega)
    cases v with
    | true => exact ⟨by rw [hg], b⟩
    | false =>
      obtain ⟨t1, t2, t3, t4, _⟩ := hv rfl
      omega
  · exact great_gx fr ps pn qs Ap Aq Aw An Ac np cp nq cq nw cw nn cn nc cc hnp hnn hnq (by omega) (by omega) (by omega) (by omega) hml hqm hil w h h2 h3
set_option maxRecDepth 100000 in
set_option maxHeartbeats 8000000 in
theorem once_iff (fr : Int) (ps : List Pt) (pn : List Pn) (Ap Aq Aw An Ac : Option Addr) (np cp nq cq nw cw nn cn nc cc : Nat) (hnp : ps.length = np) (hnn : pn.length = nn) (h63 : np ≤ 1000000) (h632 : nn ≤ 1000000) (w : World) (h : Pts w Ap ps) (h2 : Pns w An pn) :
    Calls Try.prog 10 #[.agg #[.int .i64 fr, .slice Ap np cp, .slice Aq nq cq], .agg #[.slice Aw nw cw, .slice An nn cn, .slice Ac nc cc]] w (BOut (fun v => v = true ↔ uniq (ps.map (·.id)) ∧ uniq (pn.map (·.id))) w) := by
  have hB2 := (((Below.refl w.heap.size w).alloc (Nat.le_refl _) (.cells #[.int .i64 fr, .slice Ap np cp, .slice Aq nq cq] 25)).alloc (by simp) (.cells #[.slice Aw nw cw, .slice An nn cn, .slice Ac nc cc] 30))
  have hs2 : ((w.alloc (.cells #[.int .i64 fr, .slice Ap np cp, .slice Aq nq cq] 25)).alloc (.cells #[.slice Aw nw cw, .slice An nn cn, .slice Ac nc cc] 30)).heap.size = w.heap.size + 2 := by simp
  have G0 := Lib.hid (blk_alloc (blk_new w #[.int .i64 fr, .slice Ap np cp, .slice Aq nq cq] 25) (.cells #[.slice Aw nw cw, .slice An nn cn, .slice Ac nc cc] 30))
  have G1 := Lib.hid (show ((w.alloc (.cells #[.int .i64 fr, .slice Ap np cp, .slice Aq nq cq] 25)).alloc (.cells #[.slice Aw nw cw, .slice An nn cn, .slice Ac nc cc] 30)).heap[w.heap.size + 1]? = some (.cells #[.slice Aw nw cw, .slice An nn cn, .slice Ac nc cc] 30 (0, 0)) by have := blk_new (w.alloc (.cells #[.int .i64 fr, .slice Ap np cp, .slice Aq nq cq] 25)) #[.slice Aw nw cw, .slice An nn cn, .slice Ac nc cc] 30; simpa using this)
  have HB := Lib.hid hB2; have HS2 := Lib.hid hs2
  have H1 := Lib.hid (h.below hB2); have H2 := Lib.hid (h2.below hB2)
  have HNP := Lib.hid hnp; have HNN := Lib.hid hnn
  have hnpi : (np : Int) ≤ 1000000 := by omega
  have hnni : (nn : Int) ≤ 1000000 := by omega
  clear h h2 hB2 hs2 hnp hnn
  go_enter Try.func10, Try.ntmps10
  go_wp2_with fail
  generalize ((w.alloc (.cells #[.int .i64 fr, .slice Ap np cp, .slice Aq nq cq] 25)).alloc (.cells #[.slice Aw nw cw, .slice An nn cn, .slice Ac nc cc] 30)) = wb at *
  go_loopw [5] (fun iv wr => ∃ k : Nat, k ≤ np ∧ iv = .int .i64 k ∧ (∀ (j i : Nat) (x y : Int), j < i → i < k → (ps.map (·.id))[j]? = some x → (ps.map (·.id))[i]? = some y → x ≠ y) ∧ Below wb.heap.size wb wr) (fun iv _ => np - (intOf iv).toNat)
  case atStart => exact ⟨0, Nat.zero_le _, rfl, (fun j i x y hj hi => absurd hi (Nat.not_lt_zero _)), Below.refl _ _⟩
  case round =>
    obtain ⟨k, hk, rfl, hno, hb⟩ := hrel
    have BR := Lib.hid hb; have HNO := Lib.hid hno
    have a1 := blk_cell (blk_below G0.out hb (blk_lt G0.out)) 1
    clear hb hno
    by_cases hkl : k < np
    · have hki : (k : Int) < (np : Int) := by omega
      obtain ⟨b, off, rfl, hblt⟩ := Rws.addr pt_len (by decide) H1.out (by rw [HNP.out]; omega)
      obtain ⟨x, hx⟩ : ∃ x, ps[k]? = some x := ⟨_, List.getElem?_eq_getElem (by rw [HNP.out]; exact hkl)⟩
      obtain ⟨A0, c0, _, hc⟩ := Rws.at pt_len H1.out hx
      have HX := Lib.hid (show (ps.map (·.id))[k]? = some x.id by rw [List.getElem?_map, hx]; rfl)
      have CX := Lib.hid (show wb.cell? ⟨b, off + k * 14, none⟩ = some (.int .i64 x.id) from hc 0 _ rfl)
      clear hx hc
      go_wp2_with fail
      clear a1
      go_loopw [6] (fun jv wr => ∃ j : Nat, j ≤ k ∧ jv = .int .i64 j ∧ (∀ (i : Nat) (y : Int), i < j → (ps.map (·.id))[i]? = some y → y ≠ x.id) ∧ Below wb.heap.size wb wr) (fun jv _ => k - (intOf jv).toNat)
      case atStart => exact ⟨0, Nat.zero_le _, rfl, (fun i y hi => absurd hi (Nat.not_lt_zero _)), BR.out⟩
      case round =>
        obtain ⟨j, hj, rfl, hny, hb⟩ := hrel
        have BR2 := Lib.hid hb; have HNY := Lib.hid hny
        have a1 := blk_cell (blk_below G0.out hb (blk_lt G0.out)) 1
        have cx := (hb.cell (p := ⟨b, off + k * 14, none⟩) hblt).trans CX.out
        clear hb hny
        by_cases hjl : j < k
        · have hji : (j : Int) < (k : Int) := by omega
          have hjn : (j : Int) < (np : Int) := by omega
          obtain ⟨y, hy⟩ : ∃ y, ps[j]? = some y := ⟨_, List.getElem?_eq_getElem (by rw [HNP.out]; omega)⟩
          obtain ⟨A2, c2, _, hc⟩ := Rws.at pt_len H1.out hy
          have HY := Lib.hid (show (ps.map (·.id))[j]? = some y.id by rw [List.getElem?_map, hy]; rfl)
          have cy := (BR2.out.cell (p := ⟨b, off + j * 14, none⟩) hblt).trans (hc 0 _ rfl)
          clear hy hc
          by_cases hxy : y.id = x.id
          · rw [← hxy] at cx
            have e1 : (y.id == y.id) = true := by simp
            have HNU := Lib.hid (show ¬ uniq (ps.map (·.id)) from fun h => h j k _ _ hjl HY.out HX.out hxy)
            clear hxy
            go_wp2_with fail
            go_quiet (fail)
            go_wp2_with fail
            go_ret
            exact ⟨false, rfl, ⟨fun h => (by cases h), fun h => absurd h.1 HNU.out⟩, HB.out.trans ((below_drewN BR2.out _).mono HB.out.size)⟩
          · have e1 : (y.id == x.id) = false := by rw [beq_eq_false_iff_ne]; exact hxy
            have HXY := Lib.hid hxy; clear hxy
            go_wp2_with fail
            go_quiet (fail)
            go_wp2_with fail
            go_roundw
            case rel => exact ⟨j + 1, by omega, by go_num, (fun i z hi hz => (Nat.lt_or_eq_of_le (Nat.lt_succ_iff.1 hi)).elim (fun h => HNY.out i z h hz) (fun h => by subst h; rw [HY.out] at hz; injection hz with hz; subst hz; exact HXY.out)), below_drewN BR2.out _⟩
            case measure => simp [intOf]; omega
        · have hjk : k = j := by omega
          subst hjk
          go_wp2_with fail
          go_roundw
          case rel => exact ⟨k + 1, by omega, by go_num, uniq_step HNO.out HX.out HNY.out, BR2.out⟩
          case measure => simp [intOf]; omega
    · have hkn : np = k := by omega
      subst hkn
      have HU5 := Lib.hid (show uniq (ps.map (·.id)) from fun j i x y hj hx hy => HNO.out j i x y hj (by have := (List.getElem?_eq_some_iff.1 hy).1; rw [List.length_map, HNP.out] at this; exact this) hx hy)
      have BR1 := BR
      clear BR HNO hkl
      go_wp2_with fail
      clear a1
      go_loopw [7] (fun iv wr => ∃ k : Nat, k ≤ nn ∧ iv = .int .i64 k ∧ (∀ (j i : Nat) (x y : Int), j < i → i < k → (pn.map (·.id))[j]? = some x → (pn.map (·.id))[i]? = some y → x ≠ y) ∧ Below wb.heap.size wb wr) (fun iv _ => nn - (intOf iv).toNat)
      case atStart => exact ⟨0, Nat.zero_le _, rfl, (fun j i x y hj hi => absurd hi (Nat.not_lt_zero _)), BR1.out⟩
      case round =>
        obtain ⟨k, hk, rfl, hno, hb⟩ := hrel
        have BR := Lib.hid hb; have HNO := Lib.hid hno
        have a1 := blk_cell (blk_below G1.out hb (blk_lt G1.out)) 1
        clear hb hno
        by_cases hkl : k < nn
        · have hki : (k : Int) < (nn : Int) := by omega
          obtain ⟨b, off, rfl, hblt⟩ := Rws.addr pn_len (by decide) H2.out (by rw [HNN.out]; omega)
          obtain ⟨x, hx⟩ : ∃ x, pn[k]? = some x := ⟨_, List.getElem?_eq_getElem (by rw [HNN.out]; exact hkl)⟩
          obtain ⟨A0, c0, _, hc⟩ := Rws.at pn_len H2.out hx
          have HX := Lib.hid (show (pn.map (·.id))[k]? = some x.id by rw [List.getElem?_map, hx]; rfl)
          have CX := Lib.hid (show wb.cell? ⟨b, off + k * 5, none⟩ = some (.int .i64 x.id) from hc 0 _ rfl)
          clear hx hc
          go_wp2_with fail
          clear a1
          go_loopw [8] (fun jv wr => ∃ j : Nat, j ≤ k ∧ jv = .int .i64 j ∧ (∀ (i : Nat) (y : Int), i < j → (pn.map (·.id))[i]? = some y → y ≠ x.id) ∧ Below wb.heap.size wb wr) (fun jv _ => k - (intOf jv).toNat)
          case atStart => exact ⟨0, Nat.zero_le _, rfl, (fun i y hi => absurd hi (Nat.not_lt_zero _)), BR.out⟩
          case round =>
            obtain ⟨j, hj, rfl, hny, hb⟩ := hrel
            have BR2 := Lib.hid hb; have HNY := Lib.hid hny
            have a1 := blk_cell (blk_below G1.out hb (blk_lt G1.out)) 1
            have cx := (hb.cell (p := ⟨b, off + k * 5, none⟩) hblt).trans CX.out
            clear hb hny
            by_cases hjl : j < k
            · have hji : (j : Int) < (k : Int) := by omega
              have hjn : (j : Int) < (nn : Int) := by omega
              obtain ⟨y, hy⟩ : ∃ y, pn[j]? = some y := ⟨_, List.getElem?_eq_getElem (by rw [HNN.out]; omega)⟩
              obtain ⟨A2, c2, _, hc⟩ := Rws.at pn_len H2.out hy
              have HY := Lib.hid (show (pn.map (·.id))[j]? = some y.id by rw [List.getElem?_map, hy]; rfl)
              have cy := (BR2.out.cell (p := ⟨b, off + j * 5, none⟩) hblt).trans (hc 0 _ rfl)
              clear hy hc
              by_cases hxy : y.id = x.id
              · rw [← hxy] at cx
                have e1 : (y.id == y.id) = true := by simp
                have HNU := Lib.hid (show ¬ uniq (pn.map (·.id)) from fun h => h j k _ _ hjl HY.out HX.out hxy)
                clear hxy
                go_wp2_with fail
                go_quiet (fail)
                go_wp2_with fail
                go_ret
                exact ⟨false, rfl, ⟨fun h => (by cases h), fun h => absurd h.2 HNU.out⟩, HB.out.trans ((below_drewN BR2.out _).mono HB.out.size)⟩
              · have e1 : (y.id == x.id) = false := by rw [beq_eq_false_iff_ne]; exact hxy
                have HXY := Lib.hid hxy; clear hxy
                go_wp2_with fail
                go_quiet (fail)
                go_wp2_with fail
                go_roundw
                case rel => exact ⟨j + 1, by omega, by go_num, (fun i z hi hz => (Nat.lt_or_eq_of_le (Nat.lt_succ_iff.1 hi)).elim (fun h => HNY.out i z h hz) (fun h => by subst h; rw [HY.out] at hz; injection hz with hz; subst hz; exact HXY.out)), below_drewN BR2.out _⟩
                case measure => simp [intOf]; omega
            · have hjk : k = j := by omega
              subst hjk
              go_wp2_with fail
              go_roundw
              case rel => exact ⟨k + 1, by omega, by go_num, uniq_step HNO.out HX.out HNY.out, BR2.out⟩
              case measure => simp [intOf]; omega
        · have hkn : nn = k := by omega
          subst hkn
          have HU7 := Lib.hid (show uniq (pn.map (·.id)) from fun j i x y hj hx hy => HNO.out j i x y hj (by have := (List.getElem?_eq_some_iff.1 hy).1; rw [List.length_map, HNN.out] at this; exact this) hx hy)
          go_wp2_with fail
          go_ret
          exact ⟨true, rfl, ⟨fun _ => ⟨HU5.out, HU7.out⟩, fun _ => rfl⟩, HB.out.trans (BR.out.mono HB.out.size)⟩
/-- The answer of once, the same in every world. -/
theorem once_x (fr : Int) (ps : List Pt) (pn : List Pn) (Ap Aq Aw An Ac : Option Addr) (np cp nq cq nw cw nn cn nc cc : Nat) (hnp : ps.length = np) (hnn : pn.length = nn) (h63 : np ≤ 1000000) (h632 : nn ≤ 1000000) :
    ∃ v : Bool, (v = true ↔ uniq (ps.map (·.id)) ∧ uniq (pn.map (·.id))) ∧ ∀ w, Pts w Ap ps → Pns w An pn → Calls Try.prog 10 #[.agg #[.int .i64 fr, .slice Ap np cp, .slice Aq nq cq], .agg #[.slice Aw nw cw, .slice An nn cn, .slice Ac nc cc]] w fun e w' => e = .returned (.bool v) ∧ Below w.heap.size w w' := by
  by_cases hu : uniq (ps.map (·.id)) ∧ uniq (pn.map (·.id))
  · refine ⟨true, ⟨fun _ => hu, fun _ => rfl⟩, fun w h h2 => (once_iff fr ps pn Ap Aq Aw An Ac np cp nq cq nw cw nn cn nc cc hnp hnn h63 h632 w h h2).mono ?_⟩
    rintro e w' ⟨v, rfl, hv, b⟩
    rw [hv.2 hu]; exact ⟨rfl, b⟩
  · refine ⟨false, ⟨fun h => (by cases h), fun h => absurd h hu⟩, fun w h h2 => (once_iff fr ps pn Ap Aq Aw An Ac np cp nq cq nw cw nn cn nc cc hnp hnn h63 h632 w h h2).mono ?_⟩
    rintro e w' ⟨v, rfl, hv, b⟩
    cases v with
    | true => exact absurd (hv.1 rfl) hu
    | false => exact ⟨rfl, b⟩
end Go.Proofs.Ytnfjkpeifleogaa.mv
