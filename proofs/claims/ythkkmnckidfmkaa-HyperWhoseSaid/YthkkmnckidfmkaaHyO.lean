/- Calls of a partition: are they great; the worlds of either side; no condition. -/
import Derived.Test.YthkkmnckidfmkaaRows
import Derived.Test.YthkkmnckidfmkaaHyH
import Derived.Deep.CutRange
namespace Go.Proofs.Ythkkmnckidfmkaa.hy
open Go Go.ChangeShapes Go.WideShapes Go.ChangeAt Go.RowKit Go.Proofs.Ythkkmnckidfmkaa.rows
def sumL (l : List Msg) : Nat := (l.map List.length).sum
def sumQ (qs : List Qu) : Nat := (qs.map fun q => q.msgs.length + sumL q.msgs).sum
theorem sum_take {α : Type} (f : α → Nat) {l : List α} {k : Nat} {x : α} (h : l[k]? = some x) : ((l.take (k + 1)).map f).sum = ((l.take k).map f).sum + f x := by
  rw [List.take_add_one, h]; simp
theorem sum_take_le {α : Type} (f : α → Nat) (l : List α) (k : Nat) : ((l.take k).map f).sum ≤ (l.map f).sum := by
  have h := congrArg (fun m => (m.map f).sum) (List.take_append_drop k l)
  simp only [List.map_append, List.sum_append] at h
  omega
theorem sum_mem {α : Type} (f : α → Nat) : ∀ {l : List α} {x : α}, x ∈ l → f x ≤ (l.map f).sum
  | a :: l, x, h => by
    rcases List.mem_cons.1 h with rfl | h
    · simp
    · have := sum_mem f h
      simp; omega
/-- Are a part and a world more than is gone through? -/
def greatV (ml : Nat) (qs : List Qu) (inp : Msg) : Bool := decide (600 < ml ∨ 20 < qs.length ∨ 200 < inp.length ∨ 2000 ≤ sumQ qs)
theorem greatV_tame {ml : Nat} {qs : List Qu} {inp : Msg} (h : greatV ml qs inp = false) : ml ≤ 600 ∧ qs.length ≤ 20 ∧ inp.length ≤ 200 ∧ ∀ q ∈ qs, q.msgs.length ≤ 2000 ∧ ∀ m ∈ q.msgs, m.length ≤ 2000 := by
  have h := of_decide_eq_false h
  have h1 : ¬ 2000 ≤ sumQ qs := fun e => h (.inr (.inr (.inr e)))
  refine ⟨Nat.le_of_not_lt fun e => h (.inl e), Nat.le_of_not_lt fun e => h (.inr (.inl e)), Nat.le_of_not_lt fun e => h (.inr (.inr (.inl e))), fun q hq => ?_⟩
  have h2 := sum_mem (fun q : Qu => q.msgs.length + sumL q.msgs) hq
  have h3 : (qs.map fun q => q.msgs.length + sumL q.msgs).sum = sumQ qs := rfl
  refine ⟨by omega, fun m hm => ?_⟩
  have h4 := sum_mem List.length hm
  have h5 : (q.msgs.map List.length).sum = sumL q.msgs := rfl
  omega
theorem greatV_small {ml : Nat} {qs : List Qu} {inp : Msg} (h : greatV ml qs inp = false) : Small qs inp := by
  obtain ⟨_, h2, h3, h4⟩ := greatV_tame h
  exact ⟨Nat.le_trans h2 (by decide), Nat.le_trans h3 (by decide), fun q hq => ⟨Nat.le_trans (h4 q hq).1 (by decide), fun m hm => Nat.le_trans ((h4 q hq).2 m hm) (by decide)⟩⟩
def Acc (S T : Nat) : Prop := S ≤ T ∧ (S = T ∨ 2000 ≤ S)
set_option maxRecDepth 100000 in
set_option maxHeartbeats 4000000 in
theorem great (x : Pt) (Am : Option Addr) (ml cm : Nat) (fr tk ver : Int) (qs : List Qu) (inp : Msg) (B : Option Addr) (nq d : Nat) (Ci : Option Addr) (ni ci : Nat) (hnq : qs.length = nq) (hni : inp.length = ni) (hqm : ∀ q ∈ qs, q.msgs.length ≤ 140737488355328 ∧ ∀ m ∈ q.msgs, m.length ≤ 140737488355328) (w : World) (hq : Qus w B qs) :
    Calls Try.prog 6 #[.agg #[.int .i64 x.id, .int .i64 x.size, .bool x.keep, .int .u32 x.r0, .int .u32 x.r1, .int .u32 x.r2, .int .u32 x.r3, .int .u32 x.r4, .int .u32 x.r5, .int .u32 x.r6, .int .u32 x.r7, .int .u32 x.pc, .int .u8 x.st, .slice Am ml cm], .agg #[.int .i64 fr, .int .i64 tk, .int .i64 ver, .slice B nq d, .slice Ci ni ci]] w fun e w' => e = .returned (.bool (greatV ml qs inp)) ∧ Below w.heap.size w w' := by
  have b1 := ext1 w (.cells #[.int .i64 x.id, .int .i64 x.size, .bool x.keep, .int .u32 x.r0, .int .u32 x.r1, .int .u32 x.r2, .int .u32 x.r3, .int .u32 x.r4, .int .u32 x.r5, .int .u32 x.r6, .int .u32 x.r7, .int .u32 x.pc, .int .u8 x.st, .slice Am ml cm] 26)
  have b2 := ext1 (w.alloc (.cells #[.int .i64 x.id, .int .i64 x.size, .bool x.keep, .int .u32 x.r0, .int .u32 x.r1, .int .u32 x.r2, .int .u32 x.r3, .int .u32 x.r4, .int .u32 x.r5, .int .u32 x.r6, .int .u32 x.r7, .int .u32 x.pc, .int .u8 x.st, .slice Am ml cm] 26)) (.cells #[.int .i64 fr, .int .i64 tk, .int .i64 ver, .slice B nq d, .slice Ci ni ci] 29)
  have hX := b1.trans (b2.mono b1.size)
  have G0 := Lib.hid (blk_alloc (blk_new w #[.int .i64 x.id, .int .i64 x.size, .bool x.keep, .int .u32 x.r0, .int .u32 x.r1, .int .u32 x.r2, .int .u32 x.r3, .int .u32 x.r4, .int .u32 x.r5, .int .u32 x.r6, .int .u32 x.r7, .int .u32 x.pc, .int .u8 x.st, .slice Am ml cm] 26) (.cells #[.int .i64 fr, .int .i64 tk, .int .i64 ver, .slice B nq d, .slice Ci ni ci] 29))
  have G1 := Lib.hid (blk_new2 w (.cells #[.int .i64 x.id, .int .i64 x.size, .bool x.keep, .int .u32 x.r0, .int .u32 x.r1, .int .u32 x.r2, .int .u32 x.r3, .int .u32 x.r4, .int .u32 x.r5, .int .u32 x.r6, .int .u32 x.r7, .int .u32 x.pc, .int .u8 x.st, .slice Am ml cm] 26) #[.int .i64 fr, .int .i64 tk, .int .i64 ver, .slice B nq d, .slice Ci ni ci] 29)
  have HX := Lib.hid hX; have HQ := Lib.hid (hq.below hX)
  have HNQ := Lib.hid hnq; have HNI := Lib.hid hni; have QM := Lib.hid hqm
  clear hX hq hnq hni hqm b1 b2
  have a13 := blk_cell G0.out 13; have c3 := blk_cell G1.out 3; have c4 := blk_cell G1.out 4
  have hg : greatV ml qs inp = decide (600 < ml ∨ 20 < nq ∨ 200 < ni ∨ 2000 ≤ sumQ qs) := by unfold greatV; rw [HNQ.out, HNI.out]
  have HG := Lib.hid hg; clear hg
  by_cases h1 : 600 < ml
  · have h1i : (600 : Int) < (ml : Int) := by omega
    have HV := Lib.hid (show greatV ml qs inp = true by rw [HG.out]; exact decide_eq_true (.inl h1))
    go_enter Try.func6, Try.ntmps6
    go_wp2
    go_ret
    exact ⟨by rw [HV.out]; rfl, HX.out⟩
  have h1i : (ml : Int) ≤ 600 := by omega
  by_cases h2 : 20 < nq
  · have h2i : (20 : Int) < (nq : Int) := by omega
    have HV := Lib.hid (show greatV ml qs inp = true by rw [HG.out]; exact decide_eq_true (.inr (.inl h2)))
    go_enter Try.func6, Try.ntmps6
    go_wp2
    go_ret
    exact ⟨by rw [HV.out]; rfl, HX.out⟩
  have h2i : (nq : Int) ≤ 20 := by omega
  by_cases h3 : 200 < ni
  · have h3i : (200 : Int) < (ni : Int) := by omega
    have HV := Lib.hid (show greatV ml qs inp = true by rw [HG.out]; exact decide_eq_true (.inr (.inr (.inl h3))))
    go_enter Try.func6, Try.ntmps6
    go_wp2
    go_ret
    exact ⟨by rw [HV.out]; rfl, HX.out⟩
  have h3i : (ni : Int) ≤ 200 := by omega
  have HV := Lib.hid (show greatV ml qs inp = decide (2000 ≤ sumQ qs) by rw [HG.out]; simp only [h1, h2, h3, false_or])
  clear h1 h3
  go_enter Try.func6, Try.ntmps6
  go_wp2_with fail
  clear a13 c4
  generalize ((w.alloc (.cells #[.int .i64 x.id, .int .i64 x.size, .bool x.keep, .int .u32 x.r0, .int .u32 x.r1, .int .u32 x.r2, .int .u32 x.r3, .int .u32 x.r4, .int .u32 x.r5, .int .u32 x.r6, .int .u32 x.r7, .int .u32 x.pc, .int .u8 x.st, .slice Am ml cm] 26)).alloc (.cells #[.int .i64 fr, .int .i64 tk, .int .i64 ver, .slice B nq d, .slice Ci ni ci] 29)) = wb at *
  go_loop [5, 6] (fun nv iv => ∃ i S : Nat, i ≤ nq ∧ iv = .int .i64 i ∧ nv = .int .i64 S ∧ Acc S (sumQ (qs.take i)) ∧ S ≤ 2000 + i * 140737488355328) (fun _ iv => nq - (intOf iv).toNat)
  case atStart => exact ⟨0, 0, Nat.zero_le _, rfl, rfl, ⟨Nat.zero_le _, .inl rfl⟩, Nat.zero_le _⟩
  case round =>
    obtain ⟨i, S, hi, rfl, rfl, hacc, hS⟩ := hrel
    have HACC := Lib.hid hacc; clear hacc
    have hSi : (S : Int) ≤ 2000 + 20 * 140737488355328 := by have : i * 140737488355328 ≤ 20 * 140737488355328 := Nat.mul_le_mul_right _ (by omega); omega
    by_cases hil : i < nq
    · have hii : (i : Int) < (nq : Int) := by omega
      have hi0 : (0 : Int) ≤ (i : Int) := by omega
      obtain ⟨q, hqi⟩ : ∃ q, qs[i]? = some q := ⟨_, List.getElem?_eq_getElem (by rw [HNQ.out]; exact hil)⟩
      obtain ⟨b, off, rfl, _⟩ := Rws.addr qu_len (by decide) HQ.out (by rw [HNQ.out]; omega)
      obtain ⟨A1, k1, hin, hc⟩ := Rws.at qu_len HQ.out hqi
      have y5 := hc 5 _ rfl
      obtain ⟨nm, hnm⟩ : ∃ z, q.msgs.length = z := ⟨_, rfl⟩
      rw [hnm] at y5
      have hqb := QM.out q (List.mem_of_getElem? hqi)
      have hnmi : (nm : Int) ≤ 140737488355328 := by rw [← hnm]; have := hqb.1; omega
      have HNM := Lib.hid hnm; have HIN := Lib.hid hin.2.2; have HQI := Lib.hid hqi; have HQB := Lib.hid hqb.2
      clear hnm hin hc hqi hqb
      have HST := Lib.hid (show sumQ (qs.take (i + 1)) = sumQ (qs.take i) + (nm + sumL q.msgs) by rw [← HNM.out]; exact sum_take (fun q : Qu => q.msgs.length + sumL q.msgs) HQI.out)
      go_wp2_with fail
      go_loop [5, 7] (fun nv kv => ∃ k S2 : Nat, k ≤ nm ∧ kv = .int .i64 k ∧ nv = .int .i64 S2 ∧ Acc S2 (sumQ (qs.take i) + nm + sumL (q.msgs.take k)) ∧ S2 ≤ 2000 + (i + 1) * 140737488355328) (fun _ kv => nm - (intOf kv).toNat)
      case atStart => exact ⟨0, S + nm, Nat.zero_le _, rfl, by go_num, ⟨by have := HACC.out.1; simp [sumL]; omega, by rcases HACC.out.2 with h | h; left; simp [sumL]; omega; right; omega⟩, by rw [Nat.add_mul, Nat.one_mul]; omega⟩
      case round =>
        obtain ⟨k, S2, hk, rfl, rfl, hacc2, hS2⟩ := hrel
        have HA2 := Lib.hid hacc2; clear hacc2
        have hS2i : (S2 : Int) ≤ 2000 + 21 * 140737488355328 := by have : (i + 1) * 140737488355328 ≤ 21 * 140737488355328 := Nat.mul_le_mul_right _ (by omega); omega
        have hle := sum_take_le List.length q.msgs k
        by_cases hkl : k < nm
        · have hki : (k : Int) < (nm : Int) := by omega
          have hk0 : (0 : Int) ≤ (k : Int) := by omega
          have HLE := Lib.hid hle; clear hle
          by_cases hs2 : S2 < 2000
          · have hs2i : (S2 : Int) < 2000 := by omega
            obtain ⟨m, hm⟩ : ∃ m, q.msgs[k]? = some m := ⟨_, List.getElem?_eq_getElem (by rw [HNM.out]; exact hkl)⟩
            obtain ⟨b1, o1, rfl⟩ := HIN.out.addr (by rw [HNM.out]; omega)
            obtain ⟨Ax, cx, cxc, _, _, _⟩ := HIN.out.at hm
            obtain ⟨lm, hlm⟩ : ∃ z, m.length = z := ⟨_, rfl⟩
            rw [hlm] at cxc
            have hlmi : (lm : Int) ≤ 140737488355328 := by rw [← hlm]; have := HQB.out m (List.mem_of_getElem? hm); omega
            have HTK := Lib.hid (show sumL (q.msgs.take (k + 1)) = sumL (q.msgs.take k) + lm by rw [← hlm]; exact sum_take List.length hm)
            clear hm hlm
            go_wp2_with fail
            go_round
            case rel => exact ⟨k + 1, S2 + lm, by omega, by go_num, by go_num, ⟨by rw [HTK.out]; have := HA2.out.1; omega, by rw [HTK.out]; rcases HA2.out.2 with h | h; left; omega; right; omega⟩, by have h : 140737488355328 ≤ (i + 1) * 140737488355328 := Nat.le_mul_of_pos_left _ (Nat.succ_pos _); omega⟩
            case measure => simp [intOf]; omega
          · have hs2i : (2000 : Int) ≤ (S2 : Int) := by omega
            go_wp2_with fail
            go_round
            case rel => exact ⟨i + 1, S2, by omega, by go_num, rfl, ⟨by rw [HST.out]; have := HA2.out.1; have := HLE.out; unfold sumL at *; omega, .inr (by omega)⟩, hS2⟩
            case measure => simp [intOf]; omega
        · have hkn : nm = k := by omega
          subst hkn
          have HLA := Lib.hid (show sumL (q.msgs.take nm) = sumL q.msgs by rw [List.take_of_length_le (by rw [HNM.out]; exact Nat.le_refl _)])
          clear hle
          go_wp2_with fail
          go_round
          case rel => exact ⟨i + 1, S2, by omega, by go_num, rfl, ⟨by rw [HST.out]; have h := HA2.out.1; rw [HLA.out] at h; omega, by rw [HST.out]; have h := HA2.out.2; rw [HLA.out] at h; rcases h with h | h; left; omega; right; exact h⟩, hS2⟩
          case measure => simp [intOf]; omega
    · have hin : nq = i := by omega
      subst hin
      have HT := Lib.hid (show sumQ (qs.take nq) = sumQ qs by rw [List.take_of_length_le (by rw [HNQ.out]; exact Nat.le_refl _)])
      clear hSi
      have HE := Lib.hid (show greatV ml qs inp = decide ((2000 : Int) ≤ (S : Int)) by rw [HV.out]; have h1 := HACC.out.1; have h2 := HACC.out.2; rw [HT.out] at h1 h2; exact decide_eq_decide.2 ⟨fun h => by rcases h2 with h2 | h2 <;> omega, fun h => by omega⟩)
      go_wp2
      go_ret
      exact ⟨by rw [HE.out]; rfl, HX.out⟩
end Go.Proofs.Ythkkmnckidfmkaa.hy
