/- Calls of a partition: worlds compared; no condition. -/
import Derived.Test.YthkkmnckidfmkaaRows
import Derived.Test.YthkkmnckidfmkaaHyQ
namespace Go.Proofs.Ythkkmnckidfmkaa.hy
open Go Go.ChangeShapes Go.WideShapes Go.ChangeAt Go.RowKit Go.Proofs.Ythkkmnckidfmkaa.rows
def sameW (f1 t1 v1 : Int) (qs : List Qu) (inp : Msg) (f2 t2 v2 : Int) (qs2 : List Qu) (inp2 : Msg) : Bool := decide (f1 = f2 ∧ t1 = t2 ∧ v1 = v2 ∧ inp = inp2 ∧ qs = qs2)
theorem hs0 (f1 f2 t1 t2 v1 v2 : Int) (B B2 C C2 : Option Addr) (nq nq2 ni ni2 d d2 c c2 : Nat) (hd : f1 ≠ f2) (w : World) :
    Calls Try.prog 16 #[.agg #[.int .i64 f1, .int .i64 t1, .int .i64 v1, .slice B nq d, .slice C ni c], .agg #[.int .i64 f2, .int .i64 t2, .int .i64 v2, .slice B2 nq2 d2, .slice C2 ni2 c2]] w fun e w' => e = .returned (.bool false) ∧ Below w.heap.size w w' := by
  have e1 : (f1 == f2) = false := by rw [beq_eq_false_iff_ne]; exact hd
  have e2 : (f1 != f2) = true := by rw [bne_iff_ne]; exact hd
  have e3 := hd
  clear hd
  go_enter Try.func16, Try.ntmps16
  go_wp2
  go_ret
  exact ⟨rfl, (ext1 w (.cells #[.int .i64 f1, .int .i64 t1, .int .i64 v1, .slice B nq d, .slice C ni c] 37)).trans ((ext1 (w.alloc (.cells #[.int .i64 f1, .int .i64 t1, .int .i64 v1, .slice B nq d, .slice C ni c] 37)) (.cells #[.int .i64 f2, .int .i64 t2, .int .i64 v2, .slice B2 nq2 d2, .slice C2 ni2 c2] 37)).mono (ext1 w (.cells #[.int .i64 f1, .int .i64 t1, .int .i64 v1, .slice B nq d, .slice C ni c] 37)).size)⟩
theorem hs1 (f1 t1 t2 v1 v2 : Int) (B B2 C C2 : Option Addr) (nq nq2 ni ni2 d d2 c c2 : Nat) (hd : t1 ≠ t2) (w : World) :
    Calls Try.prog 16 #[.agg #[.int .i64 f1, .int .i64 t1, .int .i64 v1, .slice B nq d, .slice C ni c], .agg #[.int .i64 f1, .int .i64 t2, .int .i64 v2, .slice B2 nq2 d2, .slice C2 ni2 c2]] w fun e w' => e = .returned (.bool false) ∧ Below w.heap.size w w' := by
  have e1 : (t1 == t2) = false := by rw [beq_eq_false_iff_ne]; exact hd
  have e2 : (t1 != t2) = true := by rw [bne_iff_ne]; exact hd
  have e3 := hd
  clear hd
  go_enter Try.func16, Try.ntmps16
  go_wp2
  go_ret
  exact ⟨rfl, (ext1 w (.cells #[.int .i64 f1, .int .i64 t1, .int .i64 v1, .slice B nq d, .slice C ni c] 37)).trans ((ext1 (w.alloc (.cells #[.int .i64 f1, .int .i64 t1, .int .i64 v1, .slice B nq d, .slice C ni c] 37)) (.cells #[.int .i64 f1, .int .i64 t2, .int .i64 v2, .slice B2 nq2 d2, .slice C2 ni2 c2] 37)).mono (ext1 w (.cells #[.int .i64 f1, .int .i64 t1, .int .i64 v1, .slice B nq d, .slice C ni c] 37)).size)⟩
theorem hs2 (f1 t1 v1 v2 : Int) (B B2 C C2 : Option Addr) (nq nq2 ni ni2 d d2 c c2 : Nat) (hd : v1 ≠ v2) (w : World) :
    Calls Try.prog 16 #[.agg #[.int .i64 f1, .int .i64 t1, .int .i64 v1, .slice B nq d, .slice C ni c], .agg #[.int .i64 f1, .int .i64 t1, .int .i64 v2, .slice B2 nq2 d2, .slice C2 ni2 c2]] w fun e w' => e = .returned (.bool false) ∧ Below w.heap.size w w' := by
  have e1 : (v1 == v2) = false := by rw [beq_eq_false_iff_ne]; exact hd
  have e2 : (v1 != v2) = true := by rw [bne_iff_ne]; exact hd
  have e3 := hd
  clear hd
  go_enter Try.func16, Try.ntmps16
  go_wp2
  go_ret
  exact ⟨rfl, (ext1 w (.cells #[.int .i64 f1, .int .i64 t1, .int .i64 v1, .slice B nq d, .slice C ni c] 37)).trans ((ext1 (w.alloc (.cells #[.int .i64 f1, .int .i64 t1, .int .i64 v1, .slice B nq d, .slice C ni c] 37)) (.cells #[.int .i64 f1, .int .i64 t1, .int .i64 v2, .slice B2 nq2 d2, .slice C2 ni2 c2] 37)).mono (ext1 w (.cells #[.int .i64 f1, .int .i64 t1, .int .i64 v1, .slice B nq d, .slice C ni c] 37)).size)⟩
set_option maxHeartbeats 4000000 in
theorem hs4 (f1 t1 v1 : Int) (qs qs2 : List Qu) (inp inp2 : Msg) (B B2 C C2 : Option Addr) (d d2 c c2 : Nat) (h63 : qs.length ≤ 1000000) (hm : ∀ q ∈ qs, q.msgs.length ≤ 1000000) (w : World) (h1 : Qus w B qs) (h2 : Qus w B2 qs2) (i1 : Rd w C (bcs inp)) (i2 : Rd w C2 (bcs inp2)) :
    Calls Try.prog 16 #[.agg #[.int .i64 f1, .int .i64 t1, .int .i64 v1, .slice B qs.length d, .slice C inp.length c], .agg #[.int .i64 f1, .int .i64 t1, .int .i64 v1, .slice B2 qs2.length d2, .slice C2 inp2.length c2]] w fun e w' => e = .returned (.bool (sameW f1 t1 v1 qs inp f1 t1 v1 qs2 inp2)) ∧ Below w.heap.size w w' := by
  obtain ⟨nq, hnq⟩ : ∃ n, qs.length = n := ⟨_, rfl⟩
  obtain ⟨nq2, hnq2⟩ : ∃ n, qs2.length = n := ⟨_, rfl⟩
  obtain ⟨ni, hni⟩ : ∃ n, inp.length = n := ⟨_, rfl⟩
  obtain ⟨ni2, hni2⟩ : ∃ n, inp2.length = n := ⟨_, rfl⟩
  have BX := Lib.hid ((ext1 w (.cells #[.int .i64 f1, .int .i64 t1, .int .i64 v1, .slice B nq d, .slice C ni c] 37)).trans ((ext1 (w.alloc (.cells #[.int .i64 f1, .int .i64 t1, .int .i64 v1, .slice B nq d, .slice C ni c] 37)) (.cells #[.int .i64 f1, .int .i64 t1, .int .i64 v1, .slice B2 nq2 d2, .slice C2 ni2 c2] 37)).mono (ext1 w (.cells #[.int .i64 f1, .int .i64 t1, .int .i64 v1, .slice B nq d, .slice C ni c] 37)).size))
  have HQ := Lib.hid (equalQ qs qs2 B B2 d d2 h63 hm _ (h1.below BX.out) (h2.below BX.out))
  rw [hnq, hnq2] at HQ
  by_cases hin : inp = inp2
  · have HE := Lib.hid (chan.bytesEqual inp inp2 C C2 c c2 true (decide_eq_true hin) _ (i1.below BX.out) (i2.below BX.out))
    rw [hni, hni2] at HE ⊢
    rw [hnq, hnq2]
    have HIN := Lib.hid hin
    clear hin h1 h2 i1 i2 hm h63 hnq hnq2 hni hni2
    go_enter Try.func16, Try.ntmps16
    go_wp2_with fail
    refine HE.out.mono ?_
    rintro e w' ⟨rfl, rfl⟩
    go_wp2_with fail
    refine HQ.out.mono ?_
    rintro e w' ⟨rfl, b9⟩
    have B9 := Lib.hid (BX.out.trans (b9.mono BX.out.size)); clear b9
    go_wp2
    go_ret
    exact ⟨by simp [sameW, HIN.out], B9.out⟩
  · have HE := Lib.hid (chan.bytesEqual inp inp2 C C2 c c2 false (decide_eq_false hin) _ (i1.below BX.out) (i2.below BX.out))
    rw [hni, hni2] at HE ⊢
    rw [hnq, hnq2]
    have HIN := Lib.hid hin
    clear hin h1 h2 i1 i2 hm h63 hnq hnq2 hni hni2
    go_enter Try.func16, Try.ntmps16
    go_wp2_with fail
    refine HE.out.mono ?_
    rintro e w' ⟨rfl, rfl⟩
    go_wp2
    go_ret
    exact ⟨by simp [sameW, HIN.out], BX.out⟩
theorem hSame (f1 t1 v1 f2 t2 v2 : Int) (qs qs2 : List Qu) (inp inp2 : Msg) (B B2 C C2 : Option Addr) (d d2 c c2 : Nat) (h63 : qs.length ≤ 1000000) (hm : ∀ q ∈ qs, q.msgs.length ≤ 1000000) (w : World) (h1 : Qus w B qs) (h2 : Qus w B2 qs2) (i1 : Rd w C (bcs inp)) (i2 : Rd w C2 (bcs inp2)) :
    Calls Try.prog 16 #[.agg #[.int .i64 f1, .int .i64 t1, .int .i64 v1, .slice B qs.length d, .slice C inp.length c], .agg #[.int .i64 f2, .int .i64 t2, .int .i64 v2, .slice B2 qs2.length d2, .slice C2 inp2.length c2]] w fun e w' => e = .returned (.bool (sameW f1 t1 v1 qs inp f2 t2 v2 qs2 inp2)) ∧ Below w.heap.size w w' := by
  by_cases hf : f1 = f2
  · subst hf
    by_cases ht : t1 = t2
    · subst ht
      by_cases hv : v1 = v2
      · subst hv
        exact hs4 f1 t1 v1 qs qs2 inp inp2 B B2 C C2 d d2 c c2 h63 hm w h1 h2 i1 i2
      · have e : sameW f1 t1 v1 qs inp f1 t1 v2 qs2 inp2 = false := decide_eq_false fun h => hv h.2.2.1
        rw [e]; exact hs2 f1 t1 v1 v2 B B2 C C2 _ _ _ _ d d2 c c2 hv w
    · have e : sameW f1 t1 v1 qs inp f1 t2 v2 qs2 inp2 = false := decide_eq_false fun h => ht h.2.1
      rw [e]; exact hs1 f1 t1 t2 v1 v2 B B2 C C2 _ _ _ _ d d2 c c2 ht w
  · have e : sameW f1 t1 v1 qs inp f2 t2 v2 qs2 inp2 = false := decide_eq_false fun h => hf h.1
    rw [e]; exact hs0 f1 f2 t1 t2 v1 v2 B B2 C C2 _ _ _ _ d d2 c c2 hf w
end Go.Proofs.Ythkkmnckidfmkaa.hy
