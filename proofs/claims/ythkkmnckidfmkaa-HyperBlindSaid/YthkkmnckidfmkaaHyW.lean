/- Calls of a partition: what send tells a part; no condition. -/
import Derived.Test.YthkkmnckidfmkaaRows
import Derived.Test.YthkkmnckidfmkaaHyJ
namespace Go.Proofs.Ythkkmnckidfmkaa.hy
open Go Go.ChangeShapes Go.WideShapes Go.ChangeAt Go.RowKit Go.Proofs.Ythkkmnckidfmkaa.rows
theorem firstI_map {α β : Type} (g : α → β) (f : β → Bool) : ∀ l : List α, firstI (fun x => f (g x)) l = firstI f (l.map g)
  | [] => rfl
  | a :: l => by simp only [firstI, List.map_cons, firstI_map g f l]
theorem qix_map (qs : List Qu) (r : Int) : qix qs r = firstI (fun c : Ch => decide (c.id = r)) (qs.map (·.ch)) := firstI_map (fun q : Qu => q.ch) (fun c : Ch => decide (c.id = r)) qs
/-- What send makes of a part. -/
def sendP (x : Pt) (qs : List Qu) : Pt := if (sendV x qs).1 = true then x else { x with st := 4 }
theorem doV1 (x : Pt) (fr tk ver : Int) (qs : List Qu) (inp : Msg) : (doV 1 x fr tk ver qs inp).1 = sendP x qs ∧ (doV 1 x fr tk ver qs inp).2.2.2 = false := by
  have e : doesV 1 x fr tk ver qs inp = ((sendV x qs).1, x, (sendV x qs).2, inp, false) := by unfold doesV; rw [if_neg (by decide), if_pos rfl]
  unfold doV sendP
  rw [e]
  exact ⟨rfl, rfl⟩
def pt0 : Pt := ⟨0, 0, false, 0, 0, 0, 0, 0, 0, 0, 0, 0, 0, []⟩
def oneP (x : Pt) (qs : List Qu) : Pt := if okD x qs = true then sendP x qs else pt0
def oneE (x : Pt) (qs : List Qu) : Int := if okD x qs = true then 0 else 2
theorem okD_may {x : Pt} {qs : List Qu} (h : okD x qs = true) {q : Qu} (hq : q ∈ qs) : chan.mayQ q.ch q.msgs = true := by
  unfold okD at h
  cases hm : chan.mayQ q.ch q.msgs
  · have : (qs.any fun q => !chan.mayQ q.ch q.msgs) = true := List.any_eq_true.2 ⟨q, hq, by rw [hm]; rfl⟩
    rw [this] at h
    simp at h
  · rfl
theorem putE_may {c : Ch} {ls : List Msg} (h : chan.mayQ c ls = true) (m : Msg) : (chan.putR c ls m).2.2 = if c.sz < (m.length : Int) then 3 else 0 := by
  unfold chan.putR
  rw [if_pos h]
  split <;> rfl
theorem sendV_map {x : Pt} {qs qs' : List Qu} (h : qs.map (·.ch) = qs'.map (·.ch)) (ok : okD x qs = true) (ok' : okD x qs' = true) : (sendV x qs).1 = (sendV x qs').1 := by
  have hx : qix qs x.r0 = qix qs' x.r0 := by rw [qix_map, qix_map, h]
  rcases qat_spec qs x.r0 with ⟨h1, h2⟩ | ⟨k, q, h1, h2, h3, _⟩ <;> rcases qat_spec qs' x.r0 with ⟨g1, g2⟩ | ⟨k', q', g1, g2, g3, _⟩
  · unfold sendV; rw [h1, g1]
  · rw [hx, g2] at h2; omega
  · rw [hx, g2] at h2; omega
  · have hk : k = k' := by rw [hx, g2] at h2; omega
    subst hk
    have hc : q.ch = q'.ch := by
      have e1 : (qs.map (·.ch))[k]? = some q.ch := by rw [List.getElem?_map, h3]; rfl
      have e2 : (qs'.map (·.ch))[k]? = some q'.ch := by rw [List.getElem?_map, g3]; rfl
      rw [h, e2] at e1; injection e1 with e1; exact e1.symm
    have m1 := putE_may (okD_may ok (List.mem_of_getElem? h3)) (mem.part x.mem x.r1 x.r2)
    have m2 := putE_may (okD_may ok' (List.mem_of_getElem? g3)) (mem.part x.mem x.r1 x.r2)
    unfold sendV
    rw [h1, g1]
    dsimp only
    rw [m1, m2, hc]
    by_cases h4 : mem.thereE x.mem.length x.r1 x.r2 = 0 ∧ q'.ch.fr = x.id
    · rw [if_pos h4, if_pos h4]
      by_cases h5 : q'.ch.sz < ((mem.part x.mem x.r1 x.r2).length : Int)
      · rw [if_pos h5]; rfl
      · rw [if_neg h5]; rfl
    · rw [if_neg h4, if_neg h4]
/-- What a part is told hangs on the channels alone. -/
theorem oneP_map {x : Pt} {qs qs' : List Qu} (h : qs.map (·.ch) = qs'.map (·.ch)) (he : oneE x qs = oneE x qs') : oneP x qs = oneP x qs' := by
  unfold oneE at he
  unfold oneP
  by_cases h1 : okD x qs = true <;> by_cases h2 : okD x qs' = true
  · rw [if_pos h1, if_pos h2]; unfold sendP; rw [sendV_map h h1 h2]
  · rw [if_pos h1, if_neg h2] at he; exact absurd he (by decide)
  · rw [if_neg h1, if_pos h2] at he; exact absurd he (by decide)
  · rw [if_neg h1, if_neg h2]
theorem oneP_mem (x : Pt) (qs : List Qu) : (oneP x qs).mem.length ≤ x.mem.length := by
  unfold oneP sendP
  split
  · split <;> exact Nat.le_refl _
  · exact Nat.zero_le _
/-- What Do of send tells. -/
def OneOut (x : Pt) (qs : List Qu) (w : World) (e : Ending) (w' : World) : Prop :=
  ∃ A c f t v B n d C m k, e = .returned (.tuple #[.agg #[.int .i64 (oneP x qs).id, .int .i64 (oneP x qs).size, .bool (oneP x qs).keep, .int .u32 (oneP x qs).r0, .int .u32 (oneP x qs).r1, .int .u32 (oneP x qs).r2, .int .u32 (oneP x qs).r3, .int .u32 (oneP x qs).r4, .int .u32 (oneP x qs).r5, .int .u32 (oneP x qs).r6, .int .u32 (oneP x qs).r7, .int .u32 (oneP x qs).pc, .int .u8 (oneP x qs).st, .slice A (oneP x qs).mem.length c], .agg #[.int .i64 f, .int .i64 t, .int .i64 v, .slice B n d, .slice C m k], .bool false, .int .i64 (oneE x qs)]) ∧ Rd w' A (bcs (oneP x qs).mem) ∧ Below w.heap.size w w'
theorem do_one (x : Pt) (Am : Option Addr) (ml cm : Nat) (fr tk ver : Int) (qs : List Qu) (inp : Msg) (B : Option Addr) (nq d : Nat) (Ci : Option Addr) (ni ci : Nat) (hml : x.mem.length = ml) (hnq : qs.length = nq) (hni : inp.length = ni) (hs : Small qs inp) (hr : (0 ≤ x.r0 ∧ x.r0 < 4294967296) ∧ (0 ≤ x.r1 ∧ x.r1 < 4294967296) ∧ 0 ≤ x.r2 ∧ x.r2 < 4294967296) (hmc : ml ≤ cm) (hmA : Am = none → cm = 0) (w : World) (hm : Rd w Am (bcs x.mem)) (hw : WIn w B d qs Ci ci inp) :
    Calls Try.prog 9 #[.int .i64 1, .agg #[.int .i64 x.id, .int .i64 x.size, .bool x.keep, .int .u32 x.r0, .int .u32 x.r1, .int .u32 x.r2, .int .u32 x.r3, .int .u32 x.r4, .int .u32 x.r5, .int .u32 x.r6, .int .u32 x.r7, .int .u32 x.pc, .int .u8 x.st, .slice Am ml cm], .agg #[.int .i64 fr, .int .i64 tk, .int .i64 ver, .slice B nq d, .slice Ci ni ci]] w (OneOut x qs w) := by
  subst hml; subst hnq; subst hni
  by_cases hok : okD x qs = true
  · refine (do_ok 1 x Am cm fr tk ver qs inp B d Ci ci hs hok hr.1.1 hr.1.2 hr.2.1.1 hr.2.1.2 hr.2.2.1 hr.2.2.2 hmc hmA w hm hw).mono ?_
    rintro e w' ⟨hb, A2, c2, B2, d2, C2, c3, rfl, h1, h2⟩
    have e1 : oneP x qs = (doV 1 x fr tk ver qs inp).1 := by unfold oneP; rw [if_pos hok, (doV1 x fr tk ver qs inp).1]
    have e2 : oneE x qs = 0 := if_pos hok
    exact ⟨A2, c2, fr, tk, ver, B2, _, d2, C2, _, c3, by rw [e1, e2, (doV1 x fr tk ver qs inp).2], by rw [e1]; exact h1.2.2.rd, hb⟩
  · have hok' : okD x qs = false := by cases h : okD x qs; rfl; exact absurd h hok
    refine (do_bad 1 x Am cm fr tk ver qs inp B d Ci ci hs hok' w hw).mono ?_
    rintro e w' ⟨rfl, hb⟩
    have e1 : oneP x qs = pt0 := if_neg hok
    have e2 : oneE x qs = 2 := if_neg hok
    exact ⟨none, 0, 0, 0, 0, none, 0, 0, none, 0, 0, by rw [e1, e2]; rfl, by rw [e1]; exact Rd.nil, hb⟩
end Go.Proofs.Ythkkmnckidfmkaa.hy
