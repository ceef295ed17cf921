/- For every input the law MoveApart returns true, and the input reads as it did; no condition. -/
import Derived.Test.YtnfjkpeifleogaaRows
import Derived.Test.YtnfjkpeifleogaaMoveApartLaw
import Derived.Test.YtnfjkpeifleogaaMvOpen
import Derived.SizedLaws
namespace Go.Proofs.Ytnfjkpeifleogaa.moveApart
open Go Go.ChangeShapes Go.WideShapes Go.ChangeAt Go.RowKit Go.Proofs.Ytnfjkpeifleogaa.rows Go.Proofs.Ytnfjkpeifleogaa.mv
set_option maxRecDepth 100000 in
theorem lifted (os : Os) (started : os.Started) (H : Type) (enc : TypeId × Value → H) :
    ReturnsInHanded {} Try.checked os 5 .any (Rows.moveApartSpec.pre6 enc Try.prog Try.f5 Rows.moveApartRow.domain false) (Rows.moveApartSpec.post enc Try.prog Try.f5 false true false false) := by
  refine returnsInHanded_of_change_sized (C := Try.checked) own started (by kernel_rfl) Try.func5
    (ChangeSpec.witness6 (enc := enc) (C := Try.checked) false ⟨#[], #[.agg #[.int .i64 0, .slice none 0 0, .slice none 0 0], .agg #[.slice none 0 0, .slice none 0 0, .slice none 0 0], .int .i64 0, .int .u8 0], []⟩ 8 (by kernel_rfl) (by kernel_rfl) (by kernel_rfl) (by kernel_rfl)) ?_
  intro W base args ds gs before hval0 hW _ hsz0 _
  have hval : ∀ (j : Nat) t v, Try.f5.params[j]? = some t → args[j]? = some v → Value.okWide Try.prog W .any base t v := hval0
  have hW' := hW
  obtain ⟨p, q, hA0, hV, rfl, _, _⟩ := hW
  have hA : DataW.TrodAll enc Try.prog W 0 (fun _ => true) true Try.f5.params.toList args.toList ds p := hA0
  rw [Try.params5] at hA hval
  obtain ⟨v0, vs0, d0, ds0, p0, q0, hargs, rfl, rfl, h0, r0⟩ := trodAll_cons hA
  obtain ⟨v1, vs1, d1, ds1, p1, q1, rfl, rfl, rfl, h1, r1⟩ := trodAll_cons r0
  obtain ⟨v2, vs2, d2, ds2, p2, q2, rfl, rfl, rfl, h2, r2⟩ := trodAll_cons r1
  obtain ⟨v3, vs3, d3, ds3, p3, q3, rfl, rfl, rfl, h3, r3⟩ := trodAll_cons r2
  obtain ⟨rfl, rfl, rfl⟩ := trodAll_nil r3
  obtain rfl : args = #[v0, v1, v2, v3] := by cases args; simp_all
  obtain ⟨rfl, rfl⟩ := trodVars_none hV
  obtain ⟨fr, ps, Ap, cp, qs, Aq, cq, rfl, jp, jq, hw0⟩ := open_state (hval 0 25 v0 rfl rfl) h0
  have hls := hw0 reachBytes (fun m hm => of_decide_eq_true (List.all_eq_true.1 hsz0 m (DataW.weights_mem_each (j := 0) (t := 25) rfl rfl m hm)))
  have hml : ∀ x ∈ ps, x.mem.length ≤ 140737488355328 := fun x hx => Nat.le_trans (hls.1 x hx) (by decide)
  have hqm : ∀ q ∈ qs, q.msgs.length ≤ 140737488355328 ∧ ∀ m ∈ q.msgs, m.length ≤ 140737488355328 := fun q hq => ⟨Nat.le_trans (hls.2 q hq).1 (by decide), fun m hm => Nat.le_trans ((hls.2 q hq).2 m hm) (by decide)⟩
  obtain ⟨Aw, nw, cw, pn, An, cn, cs, Ac, cc, rfl, jn, jc, hw1⟩ := open_config (hval 1 30 v1 rfl rfl) h1
  have hil : ∀ x ∈ pn, x.img.length ≤ 140737488355328 := fun x hx => Nat.le_trans (hw1 reachBytes (fun m hm => of_decide_eq_true (List.all_eq_true.1 hsz0 m (DataW.weights_mem_each (j := 1) (t := 30) rfl rfl m hm))) x hx) (by decide)
  obtain ⟨i, rfl, rfl, rfl, _⟩ := open_int Try.underlying3 (hval 2 3 v2 rfl rfl) h2
  obtain ⟨z, rfl, rfl, rfl, hwz⟩ := open_int Try.underlying5 (hval 3 5 v3 rfl rfl) h3
  have hbz := (Lit.wf_int_iff .u8 z).1 hwz
  obtain ⟨b, hbe⟩ := byte_of z (show IntKind.u8.min ≤ z from hbz.1) (Int.lt_add_one_of_le (show z ≤ 255 from hbz.2))
  subst hbe
  refine (apartLaw i b fr ps pn qs cs Ap Aq Aw An Ac _ cp _ cq nw cw _ cn _ cc rfl rfl rfl rfl hml hqm hil W jp jn jq jc).mono fun e W' ⟨he, hb⟩ => ?_
  subst he
  exact ⟨_, rfl, law_post laidOut (by decide +kernel) rfl Try.underlying4 rfl rfl hW' hb⟩
theorem over : Rows.moveApartRow.holds Try.pinned (OpenSpec.ofChange Rows.moveApartSpec) :=
  OpenClaim.holds_of_wide 5 Try.f5 rfl rfl rfl rfl rfl rfl rfl ⟨rfl, rfl, rfl, rfl, rfl⟩ rfl rfl rfl rfl rfl (by kernel_rfl) Try.func5 (by kernel_rfl)
    (of_decide_eq_true (by kernel_rfl)) (by unfold Func.isWrapper; first | (rw [if_pos (by decide +kernel)]; kernel_rfl) | (rw [if_neg (by decide +kernel)]; exact ⟨rfl, rfl⟩))
    (fun os started H enc _ => lifted os started H enc)
theorem proved : Rows.MoveApartSaid :=
  over
end Go.Proofs.Ytnfjkpeifleogaa.moveApart
