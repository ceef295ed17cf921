/- For every input the law MoveMoves returns true, and the input reads as it did; no condition. -/
import Derived.Test.YtnfjkpeifleogaaRows
import Derived.Test.YtnfjkpeifleogaaMoveMovesLaw
import Derived.Test.YtnfjkpeifleogaaMvOpen
import Derived.SizedLaws
namespace Go.Proofs.Ytnfjkpeifleogaa.moveMoves
open Go Go.ChangeShapes Go.WideShapes Go.ChangeAt Go.RowKit Go.Proofs.Ytnfjkpeifleogaa.rows Go.Proofs.Ytnfjkpeifleogaa.mv
set_option maxRecDepth 100000 in
theorem lifted (os : Os) (started : os.Started) (H : Type) (enc : TypeId × Value → H) :
    ReturnsInHanded {} Try.checked os 6 .any (Rows.moveMovesSpec.pre6 enc Try.prog Try.f6 Rows.moveMovesRow.domain false) (Rows.moveMovesSpec.post enc Try.prog Try.f6 false true false false) := by
  refine returnsInHanded_of_change_sized (C := Try.checked) own started (by kernel_rfl) Try.func6
    (ChangeSpec.witness6 (enc := enc) (C := Try.checked) false ⟨#[], #[.agg #[.int .i64 0, .slice none 0 0, .slice none 0 0], .agg #[.slice none 0 0, .slice none 0 0, .slice none 0 0]], []⟩ 8 (by kernel_rfl) (by kernel_rfl) (by kernel_rfl) (by kernel_rfl)) ?_
  intro W base args ds gs before hval0 hW _ hsz0 _
  have hval : ∀ (j : Nat) t v, Try.f6.params[j]? = some t → args[j]? = some v → Value.okWide Try.prog W .any base t v := hval0
  have hW' := hW
  obtain ⟨p, q, hA0, hV, rfl, _, _⟩ := hW
  have hA : DataW.TrodAll enc Try.prog W 0 (fun _ => true) true Try.f6.params.toList args.toList ds p := hA0
  rw [Try.params6] at hA hval
  obtain ⟨v0, vs0, d0, ds0, p0, q0, hargs, rfl, rfl, h0, r0⟩ := trodAll_cons hA
  obtain ⟨v1, vs1, d1, ds1, p1, q1, rfl, rfl, rfl, h1, r1⟩ := trodAll_cons r0
  obtain ⟨rfl, rfl, rfl⟩ := trodAll_nil r1
  obtain rfl : args = #[v0, v1] := by cases args; simp_all
  obtain ⟨rfl, rfl⟩ := trodVars_none hV
  obtain ⟨fr, ps, Ap, cp, qs, Aq, cq, rfl, jp, jq, hw0⟩ := open_state (hval 0 25 v0 rfl rfl) h0
  have hls := hw0 reachBytes (fun m hm => of_decide_eq_true (List.all_eq_true.1 hsz0 m (DataW.weights_mem_each (j := 0) (t := 25) rfl rfl m hm)))
  have hml : ∀ x ∈ ps, x.mem.length ≤ 140737488355328 := fun x hx => Nat.le_trans (hls.1 x hx) (by decide)
  have hqm : ∀ q ∈ qs, q.msgs.length ≤ 140737488355328 ∧ ∀ m ∈ q.msgs, m.length ≤ 140737488355328 := fun q hq => ⟨Nat.le_trans (hls.2 q hq).1 (by decide), fun m hm => Nat.le_trans ((hls.2 q hq).2 m hm) (by decide)⟩
  obtain ⟨Aw, nw, cw, pn, An, cn, cs, Ac, cc, rfl, jn, jc, hw1⟩ := open_config (hval 1 30 v1 rfl rfl) h1
  have hil : ∀ x ∈ pn, x.img.length ≤ 140737488355328 := fun x hx => Nat.le_trans (hw1 reachBytes (fun m hm => of_decide_eq_true (List.all_eq_true.1 hsz0 m (DataW.weights_mem_each (j := 1) (t := 30) rfl rfl m hm))) x hx) (by decide)
  refine (movesLaw fr ps pn qs cs Ap Aq Aw An Ac _ cp _ cq nw cw _ cn _ cc rfl rfl rfl rfl hml hqm hil W jp jn jq jc).mono fun e W' ⟨he, hb⟩ => ?_
  subst he
  exact ⟨_, rfl, law_post laidOut (by decide +kernel) rfl Try.underlying4 rfl rfl hW' hb⟩
theorem over : Rows.moveMovesRow.holds Try.pinned (OpenSpec.ofChange Rows.moveMovesSpec) :=
  OpenClaim.holds_of_wide 6 Try.f6 rfl rfl rfl rfl rfl rfl rfl ⟨rfl, rfl, rfl, rfl, rfl⟩ rfl rfl rfl rfl rfl (by kernel_rfl) Try.func6 (by kernel_rfl)
    (of_decide_eq_true (by kernel_rfl)) (by unfold Func.isWrapper; first | (rw [if_pos (by decide +kernel)]; kernel_rfl) | (rw [if_neg (by decide +kernel)]; exact ⟨rfl, rfl⟩))
    (fun os started H enc _ => lifted os started H enc)
theorem proved : Rows.MoveMovesSaid :=
  over
end Go.Proofs.Ytnfjkpeifleogaa.moveMoves
