/- For every input the law ChannelTells returns true, and the input reads as it did; no condition. -/
import Derived.Test.YtlmecndldclnnaaRows
import Derived.Test.YtlmecndldclnnaaChannelTellsLaw
import Derived.Test.YtlmecndldclnnaaChOpen2
import Derived.Test.YtlmecndldclnnaaChOpen
import Derived.SizedLaws
namespace Go.Proofs.Ytlmecndldclnnaa.channelTells
open Go Go.ChangeShapes Go.WideShapes Go.ChangeAt Go.RowKit Go.Proofs.Ytlmecndldclnnaa.rows Go.Proofs.Ytlmecndldclnnaa.chan
set_option maxRecDepth 100000 in
theorem lifted (os : Os) (started : os.Started) (H : Type) (enc : TypeId × Value → H) :
    ReturnsInHanded {} Try.checked os 8 .any (Rows.channelTellsSpec.pre6 enc Try.prog Try.f8 Rows.channelTellsRow.domain false) (Rows.channelTellsSpec.post enc Try.prog Try.f8 false true false false) := by
  refine returnsInHanded_of_change_sized (C := Try.checked) own started (by kernel_rfl) Try.func8
    (ChangeSpec.witness6 (enc := enc) (C := Try.checked) false ⟨#[], #[.slice none 0 0, .agg #[.int .i64 0, .int .i64 0, .int .i64 0, .int .i64 0, .int .i64 0, .slice none 0 0], .agg #[.int .i64 0, .int .i64 0, .int .i64 0, .int .i64 0, .int .i64 0, .slice none 0 0]], []⟩ 8 (by kernel_rfl) (by kernel_rfl) (by kernel_rfl) (by kernel_rfl)) ?_
  intro W base args ds gs before hval0 hW _ hsz0 _
  have hval : ∀ (j : Nat) t v, Try.f8.params[j]? = some t → args[j]? = some v → Value.okWide Try.prog W .any base t v := hval0
  have hW' := hW
  obtain ⟨p, q, hA0, hV, rfl, _, _⟩ := hW
  have hA : DataW.TrodAll enc Try.prog W 0 (fun _ => true) true Try.f8.params.toList args.toList ds p := hA0
  rw [Try.params8] at hA hval
  obtain ⟨v0, vs0, d0, ds0, p0, q0, hargs, rfl, rfl, h0, r0⟩ := trodAll_cons hA
  obtain ⟨v1, vs1, d1, ds1, p1, q1, rfl, rfl, rfl, h1, r1⟩ := trodAll_cons r0
  obtain ⟨v2, vs2, d2, ds2, p2, q2, rfl, rfl, rfl, h2, r2⟩ := trodAll_cons r1
  obtain ⟨rfl, rfl, rfl⟩ := trodAll_nil r2
  obtain rfl : args = #[v0, v1, v2] := by cases args; simp_all
  obtain ⟨rfl, rfl⟩ := trodVars_none hV
  obtain ⟨l, Al, cl, rfl, hcl, hml, hrl⟩ := open_chans (okWide_slice Try.underlying48 (hval 0 48 v0 rfl rfl)) h0
  obtain ⟨x, la, Ala, cla, rfl, hcla, hmla, hrla, hAla, hwla⟩ := open_queue (hval 1 26 v1 rfl rfl) h1
  have hLla : ∀ l ∈ la, l.length ≤ 140737488355328 := fun l hl => Nat.le_trans (hwla reachBytes (fun m hm => of_decide_eq_true (List.all_eq_true.1 hsz0 m (DataW.weights_mem_each (j := 1) (t := 26) rfl rfl m hm))) l hl) (by decide)
  obtain ⟨y, lb, Alb, clb, rfl, hclb, hmlb, hrlb, hAlb, hwlb⟩ := open_queue (hval 2 26 v2 rfl rfl) h2
  have hLlb : ∀ l ∈ lb, l.length ≤ 140737488355328 := fun l hl => Nat.le_trans (hwlb reachBytes (fun m hm => of_decide_eq_true (List.all_eq_true.1 hsz0 m (DataW.weights_mem_each (j := 2) (t := 26) rfl rfl m hm))) l hl) (by decide)
  refine (tells l x y la lb Al cl Ala cla Alb clb hcl hml hAla hcla hAlb hclb hLla hLlb W hrl hrla hrlb).mono fun e W' ⟨he, hb⟩ => ?_
  subst he
  exact ⟨_, rfl, law_post laidOut (by decide +kernel) rfl Try.underlying4 rfl rfl hW' hb⟩
theorem over : Rows.channelTellsRow.holds Try.pinned (OpenSpec.ofChange Rows.channelTellsSpec) :=
  OpenClaim.holds_of_wide 8 Try.f8 rfl rfl rfl rfl rfl rfl rfl ⟨rfl, rfl, rfl, rfl, rfl⟩ rfl rfl rfl rfl rfl (by kernel_rfl) Try.func8 (by kernel_rfl)
    (of_decide_eq_true (by kernel_rfl)) (by unfold Func.isWrapper; first | (rw [if_pos (by decide +kernel)]; kernel_rfl) | (rw [if_neg (by decide +kernel)]; exact ⟨rfl, rfl⟩))
    (fun os started H enc _ => lifted os started H enc)
theorem proved : Rows.ChannelTellsSaid :=
  over
end Go.Proofs.Ytlmecndldclnnaa.channelTells
