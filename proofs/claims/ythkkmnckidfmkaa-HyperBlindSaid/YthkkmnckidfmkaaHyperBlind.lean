/- For every input the law HyperBlind returns true, and the input reads as it did; no condition. -/
import Derived.Test.YthkkmnckidfmkaaRows
import Derived.Test.YthkkmnckidfmkaaHyperBlindLaw
import Derived.Test.YthkkmnckidfmkaaHyM4
import Derived.Test.YthkkmnckidfmkaaHyOpen
import Derived.SizedLaws
namespace Go.Proofs.Ythkkmnckidfmkaa.hyperBlind
open Go Go.ChangeShapes Go.WideShapes Go.ChangeAt Go.RowKit Go.Proofs.Ythkkmnckidfmkaa.rows Go.Proofs.Ythkkmnckidfmkaa.hy
set_option maxRecDepth 100000 in
theorem lifted (os : Os) (started : os.Started) (H : Type) (enc : TypeId × Value → H) :
    ReturnsInHanded {} Try.checked os 3 .any (Rows.hyperBlindSpec.pre6 enc Try.prog Try.f3 Rows.hyperBlindRow.domain false) (Rows.hyperBlindSpec.post enc Try.prog Try.f3 false true false false) := by
  refine returnsInHanded_of_change_sized (C := Try.checked) own started (by kernel_rfl) Try.func3
    (ChangeSpec.witness6 (enc := enc) (C := Try.checked) false ⟨#[], #[.agg #[.int .i64 0, .int .i64 0, .bool false, .int .u32 0, .int .u32 0, .int .u32 0, .int .u32 0, .int .u32 0, .int .u32 0, .int .u32 0, .int .u32 0, .int .u32 0, .int .u8 0, .slice none 0 0], .agg #[.int .i64 0, .int .i64 0, .int .i64 0, .slice none 0 0, .slice none 0 0], .agg #[.int .i64 0, .int .i64 0, .int .i64 0, .slice none 0 0, .slice none 0 0]], []⟩ 8 (by kernel_rfl) (by kernel_rfl) (by kernel_rfl) (by kernel_rfl)) ?_
  intro W base args ds gs before hval0 hW _ hsz0 _
  have hval : ∀ (j : Nat) t v, Try.f3.params[j]? = some t → args[j]? = some v → Value.okWide Try.prog W .any base t v := hval0
  have hW' := hW
  obtain ⟨p, q, hA0, hV, rfl, _, _⟩ := hW
  have hA : DataW.TrodAll enc Try.prog W 0 (fun _ => true) true Try.f3.params.toList args.toList ds p := hA0
  rw [Try.params3] at hA hval
  obtain ⟨v0, vs0, d0, ds0, p0, q0, hargs, rfl, rfl, h0, r0⟩ := trodAll_cons hA
  obtain ⟨v1, vs1, d1, ds1, p1, q1, rfl, rfl, rfl, h1, r1⟩ := trodAll_cons r0
  obtain ⟨v2, vs2, d2, ds2, p2, q2, rfl, rfl, rfl, h2, r2⟩ := trodAll_cons r1
  obtain ⟨rfl, rfl, rfl⟩ := trodAll_nil r2
  obtain rfl : args = #[v0, v1, v2] := by cases args; simp_all
  obtain ⟨rfl, rfl⟩ := trodVars_none hV
  obtain ⟨x, Am, cm, rfl, hpm, hpr⟩ := open_part (hval 0 26 v0 rfl rfl) h0
  obtain ⟨fr, tk, ver, qs, B, d', inp, Ci, ci, rfl, hw, hwt⟩ := open_world (hval 1 29 v1 rfl rfl) h1
  have hls := hwt reachBytes (fun m hm => of_decide_eq_true (List.all_eq_true.1 hsz0 m (DataW.weights_mem_each (j := 1) (t := 29) rfl rfl m hm)))
  have hqm : ∀ q ∈ qs, q.msgs.length ≤ 140737488355328 ∧ ∀ m ∈ q.msgs, m.length ≤ 140737488355328 := fun q hq => ⟨Nat.le_trans (hls q hq).1 (by decide), fun m hm => Nat.le_trans ((hls q hq).2 m hm) (by decide)⟩
  obtain ⟨fr2, tk2, ver2, qs2, B2, d2', inp2, Ci2, ci2, rfl, hw2, hwt2⟩ := open_world (hval 2 29 v2 rfl rfl) h2
  have hls2 := hwt2 reachBytes (fun m hm => of_decide_eq_true (List.all_eq_true.1 hsz0 m (DataW.weights_mem_each (j := 2) (t := 29) rfl rfl m hm)))
  have hqm2 : ∀ q ∈ qs2, q.msgs.length ≤ 140737488355328 ∧ ∀ m ∈ q.msgs, m.length ≤ 140737488355328 := fun q hq => ⟨Nat.le_trans (hls2 q hq).1 (by decide), fun m hm => Nat.le_trans ((hls2 q hq).2 m hm) (by decide)⟩
  refine (blindLaw hy.awake x Am _ cm rfl hpm.1 hpm.2.1 hpr fr tk ver qs inp B _ d' Ci _ ci rfl rfl hqm fr2 tk2 ver2 qs2 inp2 B2 _ d2' Ci2 _ ci2 rfl rfl hqm2 W hpm.2.2 hw hw2).mono fun e W' ⟨he, hb⟩ => ?_
  subst he
  exact ⟨_, rfl, law_post laidOut (by decide +kernel) rfl Try.underlying4 rfl rfl hW' hb⟩
theorem over : Rows.hyperBlindRow.holds Try.pinned (OpenSpec.ofChange Rows.hyperBlindSpec) :=
  OpenClaim.holds_of_wide 3 Try.f3 rfl rfl rfl rfl rfl rfl rfl ⟨rfl, rfl, rfl, rfl, rfl⟩ rfl rfl rfl rfl rfl (by kernel_rfl) Try.func3 (by kernel_rfl)
    (of_decide_eq_true (by kernel_rfl)) (by unfold Func.isWrapper; first | (rw [if_pos (by decide +kernel)]; kernel_rfl) | (rw [if_neg (by decide +kernel)]; exact ⟨rfl, rfl⟩))
    (fun os started H enc _ => lifted os started H enc)
theorem proved : Rows.HyperBlindSaid :=
  over
end Go.Proofs.Ythkkmnckidfmkaa.hyperBlind
