/- For every input the law MemoryStores returns true, and the input reads as it did; no condition. -/
import Derived.Test.YtjliaojanmbicaaRows
import Derived.Test.YtjliaojanmbicaaMemoryStoresLaw
import Derived.Test.YtjliaojanmbicaaMemOpen
namespace Go.Proofs.Ytjliaojanmbicaa.memoryStores
open Go Go.ChangeShapes Go.WideShapes Go.ChangeAt Go.RowKit Go.Proofs.Ytjliaojanmbicaa.mem
set_option maxRecDepth 100000 in
theorem lifted (os : Os) (started : os.Started) (H : Type) (enc : TypeId × Value → H) :
    ReturnsInHanded {} Try.checked os 6 .any (Rows.memoryStoresSpec.pre6 enc Try.prog Try.f6 Rows.memoryStoresRow.domain false) (Rows.memoryStoresSpec.post enc Try.prog Try.f6 false true false false) := by
  refine returnsInHanded_of_change (C := Try.checked) own started (by kernel_rfl) Try.func6
    (ChangeSpec.witness6 (enc := enc) (C := Try.checked) false ⟨#[], #[.slice none 0 0, .int .i64 0, .int .u8 0, .int .u32 0, .slice none 0 0], []⟩ 8 (by kernel_rfl) (by kernel_rfl) (by kernel_rfl) (by kernel_rfl)) ?_
  intro W base args ds gs before hval0 hW _ _
  have hval : ∀ (j : Nat) t v, Try.f6.params[j]? = some t → args[j]? = some v → Value.okWide Try.prog W .any base t v := hval0
  have hW' := hW
  obtain ⟨p, q, hA0, hV, rfl, _, _⟩ := hW
  have hA : DataW.TrodAll enc Try.prog W 0 (fun _ => true) true Try.f6.params.toList args.toList ds p := hA0
  rw [Try.params6] at hA hval
  obtain ⟨v0, vs0, d0, ds0, p0, q0, hargs, rfl, rfl, h0, r0⟩ := trodAll_cons hA
  obtain ⟨v1, vs1, d1, ds1, p1, q1, rfl, rfl, rfl, h1, r1⟩ := trodAll_cons r0
  obtain ⟨v2, vs2, d2, ds2, p2, q2, rfl, rfl, rfl, h2, r2⟩ := trodAll_cons r1
  obtain ⟨v3, vs3, d3, ds3, p3, q3, rfl, rfl, rfl, h3, r3⟩ := trodAll_cons r2
  obtain ⟨v4, vs4, d4, ds4, p4, q4, rfl, rfl, rfl, h4, r4⟩ := trodAll_cons r3
  obtain ⟨rfl, rfl, rfl⟩ := trodAll_nil r4
  obtain rfl : args = #[v0, v1, v2, v3, v4] := by cases args; simp_all
  obtain ⟨rfl, rfl⟩ := trodVars_none hV
  obtain ⟨l, Al, cl, rfl, hcl, hml, hrl, hAl⟩ := open_bytes (okWide_slice Try.underlying22 (hval 0 22 v0 rfl rfl)) h0
  obtain ⟨i, rfl, rfl, rfl, hwi⟩ := open_int Try.underlying3 (hval 1 3 v1 rfl rfl) h1
  have hbi := (Lit.wf_int_iff .i64 i).1 hwi
  obtain ⟨x, rfl, rfl, rfl, hwx⟩ := open_int Try.underlying5 (hval 2 5 v2 rfl rfl) h2
  have hbx := (Lit.wf_int_iff .u8 x).1 hwx
  obtain ⟨y, rfl, rfl, rfl, hwy⟩ := open_int Try.underlying29 (hval 3 29 v3 rfl rfl) h3
  have hby := (Lit.wf_int_iff .u32 y).1 hwy
  obtain ⟨b, Ab, cb, rfl, hcb, hmb, hrb, hAb⟩ := open_bytes (okWide_slice Try.underlying22 (hval 4 22 v4 rfl rfl)) h4
  refine (stores.law l b i x y hbx hby Al Ab cl cb W hrl hrb).mono fun e W' ⟨he, hb⟩ => ?_
  subst he
  exact ⟨_, rfl, law_post laidOut (by decide +kernel) rfl Try.underlying4 rfl rfl hW' hb⟩
theorem over : Rows.memoryStoresRow.holds Try.pinned (OpenSpec.ofChange Rows.memoryStoresSpec) :=
  OpenClaim.holds_of_wide 6 Try.f6 rfl rfl rfl rfl rfl rfl rfl ⟨rfl, rfl, rfl, rfl, rfl⟩ rfl rfl rfl rfl rfl (by kernel_rfl) Try.func6 (by kernel_rfl)
    (of_decide_eq_true (by kernel_rfl)) (by unfold Func.isWrapper; first | (rw [if_pos (by decide +kernel)]; kernel_rfl) | (rw [if_neg (by decide +kernel)]; exact ⟨rfl, rfl⟩))
    (fun os started H enc _ => lifted os started H enc)
theorem proved : Rows.MemoryStoresSaid :=
  over
end Go.Proofs.Ytjliaojanmbicaa.memoryStores
