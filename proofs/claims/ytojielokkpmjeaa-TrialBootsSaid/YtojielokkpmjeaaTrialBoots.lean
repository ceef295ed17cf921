/- For every input the law TrialBoots returns true, and the input reads as it did; no condition. -/
import Derived.Test.YtojielokkpmjeaaRows
import Derived.Test.YtojielokkpmjeaaLib
namespace Go.Proofs.Ytojielokkpmjeaa.trialBoots
open Go Go.ChangeShapes Go.WideShapes Go.ChangeAt Go.RowKit
theorem as_any (k n : Int) (h0 : 0 ≤ k) (h1 : k ≤ 255) (w : World) : Calls Try.prog 6 #[.agg #[.int .u8 k, .int .i64 n]] w fun e w' => e = .returned (.agg #[.int .i64 k, .int .i64 n]) ∧ Below w.heap.size w w' := by
  go_enter Try.func6, Try.ntmps6
  go_wp2
  refine bodyPost_ret (v := .agg #[.int .i64 k, .int .i64 n]) (by simp [results, Try.results6, go_sem]) rfl ⟨rfl, by repeat (first | exact Below.refl _ _ | refine Below.alloc ?_ (by simp) _)⟩
def bootR (on : Bool) (n a : Int) : Int × Int × Int :=
  if on = false then (0, 0, 0) else if 3 ≤ a ∨ ¬ (1 ≤ n ∧ n ≤ 8) then (0, 0, 4) else (2, n, 1)
def bootV (k : IntKind) (s : IntKind) (r : Int × Int × Int) : Value := .tuple #[.agg #[.int k r.1, .int .i64 r.2.1], .int s r.2.2]
theorem bootR_off (n a : Int) : bootR false n a = (0, 0, 0) := rfl
theorem bootR_back (n a : Int) (h : 3 ≤ a ∨ ¬ (1 ≤ n ∧ n ≤ 8)) : bootR true n a = (0, 0, 4) := by simp [bootR]; omega
theorem bootR_on (n a : Int) (h : a < 3) (h1 : 1 ≤ n) (h2 : n ≤ 8) : bootR true n a = (2, n, 1) := by
  unfold bootR; rw [if_neg (by simp), if_neg (by omega)]
theorem prog_any (on : Bool) (n a : Int) (w : World) : Calls Try.prog 4 #[.bool on, .int .i64 n, .int .i64 a] w fun e w' => e = .returned (bootV .u8 .u8 (bootR on n a)) ∧ Below w.heap.size w w' := by
  cases on
  · go_enter Try.func4, Try.ntmps4
    go_wp2
    refine bodyPost_ret (v := bootV .u8 .u8 (bootR false n a)) (by rw [bootR_off]; simp [results, Try.results4, go_sem, bootV]) rfl ⟨rfl, by repeat (first | exact Below.refl _ _ | refine Below.alloc ?_ (by simp) _)⟩
  · by_cases h1 : 3 ≤ a
    · have hid := Lib.hid (bootR_back n a (.inl h1))
      go_enter Try.func4, Try.ntmps4
      go_wp2
      refine bodyPost_ret (v := bootV .u8 .u8 (bootR true n a)) (by rw [hid.out]; simp [results, Try.results4, go_sem, bootV]) rfl ⟨rfl, by repeat (first | exact Below.refl _ _ | refine Below.alloc ?_ (by simp) _)⟩
    · by_cases h2 : 1 ≤ n
      · by_cases h3 : n ≤ 8
        · have hid := Lib.hid (bootR_on n a (by omega) h2 h3)
          go_enter Try.func4, Try.ntmps4
          go_wp2
          refine bodyPost_ret (v := bootV .u8 .u8 (bootR true n a)) (by rw [hid.out]; simp [results, Try.results4, go_sem, bootV]) rfl ⟨rfl, by repeat (first | exact Below.refl _ _ | refine Below.alloc ?_ (by simp) _)⟩
        · have hid := Lib.hid (bootR_back n a (.inr (by omega)))
          go_enter Try.func4, Try.ntmps4
          go_wp2
          refine bodyPost_ret (v := bootV .u8 .u8 (bootR true n a)) (by rw [hid.out]; simp [results, Try.results4, go_sem, bootV]) rfl ⟨rfl, by repeat (first | exact Below.refl _ _ | refine Below.alloc ?_ (by simp) _)⟩
      · have hid := Lib.hid (bootR_back n a (.inr (by omega)))
        go_enter Try.func4, Try.ntmps4
        go_wp2
        refine bodyPost_ret (v := bootV .u8 .u8 (bootR true n a)) (by rw [hid.out]; simp [results, Try.results4, go_sem, bootV]) rfl ⟨rfl, by repeat (first | exact Below.refl _ _ | refine Below.alloc ?_ (by simp) _)⟩
theorem ref_any (on : Bool) (n a : Int) (w : World) : Calls Try.prog 5 #[.bool on, .int .i64 n, .int .i64 a] w fun e w' => e = .returned (bootV .i64 .i64 (bootR on n a)) ∧ Below w.heap.size w w' := by
  cases on
  · go_enter Try.func5, Try.ntmps5
    go_wp2
    refine bodyPost_ret (v := bootV .i64 .i64 (bootR false n a)) (by rw [bootR_off]; simp [results, Try.results5, go_sem, bootV]) rfl ⟨rfl, by repeat (first | exact Below.refl _ _ | refine Below.alloc ?_ (by simp) _)⟩
  · by_cases h1 : 2 < a
    · have hid := Lib.hid (bootR_back n a (.inl h1))
      go_enter Try.func5, Try.ntmps5
      go_wp2
      refine bodyPost_ret (v := bootV .i64 .i64 (bootR true n a)) (by rw [hid.out]; simp [results, Try.results5, go_sem, bootV]) rfl ⟨rfl, by repeat (first | exact Below.refl _ _ | refine Below.alloc ?_ (by simp) _)⟩
    · by_cases h2 : n < 1
      · have hid := Lib.hid (bootR_back n a (.inr (by omega)))
        go_enter Try.func5, Try.ntmps5
        go_wp2
        refine bodyPost_ret (v := bootV .i64 .i64 (bootR true n a)) (by rw [hid.out]; simp [results, Try.results5, go_sem, bootV]) rfl ⟨rfl, by repeat (first | exact Below.refl _ _ | refine Below.alloc ?_ (by simp) _)⟩
      · by_cases h3 : 8 < n
        · have hid := Lib.hid (bootR_back n a (.inr (by omega)))
          go_enter Try.func5, Try.ntmps5
          go_wp2
          refine bodyPost_ret (v := bootV .i64 .i64 (bootR true n a)) (by rw [hid.out]; simp [results, Try.results5, go_sem, bootV]) rfl ⟨rfl, by repeat (first | exact Below.refl _ _ | refine Below.alloc ?_ (by simp) _)⟩
        · have hid := Lib.hid (bootR_on n a (by omega) (by omega) (by omega))
          go_enter Try.func5, Try.ntmps5
          go_wp2
          refine bodyPost_ret (v := bootV .i64 .i64 (bootR true n a)) (by rw [hid.out]; simp [results, Try.results5, go_sem, bootV]) rfl ⟨rfl, by repeat (first | exact Below.refl _ _ | refine Below.alloc ?_ (by simp) _)⟩
theorem law (on : Bool) (n a : Int) (w : World) : Calls Try.prog 3 #[.bool on, .int .i64 n, .int .i64 a] w fun e w' => e = .returned (.bool true) ∧ Below w.heap.size w w' := by
  have bd : 0 ≤ (bootR on n a).1 ∧ (bootR on n a).1 ≤ 2 ∧ 0 ≤ (bootR on n a).2.2 ∧ (bootR on n a).2.2 ≤ 4 := by
    unfold bootR; split
    · simp
    · split <;> simp
  generalize hr : bootR on n a = r at bd
  have hp : ∀ w, Calls Try.prog 4 #[.bool on, .int .i64 n, .int .i64 a] w fun e w' => e = .returned (bootV .u8 .u8 r) ∧ Below w.heap.size w w' := fun w => hr ▸ prog_any on n a w
  have hq : ∀ w, Calls Try.prog 5 #[.bool on, .int .i64 n, .int .i64 a] w fun e w' => e = .returned (bootV .i64 .i64 r) ∧ Below w.heap.size w w' := fun w => hr ▸ ref_any on n a w
  clear hr
  obtain ⟨r0, r1, r2⟩ := r
  obtain ⟨g1, g2, g3, g4⟩ := bd
  simp only at g1 g2 g3 g4
  have Hp := Lib.hid hp; have Hq := Lib.hid hq
  clear hp hq
  go_enter Try.func3, Try.ntmps3
  go_wp2_with fail
  refine (Hp.out _).mono ?_
  rintro e w1 ⟨rfl, b1⟩
  unfold bootV
  go_wp2_with fail
  refine (Hq.out _).mono ?_
  rintro e w2 ⟨rfl, b2⟩
  unfold bootV
  have hz1 := b1.size
  have hz2 : w1.heap.size + 1 ≤ w2.heap.size := by have := b2.size; simpa using this
  have hc := b2.cell (p := ⟨w1.heap.size, 0, none⟩) (by simp)
  have hd := b2.cell (p := ⟨w1.heap.size, 1, none⟩) (by simp)
  simp only [go_sem] at hc hd
  go_wp2_with fail
  refine region_ext (by kernel_rfl) (by kernel_rfl) ?_
  have c1 : ∀ x : Ext (w2.alloc (Obj.cells #[Value.int IntKind.i64 r0, Value.int IntKind.i64 r1] 28)).heap.size (w2.alloc (Obj.cells #[Value.int IntKind.i64 r0, Value.int IntKind.i64 r1] 28)), x.world.cell? ⟨w1.heap.size, 0, none⟩ = some (.int .u8 r0) :=
    fun x => (x.cell _ _ (by simp; omega)).trans (by rw [World.cell?_alloc_lt _ _ _ (by simp; omega), hc]; rfl)
  have c2 : ∀ x : Ext (w2.alloc (Obj.cells #[Value.int IntKind.i64 r0, Value.int IntKind.i64 r1] 28)).heap.size (w2.alloc (Obj.cells #[Value.int IntKind.i64 r0, Value.int IntKind.i64 r1] 28)), x.world.cell? ⟨w1.heap.size, 1, none⟩ = some (.int .i64 r1) :=
    fun x => (x.cell _ _ (by simp; omega)).trans (by rw [World.cell?_alloc_lt _ _ _ (by simp; omega), hd]; rfl)
  have c3 : ∀ x : Ext (w2.alloc (Obj.cells #[Value.int IntKind.i64 r0, Value.int IntKind.i64 r1] 28)).heap.size (w2.alloc (Obj.cells #[Value.int IntKind.i64 r0, Value.int IntKind.i64 r1] 28)), x.world.cell? ⟨w2.heap.size, 0, none⟩ = some (.int .i64 r0) :=
    fun x => (x.cell _ _ (by simp)).trans (by simp [go_sem])
  have c4 : ∀ x : Ext (w2.alloc (Obj.cells #[Value.int IntKind.i64 r0, Value.int IntKind.i64 r1] 28)).heap.size (w2.alloc (Obj.cells #[Value.int IntKind.i64 r0, Value.int IntKind.i64 r1] 28)), x.world.cell? ⟨w2.heap.size, 1, none⟩ = some (.int .i64 r1) :=
    fun x => (x.cell _ _ (by simp)).trans (by simp [go_sem])
  have hbb : Below w.heap.size w (w2.alloc (Obj.cells #[Value.int IntKind.i64 r0, Value.int IntKind.i64 r1] 28)) :=
    ((((b1.alloc hz1 _).trans (b2.mono (by simp; omega)))).alloc (by omega) _)
  have hbz : w.heap.size ≤ (w2.alloc (Obj.cells #[Value.int IntKind.i64 r0, Value.int IntKind.i64 r1] 28)).heap.size := by simp; omega
  generalize (w2.alloc (Obj.cells #[Value.int IntKind.i64 r0, Value.int IntKind.i64 r1] 28)) = W at *
  clear hc hd b1 b2
  go_big_quiet_step (fail)
  go_big_quiet_want
  go_big_quiet_op
  apply Exists.intro
  refine ⟨fun x => ?_, ?_⟩
  · refine (as_any _ _ (by omega) (by omega) _).mono ?_
    rintro e w' ⟨rfl, hb⟩
    exact ⟨rfl, ⟨w', x.below.trans (hb.mono x.below.size)⟩, rfl⟩
  go_big_quiet_on
  repeat (go_big_quiet_step (fail))
  refine wpQuiet_nil ?_
  intro x
  go_wp2
  go_ret
  exact ⟨rfl, hbb.trans (x.below.mono hbz)⟩

theorem own : ownKnob Try.prog.godebug = none := by kernel_rfl
theorem laidOut : laidOutB Try.prog = true := by kernel_rfl
set_option maxRecDepth 100000 in
theorem lifted (os : Os) (started : os.Started) (H : Type) (enc : TypeId × Value → H) :
    ReturnsInHanded {} Try.checked os 3 .any (Rows.trialBootsSpec.pre6 enc Try.prog Try.f3 Rows.trialBootsRow.domain false) (Rows.trialBootsSpec.post enc Try.prog Try.f3 false true false false) := by
  refine returnsInHanded_of_change (C := Try.checked) own started (by kernel_rfl) Try.func3
    (ChangeSpec.witness6 (enc := enc) (C := Try.checked) false ⟨#[], #[.bool false, .int .i64 0, .int .i64 0], []⟩ 8 (by kernel_rfl) (by kernel_rfl) (by kernel_rfl) (by kernel_rfl)) ?_
  intro W base args ds gs before hval0 hW _ _
  have hval : ∀ (j : Nat) t v, Try.f3.params[j]? = some t → args[j]? = some v → Value.okWide Try.prog W .any base t v := hval0
  have hW' := hW
  obtain ⟨p, q, hA0, hV, rfl, _, _⟩ := hW
  have hA : DataW.TrodAll enc Try.prog W 0 (fun _ => true) true Try.f3.params.toList args.toList ds p := hA0
  rw [Try.params3] at hA hval
  obtain ⟨v0, vs0, d0, ds0, p0, q0, hargs, rfl, rfl, h0, r0⟩ := trodAll_cons hA
  obtain ⟨v1, vs1, d1, ds1, p1, q1, rfl, rfl, rfl, h1, r1⟩ := trodAll_cons r0
  obtain ⟨v2, vs2, d2, ds2, p2, q2, rfl, rfl, rfl, h2, r2⟩ := trodAll_cons r1
  obtain ⟨rfl, rfl, rfl⟩ := trodAll_nil r2
  obtain rfl : args = #[v0, v1, v2] := by cases args; simp_all
  obtain ⟨rfl, rfl⟩ := trodVars_none hV
  obtain ⟨a0, rfl, rfl, rfl⟩ := open_bool Try.underlying4 (hval 0 4 v0 rfl rfl) h0
  obtain ⟨a1, rfl, rfl, rfl, _⟩ := open_int Try.underlying3 (hval 1 3 v1 rfl rfl) h1
  obtain ⟨a2, rfl, rfl, rfl, _⟩ := open_int Try.underlying3 (hval 2 3 v2 rfl rfl) h2
  refine (law a0 a1 a2 W).mono fun e W' ⟨he, hb⟩ => ?_
  subst he
  exact ⟨_, rfl, law_post laidOut (by decide +kernel) rfl Try.underlying4 rfl rfl hW' hb⟩
theorem over : Rows.trialBootsRow.holds Try.pinned (OpenSpec.ofChange Rows.trialBootsSpec) :=
  OpenClaim.holds_of_wide 3 Try.f3 rfl rfl rfl rfl rfl rfl rfl ⟨rfl, rfl, rfl, rfl, rfl⟩ rfl rfl rfl rfl rfl (by kernel_rfl) Try.func3 (by kernel_rfl)
    (of_decide_eq_true (by kernel_rfl)) (by unfold Func.isWrapper; first | (rw [if_pos (by decide +kernel)]; kernel_rfl) | (rw [if_neg (by decide +kernel)]; exact ⟨rfl, rfl⟩))
    (fun os started H enc _ => lifted os started H enc)
theorem proved : Rows.TrialBootsSaid :=
  over
end Go.Proofs.Ytojielokkpmjeaa.trialBoots
