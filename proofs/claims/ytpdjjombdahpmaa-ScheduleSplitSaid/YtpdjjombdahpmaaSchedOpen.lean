/- The windows that come in as an argument; no condition. -/
import Derived.Test.YtpdjjombdahpmaaSchedAwake
import Derived.Test.YtpdjjombdahpmaaLibOpen
namespace Go.Proofs.Ytpdjjombdahpmaa
open Go Go.RowKit Go.WideShapes Go.ChangeShapes
theorem own : ownKnob Try.prog.godebug = none := by kernel_rfl
theorem laidOut : laidOutB Try.prog = true := by kernel_rfl
theorem open_wins {H : Type} {enc : TypeId × Value → H} {W : World} {v : Value} {d : DataW H} {p : List MemPlace} (hv : ∃ a len cap, v = .slice a len cap)
    (h : DataW.Trod enc Try.prog W 0 (fun _ => true) true 22 v d p) : ∃ (l : List Win) (A : Option Addr) (c : Nat), v = .slice A l.length c ∧ l.length ≤ c ∧ c ≤ maxLen ∧ Rd W A (winCells l) := by
  obtain ⟨a0, n0, c0, rfl⟩ := hv
  obtain ⟨fuel, hf⟩ := h
  obtain ⟨A, c, rows, hcs, hlc, hm, hr, _, hrows⟩ := open_rows (size := 2) Try.underlying22 (by kernel_rfl) (by decide) hf
  obtain ⟨l, rfl⟩ : ∃ l : List Win, rows = l.map fun x => [Value.int .i64 x.1, Value.int .i64 x.2] := list_choose _ _ fun r hr => by
    obtain ⟨_, n, y, hy⟩ := hrows r hr
    obtain ⟨zs, hz, rfl, _⟩ := open_struct_ints (k := .i64) Try.underlying35 (by kernel_rfl) (by kernel_rfl) hy
    match zs, hz with
    | [a, b], _ => exact ⟨(a, b), rfl⟩
  simp only [List.length_map] at hcs hlc
  have hcs' : [Value.slice a0 n0 c0] = [Value.slice A l.length c] := hcs
  injection hcs' with e
  refine ⟨l, A, c, e, hlc, hm, ?_⟩
  rw [winCells, List.flatMap_def]
  exact hr
end Go.Proofs.Ytpdjjombdahpmaa
