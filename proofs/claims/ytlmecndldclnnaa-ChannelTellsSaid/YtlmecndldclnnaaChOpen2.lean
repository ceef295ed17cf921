/- Channels: a list of channels as an argument; no condition. -/
import Derived.Test.YtlmecndldclnnaaRows
import Derived.Test.YtlmecndldclnnaaChOpen
import Derived.Test.YtlmecndldclnnaaChS
namespace Go.Proofs.Ytlmecndldclnnaa.chan
open Go Go.RowKit Go.WideShapes Go.ChangeShapes Go.Deep Go.Proofs.Ytlmecndldclnnaa.rows
theorem open_chans {H : Type} {enc : TypeId × Value → H} {W : World} {v : Value} {d : DataW H} {p : List MemPlace} (hv : ∃ a len cap, v = .slice a len cap)
    (h : DataW.Trod enc Try.prog W 0 (fun _ => true) true 48 v d p) : ∃ (l : List Ch) (A : Option Addr) (c : Nat), v = .slice A l.length c ∧ l.length ≤ c ∧ c ≤ maxLen ∧ Rd W A (chCells l) := by
  obtain ⟨a0, n0, c0, rfl⟩ := hv
  obtain ⟨fuel, hf⟩ := h
  obtain ⟨A, c, rows, hcs, hlc, hm, hr, _, hrows⟩ := open_rows (size := 5) Try.underlying48 (by kernel_rfl) (by decide) hf
  obtain ⟨l, rfl⟩ : ∃ l : List Ch, rows = l.map Ch.cells := list_choose _ _ fun r hr => by
    obtain ⟨_, n, y, hy⟩ := hrows r hr
    exact chan_of hy
  simp only [List.length_map] at hcs hlc
  have hcs' : [Value.slice a0 n0 c0] = [Value.slice A l.length c] := hcs
  injection hcs' with e
  refine ⟨l, A, c, e, hlc, hm, ?_⟩
  rw [chCells, List.flatMap_def]
  exact hr
end Go.Proofs.Ytlmecndldclnnaa.chan
