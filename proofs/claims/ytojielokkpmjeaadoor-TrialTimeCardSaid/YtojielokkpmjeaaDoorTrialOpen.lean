/- The list of bools that comes in as an argument; no condition. -/
import Derived.Test.YtojielokkpmjeaaDoorRows
import Derived.Test.YtojielokkpmjeaaDoorLibOpen
namespace Go.Proofs.YtojielokkpmjeaaDoor
open Go Go.RowKit Go.WideShapes Go.ChangeShapes
def bools (l : List Bool) : List Value := l.map .bool
theorem bools_length (l : List Bool) : (bools l).length = l.length := by simp [bools]
theorem bools_at {l : List Bool} {j : Nat} {x : Bool} (h : l[j]? = some x) : (bools l)[j]? = some (.bool x) := by simp [bools, h]
theorem flat_bools : ∀ l : List Bool, (l.map fun x => [Value.bool x]).flatten = bools l
  | [] => rfl
  | a :: l => by simp only [List.map_cons, List.flatten_cons, flat_bools l]; rfl
theorem open_health {H : Type} {enc : TypeId × Value → H} {W : World} {v : Value} {d : DataW H} {p : List MemPlace} (hv : ∃ a len cap, v = .slice a len cap)
    (h : DataW.Trod enc Tryd.prog W 0 (fun _ => true) true 22 v d p) : ∃ (l : List Bool) (A : Option Addr) (c : Nat), v = .slice A l.length c ∧ l.length ≤ c ∧ c ≤ maxLen ∧ Rd W A (bools l) := by
  obtain ⟨a0, n0, c0, rfl⟩ := hv
  obtain ⟨fuel, hf⟩ := h
  obtain ⟨A, c, rows, hcs, hlc, hm, hr, _, hrows⟩ := open_rows (size := 1) Tryd.underlying22 (by kernel_rfl) (by decide) hf
  obtain ⟨l, rfl⟩ : ∃ l : List Bool, rows = l.map fun x => [Value.bool x] := list_choose _ _ fun r hr => by
    obtain ⟨_, n, y, hy⟩ := hrows r hr
    obtain ⟨b, hb, _⟩ := DataW.trod_bool Tryd.underlying4 hy
    exact ⟨b, hb⟩
  simp only [List.length_map] at hcs hlc
  have hcs' : [Value.slice a0 n0 c0] = [Value.slice A l.length c] := hcs
  injection hcs' with e
  refine ⟨l, A, c, e, hlc, hm, ?_⟩
  rw [← flat_bools]
  exact hr
end Go.Proofs.YtojielokkpmjeaaDoor
