/- Regions that come in as arguments; no condition. -/
import Derived.Test.YtjliaojanmbicaaRows
import Derived.Test.YtjliaojanmbicaaRegC
import Derived.DataShut
namespace Go.Proofs.Ytjliaojanmbicaa.reg
open Go Go.RowKit Go.WideShapes Go.ChangeShapes
theorem own : ownKnob Try.prog.godebug = none := by kernel_rfl
theorem laidOut : laidOutB Try.prog = true := by kernel_rfl
theorem open_reg {H : Type} {enc : TypeId × Value → H} {W : World} {v : Value} {d : DataW H} {p : List MemPlace} {r : Reach} {b0 : Nat} (hv : Value.okWide Try.prog W r b0 52 v)
    (h : DataW.Trod enc Try.prog W 0 (fun _ => true) true 52 v d p) : ∃ b s : Int, v = .agg #[.int .i64 b, .int .i64 s] := by
  obtain ⟨cs, rfl, _⟩ := okWide_struct Try.underlying52 hv
  obtain ⟨fuel, hf⟩ := h
  obtain ⟨zs, hz, he, _⟩ := open_struct_ints (k := .i64) Try.underlying52 (by kernel_rfl) (by kernel_rfl) hf
  match zs, hz with
  | [a, b], _ =>
    refine ⟨a, b, ?_⟩
    have he' : cs.toList = [.int .i64 a, .int .i64 b] := he
    have e : cs = #[.int .i64 a, .int .i64 b] := Array.toList_inj.1 he'
    rw [e]
theorem open_regs {H : Type} {enc : TypeId × Value → H} {W : World} {v : Value} {d : DataW H} {p : List MemPlace} (hv : ∃ a len cap, v = .slice a len cap)
    (h : DataW.Trod enc Try.prog W 0 (fun _ => true) true 48 v d p) : ∃ (l : List Reg) (A : Option Addr) (c : Nat), v = .slice A l.length c ∧ l.length ≤ c ∧ c ≤ maxLen ∧ Rd W A (regCells l) := by
  obtain ⟨a0, n0, c0, rfl⟩ := hv
  obtain ⟨fuel, hf⟩ := h
  obtain ⟨A, c, rows, hcs, hlc, hm, hr, _, hrows⟩ := open_rows (size := 2) Try.underlying48 (by kernel_rfl) (by decide) hf
  obtain ⟨l, rfl⟩ : ∃ l : List Reg, rows = l.map fun x => [Value.int .i64 x.1, Value.int .i64 x.2] := list_choose _ _ fun r hr => by
    obtain ⟨_, n, y, hy⟩ := hrows r hr
    obtain ⟨zs, hz, rfl, _⟩ := open_struct_ints (k := .i64) Try.underlying52 (by kernel_rfl) (by kernel_rfl) hy
    match zs, hz with
    | [a, b], _ => exact ⟨(a, b), rfl⟩
  simp only [List.length_map] at hcs hlc
  have hcs' : [Value.slice a0 n0 c0] = [Value.slice A l.length c] := hcs
  injection hcs' with e
  refine ⟨l, A, c, e, hlc, hm, ?_⟩
  rw [regCells, List.flatMap_def]
  exact hr
end Go.Proofs.Ytjliaojanmbicaa.reg
