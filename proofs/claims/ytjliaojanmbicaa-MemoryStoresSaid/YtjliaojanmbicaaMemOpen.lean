/- The bytes that come in as an argument; no condition. -/
import Derived.Test.YtjliaojanmbicaaRows
import Derived.Test.YtjliaojanmbicaaMemB
import Derived.DataShut
namespace Go.Proofs.Ytjliaojanmbicaa.mem
open Go Go.RowKit Go.WideShapes Go.ChangeShapes
theorem own : ownKnob Try.prog.godebug = none := by kernel_rfl
theorem laidOut : laidOutB Try.prog = true := by kernel_rfl
theorem flat_bytes : ∀ l : List UInt8, (l.map fun x => [Value.int .u8 (x.toNat : Int)]).flatten = bcs l
  | [] => rfl
  | a :: l => by simp only [List.map_cons, List.flatten_cons, flat_bytes l]; rfl
theorem open_bytes {H : Type} {enc : TypeId × Value → H} {W : World} {v : Value} {d : DataW H} {p : List MemPlace} (hv : ∃ a len cap, v = .slice a len cap)
    (h : DataW.Trod enc Try.prog W 0 (fun _ => true) true 22 v d p) : ∃ (l : List UInt8) (A : Option Addr) (c : Nat), v = .slice A l.length c ∧ l.length ≤ c ∧ c ≤ maxLen ∧ Rd W A (bcs l) ∧ (A = none → c = 0) := by
  obtain ⟨a0, n0, c0, rfl⟩ := hv
  obtain ⟨fuel, hf⟩ := h
  obtain ⟨A, c, rows, hcs, hlc, hm, hr, hA, hrows⟩ := open_rows (size := 1) Try.underlying22 (by kernel_rfl) (by decide) hf
  obtain ⟨l, rfl⟩ : ∃ l : List UInt8, rows = l.map fun x => [Value.int .u8 (x.toNat : Int)] := list_choose _ _ fun r hr => by
    obtain ⟨_, n, y, hy⟩ := hrows r hr
    obtain ⟨b, hb, _, hw⟩ := DataW.trod_int Try.underlying5 hy
    have hk : 0 ≤ b ∧ b ≤ 255 := (Lit.wf_int_iff .u8 b).1 hw
    refine ⟨UInt8.ofNat b.toNat, ?_⟩
    rw [hb]
    have : ((UInt8.ofNat b.toNat).toNat : Int) = b := by simp; omega
    rw [this]
  simp only [List.length_map] at hcs hlc
  have hcs' : [Value.slice a0 n0 c0] = [Value.slice A l.length c] := hcs
  injection hcs' with e
  refine ⟨l, A, c, e, hlc, hm, ?_, hA⟩
  rw [← flat_bytes]
  exact hr
end Go.Proofs.Ytjliaojanmbicaa.mem
