/- slices.Grow of nil; slices.Concat of three. -/
import Derived.Test.YtjliaojanmbicaaRows
import Derived.Test.YtjliaojanmbicaaMemG
import Derived.Lib.AppendZerosOnto
import Derived.Lib.SliceRun
import Derived.Laws.Append
namespace Go.Proofs.Ytjliaojanmbicaa.mem
open Go Go.ChangeShapes Go.WideShapes Go.ChangeAt Go.RowKit
theorem own_cut {w : World} {base : Nat} {e : TypeId} {n c : Nat} {A : Option Addr} {xs : List Value} (h : w.ownsRow base e 1 (.slice A n c) n xs) (hA : A ≠ none) : w.ownsRow base e 1 (.slice A 0 c) 0 [] := by
  refine ⟨rfl, ?_⟩
  rcases h.2 with ⟨hv, _⟩ | ⟨g, cap, cur, hv, hb, hg, hnc, hm, hs, _⟩
  · injection hv with hv; exact absurd hv hA
  · injection hv with h1 _ h2
    subst h1; subst h2
    exact .inr ⟨g, c, cur, rfl, hb, hg, Nat.zero_le _, hm, hs, by simp⟩
theorem grow (n : Nat) (h0 : 0 < n) (hn : n ≤ 1000000) (w : World) : Calls Try.prog 49 #[.slice none 0 0, .int .i64 n] w fun e w' => ∃ v, e = .returned v ∧ w'.ownsRow w.heap.size 5 1 v 0 [] ∧ Below w.heap.size w w' := by
  obtain ⟨i0, hi, hz0, hz1, hz2⟩ := info_parts info_byte
  have hold : (Builtin.firstCells i0.size 0 (.slice none 0 0)).run Try.prog w.drew = .ok #[] w.drew := run_firstCells_none w.drew i0.size 0 0 0
  have hrz := Lib.run_append_grow_zeros w 22 3 22 5 i0 (.int .u8 0) .i64 .i64 Try.underlying22 Try.underlying3 hi hz0 none 0 0 [] hold n (by omega) (by rw [hz1]; decide) (by omega) (by omega) (by rw [hz2]; omega) (growslice_fits (by omega) (by rw [hz2]; omega))
  have hGn : n ≤ grownCap w n 0 5 := grownCap_ge w _ _ _
  have hGm := grownCap_le_maxLen w n 0 5 (by unfold maxLen; omega)
  rw [Nat.zero_add] at hrz
  generalize grownCap w n 0 5 = G at *
  have hsz : (#[] ++ Builtin.zeroCells (Value.int .u8 0).cells n ++ Builtin.zeroCells (Value.int .u8 0).cells (G - n)).size = G * 1 := by
    simp [Builtin.zeroCells, Value.cells]; omega
  generalize (#[] ++ Builtin.zeroCells (Value.int .u8 0).cells n ++ Builtin.zeroCells (Value.int .u8 0).cells (G - n)) = cur at *
  have hown : (w.drew.alloc (.cells cur 5)).ownsRow w.heap.size 5 1 (.slice (some ⟨w.heap.size, 0, none⟩) 0 G) 0 [] :=
    ⟨rfl, .inr ⟨w.heap.size, G, cur, rfl, Nat.le_refl _, blk_new w.drew cur _, Nat.zero_le _, hGm, hsz, by simp⟩⟩
  have hb : Below w.heap.size w (w.drew.alloc (.cells cur 5)) := (Below.refl _ _).drew.alloc (Nat.le_refl _) _
  have HO := Lib.hid hown; have HB := Lib.hid hb
  have hG1 : (n : Int) ≤ (G : Int) := by omega
  have hG2 : (G : Int) ≤ 9223372036854775807 := by unfold maxLen at hGm; omega
  clear hown hb hsz hold
  go_enter Try.func49, Try.ntmps49
  go_wp2_with (at_builtin; refine Lib.wpList_append_run _ rfl _ _ _ _ rfl _ _ rfl rfl _ _ hrz ?_)
  go_ret
  exact ⟨_, rfl, HO.out, HB.out⟩
end Go.Proofs.Ytjliaojanmbicaa.mem
