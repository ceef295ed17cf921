/- Common lemmas: rows of bytes of the call's own, written over. -/
import Derived.Test.YthkkmnckidfmkaaLibB
namespace Go.Proofs.Ythkkmnckidfmkaa
open Go Go.RowKit
/-- n cells of bytes at a slice's address, in a block between lo and hi that holds cells alone; nothing is asked where n is 0. -/
def BysIn (T : TypeId) (lo hi : Nat) (w : World) (A : Option Addr) (n : Nat) : Prop :=
  n = 0 ∨ ∃ g cs, A = some ⟨g, 0, none⟩ ∧ lo ≤ g ∧ g < hi ∧ w.heap[g]? = some (.cells cs T (0, 0)) ∧ ∀ j, j < n → ∃ z : Int, cs[j]? = some (.int .u8 z)
theorem BysIn.of_own {T : TypeId} {lo hi n c : Nat} {w : World} {A : Option Addr} {xs : List Value} (h : w.ownsRow lo T 1 (.slice A n c) n xs) (hx : ∀ u ∈ xs, ∃ z : Int, u = .int .u8 z) (hh : w.heap.size ≤ hi) : BysIn T lo hi w A n := by
  rcases h.2 with ⟨_, hn⟩ | ⟨g, cap, cur, hv, hlo, hg, hnc, hm, hs, hc⟩
  · exact .inl hn
  · injection hv with hA
    subst hA
    have hlt := (Array.getElem?_eq_some_iff.1 hg).1
    refine .inr ⟨g, cur, rfl, hlo, by omega, hg, fun j hj => ?_⟩
    have hl := h.1
    have hxj : xs[j]? = some (xs[j]'(by omega)) := List.getElem?_eq_getElem (by omega)
    obtain ⟨z, hz⟩ := hx _ (List.getElem_mem (by omega : j < xs.length))
    refine ⟨z, ?_⟩
    rw [hz] at hxj
    rw [← hc, List.getElem?_take] at hxj
    split at hxj
    · rw [← Array.getElem?_toList]; exact hxj
    · cases hxj
theorem BysIn.set {T : TypeId} {lo hi n : Nat} {w : World} {A : Option Addr} (h : BysIn T lo hi w A n) (g k : Nat) (z : Int) : BysIn T lo hi (w.setCell ⟨g, k, none⟩ (.int .u8 z)) A n := by
  rcases h with h | ⟨g', cs, rfl, h1, h2, hg, hc⟩
  · exact .inl h
  · by_cases e : g' = g
    · subst e
      refine .inr ⟨g', cs.setIfInBounds k (.int .u8 z), rfl, h1, h2, blk_set hg k _, fun j hj => ?_⟩
      obtain ⟨y, hy⟩ := hc j hj
      rw [Array.getElem?_setIfInBounds]
      by_cases hk : k = j
      · subst hk
        rw [if_pos rfl, if_pos (Array.getElem?_eq_some_iff.1 hy).1]
        exact ⟨z, rfl⟩
      · rw [if_neg hk]; exact ⟨y, hy⟩
    · exact .inr ⟨g', cs, rfl, h1, h2, blk_far hg (p := ⟨g, k, none⟩) e _, hc⟩
theorem BysIn.below {T : TypeId} {lo hi n B : Nat} {w w' : World} {A : Option Addr} (h : BysIn T lo hi w A n) (hb : Below B w w') (hB : hi ≤ B) : BysIn T lo hi w' A n := by
  rcases h with h | ⟨g', cs, rfl, h1, h2, hg, hc⟩
  · exact .inl h
  · exact .inr ⟨g', cs, rfl, h1, h2, blk_below hg hb (by omega), hc⟩
/-- The facts that a load and a store of one byte want. -/
theorem BysIn.at {T : TypeId} {lo hi n : Nat} {w : World} {A : Option Addr} (h : BysIn T lo hi w A n) {k : Nat} (hk : k < n) :
    ∃ g z, A = some ⟨g, 0, none⟩ ∧ lo ≤ g ∧ g < hi ∧ w.cell? ⟨g, k, none⟩ = some (.int .u8 z) ∧ w.frozen? ⟨g, k, none⟩ = false := by
  rcases h with h | ⟨g', cs, rfl, h1, h2, hg, hc⟩
  · omega
  · obtain ⟨z, hz⟩ := hc k hk
    exact ⟨g', z, rfl, h1, h2, by rw [blk_cell hg k, hz], blk_frozen hg k⟩
theorem cell_set_ne {w : World} {g g' k j : Nat} {u : Value} (h : g ≠ g') : (w.setCell ⟨g', k, none⟩ u).cell? ⟨g, j, none⟩ = w.cell? ⟨g, j, none⟩ := by
  simp [World.cell?, World.setCell, Array.getElem?_modify, Ne.symm h]
theorem frozen_set_ne {w : World} {g g' k j : Nat} {u : Value} (h : g ≠ g') : (w.setCell ⟨g', k, none⟩ u).frozen? ⟨g, j, none⟩ = w.frozen? ⟨g, j, none⟩ := by
  simp [World.frozen?, World.setCell, Array.getElem?_modify, Ne.symm h]
end Go.Proofs.Ythkkmnckidfmkaa
