/- Moves: a register, a byte of a copy's part: reading and writing; no condition. -/
import Derived.Test.YtnfjkpeifleogaaRows
import Derived.Test.YtnfjkpeifleogaaMvZ
namespace Go.Proofs.Ytnfjkpeifleogaa.mv
open Go Go.ChangeShapes Go.WideShapes Go.ChangeAt Go.RowKit Go.Proofs.Ytnfjkpeifleogaa.rows
/-- A register of eight: what it holds, and the part with another number there. -/
theorem pt_reg (x : Pt) (r : Nat) (hr : r < 8) : ∃ z : Int, (∀ A c, (Pt.cells x A c)[3 + r]? = some (.int .u32 z)) ∧ ∀ z' : Int, ∃ x' : Pt, (∀ A c, Pt.cells x' A c = (Pt.cells x A c).set (3 + r) (.int .u32 z')) ∧ x'.mem = x.mem ∧ x'.id = x.id ∧ x'.keep = x.keep ∧ x'.size = x.size := by
  rcases x with ⟨id, size, keep, r0, r1, r2, r3, r4, r5, r6, r7, pc, st, mem⟩
  match r, hr with
  | 0, _ => exact ⟨r0, fun _ _ => rfl, fun z => ⟨⟨id, size, keep, z, r1, r2, r3, r4, r5, r6, r7, pc, st, mem⟩, fun _ _ => rfl, rfl, rfl, rfl, rfl⟩⟩
  | 1, _ => exact ⟨r1, fun _ _ => rfl, fun z => ⟨⟨id, size, keep, r0, z, r2, r3, r4, r5, r6, r7, pc, st, mem⟩, fun _ _ => rfl, rfl, rfl, rfl, rfl⟩⟩
  | 2, _ => exact ⟨r2, fun _ _ => rfl, fun z => ⟨⟨id, size, keep, r0, r1, z, r3, r4, r5, r6, r7, pc, st, mem⟩, fun _ _ => rfl, rfl, rfl, rfl, rfl⟩⟩
  | 3, _ => exact ⟨r3, fun _ _ => rfl, fun z => ⟨⟨id, size, keep, r0, r1, r2, z, r4, r5, r6, r7, pc, st, mem⟩, fun _ _ => rfl, rfl, rfl, rfl, rfl⟩⟩
  | 4, _ => exact ⟨r4, fun _ _ => rfl, fun z => ⟨⟨id, size, keep, r0, r1, r2, r3, z, r5, r6, r7, pc, st, mem⟩, fun _ _ => rfl, rfl, rfl, rfl, rfl⟩⟩
  | 5, _ => exact ⟨r5, fun _ _ => rfl, fun z => ⟨⟨id, size, keep, r0, r1, r2, r3, r4, z, r6, r7, pc, st, mem⟩, fun _ _ => rfl, rfl, rfl, rfl, rfl⟩⟩
  | 6, _ => exact ⟨r6, fun _ _ => rfl, fun z => ⟨⟨id, size, keep, r0, r1, r2, r3, r4, r5, z, r7, pc, st, mem⟩, fun _ _ => rfl, rfl, rfl, rfl, rfl⟩⟩
  | 7, _ => exact ⟨r7, fun _ _ => rfl, fun z => ⟨⟨id, size, keep, r0, r1, r2, r3, r4, r5, r6, z, pc, st, mem⟩, fun _ _ => rfl, rfl, rfl, rfl, rfl⟩⟩
/-- A byte written below the messages' blocks. -/
theorem row_far8 {T : TypeId} {lo hi : Nat} {w : World} {A : Option Addr} {xs : List Value} (h : RowIn T lo hi w A xs) {g : Nat} (hg : g < lo) (k : Nat) (u : Value) : RowIn T lo hi (w.setCell ⟨g, k, none⟩ u) A xs := by
  rcases h with h | ⟨g', off, cs, rfl, h1, h2, hg', hc⟩
  · exact .inl h
  · exact .inr ⟨g', off, cs, rfl, h1, h2, blk_far hg' (p := ⟨g, k, none⟩) (by show g' ≠ g; omega) u, hc⟩
theorem own_far8 {T : TypeId} {lo sz n : Nat} {w : World} {v : Value} {xs : List Value} (h : w.ownsRow lo T sz v n xs) {g : Nat} (hg : g < lo) (k : Nat) (u : Value) : (w.setCell ⟨g, k, none⟩ u).ownsRow lo T sz v n xs := by
  refine ⟨h.1, ?_⟩
  rcases h.2 with hn | ⟨g', cap, cur, rfl, hb0, hgg, rest⟩
  · exact .inl hn
  · exact .inr ⟨g', cap, cur, rfl, hb0, blk_far hgg (p := ⟨g, k, none⟩) (by show g' ≠ g; omega) u, rest⟩
theorem grow_far8 {lo : Nat} {w : World} {v : Value} {ls : List Msg} (h : Grow lo w v ls) {g : Nat} (hg : g < lo) (k : Nat) (u : Value) : Grow lo (w.setCell ⟨g, k, none⟩ u) v ls := by
  obtain ⟨vs, h1, h2, h3⟩ := h
  refine ⟨vs, h1, own_far8 h2 hg k u, fun j l hj => ?_⟩
  obtain ⟨y, e1, A, c, f1, f2, f3, f4, f5⟩ := h3 j l hj
  exact ⟨y, e1, A, c, f1, f2, f3, f4, (row_far8 f5 hg k u).mono (Nat.le_refl _) (by simp)⟩
theorem GrowRS.far8 {lo lm : Nat} {w : World} {v : Value} {xs : List Qu} (h : GrowRS lo lm w v xs) {g : Nat} {cs : Array Value} (hgc : w.heap[g]? = some (.cells cs 5 (0, 0))) (hg : g < lm) (k : Nat) (u : Value) : GrowRS lo lm (w.setCell ⟨g, k, none⟩ u) v xs := by
  obtain ⟨us, e1, e2, e3, e4⟩ := h
  exact ⟨us, e1, own_keptX e2 (by decide) (KeptX.set hgc k u), fun y hy => grow_far8 (e3 y hy) hg k u, e4⟩
end Go.Proofs.Ytnfjkpeifleogaa.mv
