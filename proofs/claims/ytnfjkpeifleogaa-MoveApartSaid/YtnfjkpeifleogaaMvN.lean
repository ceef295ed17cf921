/- Moves: plain laws of moving there and back; no condition. -/
import Derived.Test.YtnfjkpeifleogaaRows
import Derived.Test.YtnfjkpeifleogaaMvL
namespace Go.Proofs.Ytnfjkpeifleogaa.mv
open Go Go.ChangeShapes Go.WideShapes Go.ChangeAt Go.RowKit Go.Proofs.Ytnfjkpeifleogaa.rows
theorem keptP_some {ps : List Pt} {p : Pn} {x : Pt} (h : keptP ps p = some x) : x ∈ ps ∧ x.id = p.id ∧ p.keep = true ∧ x.keep = true ∧ x.size = p.size := by
  unfold keptP at h
  split at h
  · rename_i y hy
    split at h
    · rename_i hc
      injection h with h
      subst h
      exact ⟨List.mem_of_find?_eq_some hy, by simpa using List.find?_some hy, hc⟩
    · cases h
  · cases h
theorem moveP_id (ps : List Pt) (p : Pn) : ((keptP ps p).getD (freshP p)).id = p.id := by
  cases h : keptP ps p with
  | none => rfl
  | some x => exact (keptP_some h).2.1
theorem moveP_ids (ps : List Pt) (pn : List Pn) : (moveP ps pn).map (·.id) = pn.map (·.id) := by
  simp only [moveP, List.map_map]
  exact List.map_congr_left fun p _ => moveP_id ps p
theorem freshP_mem (p : Pn) : (freshP p).mem.length ≤ 512 := by
  have h1 : ∀ n, (zs n).length = n := fun n => by simp [zs]
  have h2 : freshN p ≤ 512 := by unfold freshN; split <;> (try split) <;> omega
  show (freshM (freshN p) p.img).length ≤ 512
  unfold freshM
  rw [List.length_append, h1, List.length_take]
  omega
theorem moveP_le {ps : List Pt} {pn : List Pn} {B : Nat} (hB : 512 ≤ B) (h : ∀ x ∈ ps, x.mem.length ≤ B) : ∀ x ∈ moveP ps pn, x.mem.length ≤ B := by
  intro x hx
  simp only [moveP, List.mem_map] at hx
  obtain ⟨p, _, rfl⟩ := hx
  cases hk : keptP ps p with
  | none => exact Nat.le_trans (freshP_mem p) hB
  | some y => exact h y (keptP_some hk).1
theorem queueP_some {ps : List Pt} {pn : List Pn} {qs : List Qu} {c : Ch} {l : List Msg} (h : queueP ps pn qs c = some l) : ∃ q ∈ qs, q.ch = c ∧ q.msgs = l := by
  unfold queueP at h
  split at h
  · rename_i q hq
    split at h
    · injection h with h
      exact ⟨q, List.mem_of_find?_eq_some hq, by simpa using List.find?_some hq, h⟩
    · cases h
  · cases h
theorem moveQ_le {ps : List Pt} {pn : List Pn} {qs : List Qu} {cs : List Ch} {B : Nat} (h : ∀ q ∈ qs, q.msgs.length ≤ B ∧ ∀ m ∈ q.msgs, m.length ≤ B) : ∀ q ∈ moveQ ps pn qs cs, q.msgs.length ≤ B ∧ ∀ m ∈ q.msgs, m.length ≤ B := by
  intro x hx
  simp only [moveQ, List.mem_map] at hx
  obtain ⟨c, _, rfl⟩ := hx
  cases hk : queueP ps pn qs c with
  | none => exact ⟨by simp, fun m hm => by cases hm⟩
  | some l =>
    obtain ⟨q, hq, _, rfl⟩ := queueP_some hk
    exact h q hq
theorem uniq_mem {α : Type} (f : α → Int) {l : List α} (hu : uniq (l.map f)) {x y : α} (hx : x ∈ l) (hy : y ∈ l) (h : f x = f y) : x = y := by
  have h1 := find_uniq f l hu x hx
  have h2 := find_uniq f l hu y hy
  rw [h, h2] at h1
  injection h1 with h1
  exact h1.symm
/-- The partition that is kept, where each number stands once. -/
theorem keptP_uniq {ps : List Pt} {p : Pn} {x : Pt} (hu : uniq (ps.map (·.id))) (hx : x ∈ ps) (hid : x.id = p.id) : keptP ps p = if p.keep = true ∧ x.keep = true ∧ x.size = p.size then some x else none := by
  unfold keptP
  rw [show (fun y : Pt => decide (y.id = p.id)) = fun y => decide (y.id = x.id) by rw [hid], find_uniq (·.id) ps hu x hx]
theorem back_kept {ps : List Pt} {pn pn2 : List Pn} {i : Nat} {p : Pn} (hu : uniq (pn.map (·.id))) (hu2 : uniq (pn2.map (·.id))) (hp : pn[i]? = some p)
    (h1 : p.id ∈ keptL (moveP ps pn) pn2) (h2 : p.id ∈ keptL (moveP (moveP ps pn) pn2) pn) : keptP (moveP (moveP ps pn) pn2) p = some ((keptP ps p).getD (freshP p)) := by
  obtain ⟨p2, hp2, hk2, hid2⟩ := mem_keptL.1 h1
  obtain ⟨p', hp', hk', hid'⟩ := mem_keptL.1 h2
  have hpm := List.mem_of_getElem? hp
  obtain rfl : p' = p := uniq_mem (·.id) hu hp' hpm hid'
  obtain ⟨y, hy⟩ := Option.isSome_iff_exists.1 hk'
  obtain ⟨x, hx⟩ := Option.isSome_iff_exists.1 hk2
  obtain ⟨hxm, hxi, _⟩ := keptP_some hx
  obtain ⟨hym, hyi, _⟩ := keptP_some hy
  have hX : uniq ((moveP ps pn).map (·.id)) := by rw [moveP_ids]; exact hu
  have hY : uniq ((moveP (moveP ps pn) pn2).map (·.id)) := by rw [moveP_ids]; exact hu2
  have hxe : x = (keptP ps p').getD (freshP p') := uniq_mem (·.id) hX hxm (by simp only [moveP, List.mem_map]; exact ⟨p', hpm, rfl⟩) (by rw [moveP_id, hxi, hid2])
  have hxY : x ∈ moveP (moveP ps pn) pn2 := by
    rw [show moveP (moveP ps pn) pn2 = pn2.map fun q => (keptP (moveP ps pn) q).getD (freshP q) from rfl, List.mem_map]
    exact ⟨p2, hp2, by rw [hx]; rfl⟩
  rw [hy, ← hxe]
  exact congrArg some (uniq_mem (·.id) hY hym hxY (by rw [hyi, hxi, hid2]))
theorem back_not {ps : List Pt} {pn : List Pn} {p : Pn} (hpm : p ∈ pn) (h : p.id ∉ keptL ps pn) : keptP ps p = none := by
  cases hk : keptP ps p with
  | none => rfl
  | some x => exact absurd (mem_keptL.2 ⟨p, hpm, by rw [hk]; rfl, rfl⟩) h
theorem moveP_nil {pn : List Pn} {i : Nat} {p : Pn} (h : pn[i]? = some p) : (moveP [] pn)[i]? = some (freshP p) := by rw [moveP_at h]; rfl
end Go.Proofs.Ytnfjkpeifleogaa.mv
