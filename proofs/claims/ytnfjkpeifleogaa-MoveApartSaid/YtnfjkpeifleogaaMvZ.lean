/- Moves: one cell, one byte of a state's own copy written; no condition. -/
import Derived.Test.YtnfjkpeifleogaaRows
import Derived.Test.YtnfjkpeifleogaaMvY
namespace Go.Proofs.Ytnfjkpeifleogaa.mv
open Go Go.ChangeShapes Go.WideShapes Go.ChangeAt Go.RowKit Go.Proofs.Ytnfjkpeifleogaa.rows
theorem flat_set {α : Type} {cs : α → Option Addr → Nat → List Value} {sz : Nat} (hsz : ∀ x A c, (cs x A c).length = sz) : ∀ (us : List (Sl α)) (i j : Nat) (u u' : Sl α) (v : Value), us[i]? = some u → j < sz → cs u'.1 u'.2.1 u'.2.2 = (cs u.1 u.2.1 u.2.2).set j v → (flat cs us).set (i * sz + j) v = flat cs (us.set i u')
  | [], i, j, u, u', v, h, _, _ => by simp at h
  | a :: us, 0, j, u, u', v, h, hj, hc => by
    simp at h; subst h
    simp only [flat, List.flatMap_cons, Nat.zero_mul, Nat.zero_add, List.set_cons_zero]
    rw [List.set_append_left _ _ (by rw [hsz]; exact hj), hc]
  | a :: us, i + 1, j, u, u', v, h, hj, hc => by
    have ih := flat_set hsz us i j u u' v (by simpa using h) hj hc
    simp only [flat, List.flatMap_cons, List.set_cons_succ] at ih ⊢
    rw [List.set_append_right _ _ (by rw [hsz, Nat.add_mul]; omega), hsz, ← ih]
    congr 2
    rw [Nat.add_mul]; omega
theorem set_at {α : Type} {l : List α} {i k : Nat} {a x : α} (h : (l.set i a)[k]? = some x) : (k = i ∧ x = a) ∨ (k ≠ i ∧ l[k]? = some x) := by
  rw [List.getElem?_set] at h
  by_cases hk : i = k
  · rw [if_pos hk] at h
    split at h
    · injection h with h; exact .inl ⟨hk.symm, h.symm⟩
    · cases h
  · rw [if_neg hk] at h; exact .inr ⟨fun e => hk e.symm, h⟩
theorem sepP_set {us : List (Sl Pt)} {i : Nat} {u u' : Sl Pt} (hs : SepP us) (hu : us[i]? = some u) (hA : u'.2.1 = u.2.1) (hm : u'.1.mem ≠ [] → u.1.mem ≠ []) : SepP (us.set i u') := by
  intro a b ua ub ha hb hne h1 h2
  rcases set_at ha with ⟨ea, e1⟩ | ⟨_, ha'⟩ <;> rcases set_at hb with ⟨eb, e2⟩ | ⟨_, hb'⟩
  · exact absurd (ea.trans eb.symm) hne
  · rw [e1, hA]; rw [e1] at h1; rw [ea] at hne; exact hs i b u ub hu hb' hne (hm h1) h2
  · rw [e2, hA]; rw [e2] at h2; rw [eb] at hne; exact hs a i ua u ha' hu hne h1 (hm h2)
  · exact hs a b ua ub ha' hb' hne h1 h2
theorem mem_set {α : Type} {l : List α} {i : Nat} {a x : α} (h : x ∈ l.set i a) : x = a ∨ ∃ k, k ≠ i ∧ l[k]? = some x := by
  obtain ⟨k, hk⟩ := List.mem_iff_getElem?.1 h
  rcases set_at hk with ⟨_, e⟩ | ⟨h1, h2⟩
  · exact .inl e
  · exact .inr ⟨k, h1, h2⟩
theorem map_at {α β : Type} {f : α → β} {us : List α} {xs : List β} (h : us.map f = xs) {i : Nat} {x : β} (hx : xs[i]? = some x) : ∃ u, us[i]? = some u ∧ f u = x := by
  subst h
  rw [List.getElem?_map] at hx
  cases hu : us[i]? with
  | none => rw [hu] at hx; cases hx
  | some u => rw [hu] at hx; injection hx with hx; exact ⟨u, rfl, hx⟩
/-- A part of the copy: its cells; one of them written; a byte of its memory written. -/
theorem GrowPS.open {lo hi n c : Nat} {w : World} {A : Option Addr} {xs : List Pt} (h : GrowPS lo hi w (.slice A n c) xs) {i : Nat} {x : Pt} (hx : xs[i]? = some x) :
    ∃ (g : Nat) (A' : Option Addr) (d : Nat), A = some ⟨g, 0, none⟩ ∧ lo ≤ g ∧ (∀ (j : Nat) (v : Value), (Pt.cells x A' d)[j]? = some v → w.cell? ⟨g, i * 14 + j, none⟩ = some v) ∧ (∀ k, w.frozen? ⟨g, k, none⟩ = false) ∧ (∃ cs, w.heap[g]? = some (.cells cs 44 (0, 0))) ∧ MsgAt lo hi w (.slice A' x.mem.length d) x.mem ∧
    (∀ (j : Nat) (x' : Pt) (v : Value), j < 13 → (∀ B e, Pt.cells x' B e = (Pt.cells x B e).set j v) → x'.mem = x.mem → GrowPS lo hi (w.setCell ⟨g, i * 14 + j, none⟩ v) (.slice A n c) (xs.set i x')) ∧
    (∀ (r : Nat) (b : UInt8) (gm : Nat), r < x.mem.length → A' = some ⟨gm, 0, none⟩ → GrowPS lo hi (w.setCell ⟨gm, r, none⟩ (.int .u8 (b.toNat : Int))) (.slice A n c) (xs.set i { x with mem := x.mem.set r b })) := by
  obtain ⟨us, e1, e2, e3, e4⟩ := h
  obtain ⟨u, hu, rfl⟩ := map_at e1 hx
  have hlen : us.length = xs.length := by rw [← e1, List.length_map]
  have hi' : i < xs.length := (List.getElem?_eq_some_iff.1 hx).1
  have hown := e2
  rcases e2.2 with ⟨_, h0⟩ | ⟨g, cap, cur, hv, hb0, hg, hnc, hm, hs, hc⟩
  · omega
  injection hv with hA hn hcap
  subst hA
  refine ⟨g, u.2.1, u.2.2, rfl, hb0, fun j v hj => take_cell hg hc (flat_at Pt.cells 14 pt_len us i u hu j v hj), fun k => blk_frozen hg k, ⟨cur, hg⟩, e3 u (List.mem_of_getElem? hu), fun j x' v hj hcx hmx => ?_, fun r b gm hr hgm => ?_⟩
  · refine ⟨us.set i (x', u.2.1, u.2.2), by rw [List.map_set, e1], ?_, fun y hy => ?_, sepP_set e4 hu rfl (by rw [hmx]; exact id)⟩
    · have hf := flat_set pt_len us i j u (x', u.2.1, u.2.2) v hu (by omega) (hcx _ _)
      refine ⟨?_, .inr ⟨g, cap, cur.setIfInBounds (i * 14 + j) v, by rw [List.length_set, hn, hcap], hb0, blk_set hg _ _, by rw [List.length_set]; exact hnc, hm, by simpa using hs, ?_⟩⟩
      · rw [← hf, List.length_set, List.length_set]; exact hown.1
      · rw [List.length_set, ← hf]; exact take_set hc
    · have kx := KeptX.set hg (i * 14 + j) v
      rcases mem_set hy with rfl | ⟨k, _, hk⟩
      · have := msg_keptH (e3 u (List.mem_of_getElem? hu)) (by decide) kx
        rw [← hmx] at this; exact this
      · exact msg_keptH (e3 y (List.mem_of_getElem? hk)) (by decide) kx
  · have hm' : u.1.mem ≠ [] := by intro e; rw [e] at hr; cases hr
    have hmi := e3 u (List.mem_of_getElem? hu)
    obtain ⟨A1, c1, ee, k1, k2, k3, k4⟩ := hmi
    injection ee with eA _ ec
    subst eA; subst ec
    rw [hgm] at k4
    rcases k4 with k4 | ⟨g', off, cs, eg, l1, l2, hgc, hcc⟩
    · exfalso; apply hm'; cases hh2 : u.1.mem with
      | nil => rfl
      | cons a l => rw [hh2] at k4; cases k4
    injection eg with eg; injection eg with eg1 eg2 _
    subst eg1; subst eg2
    have kx := KeptX.set hgc r (.int .u8 (b.toNat : Int))
    refine ⟨us.set i ({ u.1 with mem := u.1.mem.set r b }, u.2.1, u.2.2), by rw [List.map_set, e1], ?_, fun y hy => ?_, sepP_set e4 hu rfl (fun _ => hm')⟩
    · have hf := flat_set pt_len us i 13 u ({ u.1 with mem := u.1.mem.set r b }, u.2.1, u.2.2) (.slice u.2.1 u.1.mem.length u.2.2) hu (by decide) (by simp [Pt.cells])
      have hf2 : (flat Pt.cells us).set (i * 14 + 13) (.slice u.2.1 u.1.mem.length u.2.2) = flat Pt.cells us := by
        have ha := flat_at Pt.cells 14 pt_len us i u hu 13 _ rfl
        apply List.ext_getElem?
        intro k
        rw [List.getElem?_set]
        by_cases hk : i * 14 + 13 = k
        · subst hk
          rw [if_pos rfl, if_pos (List.getElem?_eq_some_iff.1 ha).1, ha]
        · rw [if_neg hk]
      rw [hf2] at hf
      rw [← hf, List.length_set]
      exact own_keptX hown (by decide) kx
    · rcases mem_set hy with rfl | ⟨k, hk, hyk⟩
      · refine ⟨u.2.1, u.2.2, by simp, by simpa using k1, k2, .inl ⟨gm, hgm⟩, ?_⟩
        rw [hgm]
        refine .inr ⟨gm, 0, cs.setIfInBounds r (.int .u8 (b.toNat : Int)), rfl, l1, l2, blk_set hgc _ _, fun q v hq => ?_⟩
        rw [Nat.zero_add, Array.getElem?_setIfInBounds]
        have hqs : ∀ z, (u.1.mem.set r b)[q]? = some z → v = .int .u8 (z.toNat : Int) := fun z hz => by have := bcs_at hz; rw [this] at hq; injection hq with hq; exact hq.symm
        have hql : q < u.1.mem.length := by have := (List.getElem?_eq_some_iff.1 hq).1; rw [bcs_length, List.length_set] at this; exact this
        by_cases hqr : r = q
        · subst hqr
          have hin : r < cs.size := by
            have := hcc r _ (bcs_at (List.getElem?_eq_getElem hr))
            rw [Nat.zero_add] at this
            exact (Array.getElem?_eq_some_iff.1 this).1
          rw [if_pos rfl, if_pos hin, hqs b (by rw [List.getElem?_set, if_pos rfl, if_pos hr])]
        · rw [if_neg hqr]
          have hz := List.getElem?_eq_getElem hql
          rw [hqs _ (by rw [List.getElem?_set, if_neg hqr]; exact hz)]
          have := hcc q _ (bcs_at hz)
          rwa [Nat.zero_add] at this
      · obtain ⟨B1, d1, fe, m1, m2, m3, m4⟩ := e3 y (List.mem_of_getElem? hyk)
        injection fe with fA _ fc
        subst fA; subst fc
        refine ⟨y.2.1, y.2.2, rfl, m1, m2, m3, ?_⟩
        by_cases hye : y.1.mem = []
        · left; rw [hye]; rfl
        · rcases m4 with m4 | ⟨g2, off2, cs2, f1, f2, f3, f4, f5⟩
          · exact .inl m4
          · have hoff : off2 = 0 := by
              rcases m3 with ⟨g3, hg3⟩ | h0
              · rw [hg3] at f1; injection f1 with f1; injection f1 with _ f1 _; exact f1.symm
              · exact absurd h0 hye
            subst hoff
            have hne : g2 ≠ gm := fun e => e4 k i y u hyk hu hk hye hm' (by rw [f1, hgm, e])
            exact .inr ⟨g2, 0, cs2, f1, f2, f3, blk_far f4 (p := ⟨gm, r, none⟩) hne _, f5⟩
end Go.Proofs.Ytnfjkpeifleogaa.mv
