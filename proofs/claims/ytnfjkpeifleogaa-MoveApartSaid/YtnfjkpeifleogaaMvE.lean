/- Moves: what stays as it was while rows of one type grow; own rows of parts and of queues; no condition. -/
import Derived.Test.YtnfjkpeifleogaaRows
import Derived.Test.YtnfjkpeifleogaaMvC
import Derived.Test.YtnfjkpeifleogaaMvD
namespace Go.Proofs.Ytnfjkpeifleogaa.mv
open Go Go.ChangeShapes Go.WideShapes Go.ChangeAt Go.RowKit Go.Proofs.Ytnfjkpeifleogaa.rows
/-- All blocks of other elements stay. -/
def KeptX (T0 : TypeId) (w w' : World) : Prop := w.heap.size ≤ w'.heap.size ∧ ∀ (g : Nat) (cs : Array Value) (t : TypeId), t ≠ T0 → w.heap[g]? = some (.cells cs t (0, 0)) → w'.heap[g]? = some (.cells cs t (0, 0))
theorem KeptX.grown {T0 : TypeId} {w w' : World} {lo sz n : Nat} {v : Value} {xs : List Value} (ho : w.ownsRow lo T0 sz v n xs) (hg : w.grownBy w' v.ownBlock) : KeptX T0 w w' :=
  ⟨hg.size, fun _ _ _ ht hgc => blk_grown hgc hg (own_ne ho hgc (fun e => ht e.symm))⟩
theorem KeptX.set {T0 : TypeId} {w : World} {g : Nat} {cs : Array Value} (hg : w.heap[g]? = some (.cells cs T0 (0, 0))) (k : Nat) (u : Value) : KeptX T0 w (w.setCell ⟨g, k, none⟩ u) :=
  ⟨by simp, fun g' cs' t ht hg' => blk_far hg' (p := ⟨g, k, none⟩) (fun e => by
    have e' : g' = g := e
    rw [e', hg] at hg'; injection hg' with hg'; injection hg' with _ h2; exact ht h2.symm) u⟩
theorem RowIn.keptX {T T0 : TypeId} {lo hi : Nat} {w w' : World} {A : Option Addr} {xs : List Value} (h : RowIn T lo hi w A xs) (hT : T ≠ T0) (k : KeptX T0 w w') : RowIn T lo hi w' A xs := by
  rcases h with h | ⟨g, off, cs, rfl, h1, h2, hg, hc⟩
  · exact .inl h
  · exact .inr ⟨g, off, cs, rfl, h1, h2, k.2 g cs T hT hg, hc⟩
theorem own_keptX {T T0 : TypeId} {lo sz n : Nat} {w w' : World} {v : Value} {xs : List Value} (h : w.ownsRow lo T sz v n xs) (hT : T ≠ T0) (k : KeptX T0 w w') : w'.ownsRow lo T sz v n xs := by
  refine ⟨h.1, ?_⟩
  rcases h.2 with hn | ⟨g, cap, cur, rfl, hb0, hgg, rest⟩
  · exact .inl hn
  · exact .inr ⟨g, cap, cur, rfl, hb0, k.2 g cur T hT hgg, rest⟩
theorem own_form3s {w : World} {base : Nat} {e : TypeId} {sz n : Nat} {v : Value} {xs : List Value} (h : w.ownsRow base e sz v n xs) : ∃ A c, v = .slice A n c ∧ n ≤ c ∧ (A = none → c = 0) ∧ ((∃ g, A = some ⟨g, 0, none⟩) ∨ xs = []) ∧ Rd w A xs := by
  have h' := h
  rcases h.2 with ⟨rfl, rfl⟩ | ⟨g, cap, cur, rfl, _, _, hnc, _⟩
  · exact ⟨none, 0, rfl, Nat.le_refl _, fun _ => rfl, .inr (List.eq_nil_of_length_eq_zero (by rw [h.1, Nat.zero_mul])), Rd.of_own h'⟩
  · exact ⟨_, cap, rfl, hnc, (fun h => by cases h), .inl ⟨g, rfl⟩, Rd.of_own h'⟩
/-- Memory of the call's own, messages of the call's own. -/
def ownB (lo hi : Nat) (w : World) (A : Option Addr) (c : Nat) (x : Pt) : Prop := MsgAt lo hi w (.slice A x.mem.length c) x.mem
def ownM (lo hi : Nat) (w : World) (A : Option Addr) (c : Nat) (x : Qu) : Prop := x.msgs.length ≤ c ∧ (A = none → c = 0) ∧ Own2 lo hi w A x.msgs
theorem ownB_below : ∀ lo w w' A c x, ownB lo w.heap.size w A c x → Below w.heap.size w w' → ownB lo w'.heap.size w' A c x := fun _ _ _ _ _ _ h hb => (MsgAt.below h hb (Nat.le_refl _)).mono (Nat.le_refl _) hb.size
theorem ownM_below : ∀ lo w w' A c x, ownM lo w.heap.size w A c x → Below w.heap.size w w' → ownM lo w'.heap.size w' A c x := fun _ _ _ _ _ _ h hb => ⟨h.1, h.2.1, (h.2.2.below hb (Nat.le_refl _)).mono (Nat.le_refl _) hb.size⟩
theorem ownB_keptX {T0 : TypeId} (hT : 5 ≠ T0) {lo : Nat} {w w' : World} {A : Option Addr} {c : Nat} {x : Pt} (h : ownB lo w.heap.size w A c x) (k : KeptX T0 w w') : ownB lo w'.heap.size w' A c x := by
  obtain ⟨A', c', e, h1, h2, h3, h4⟩ := h
  exact ⟨A', c', e, h1, h2, h3, (RowIn.keptX h4 hT k).mono (Nat.le_refl _) k.1⟩
theorem ownM_keptX {T0 : TypeId} (hT : 5 ≠ T0) (hT2 : 38 ≠ T0) {lo : Nat} {w w' : World} {A : Option Addr} {c : Nat} {x : Qu} (h : ownM lo w.heap.size w A c x) (k : KeptX T0 w w') : ownM lo w'.heap.size w' A c x := by
  obtain ⟨g1, g2, vs, h1, h2, h3⟩ := h
  refine ⟨g1, g2, vs, h1, (RowIn.keptX h2 hT2 k).mono (Nat.le_refl _) k.1, fun j l hj => ?_⟩
  obtain ⟨A', c, e1, e2, e3, e5, e4⟩ := h3 j l hj
  exact ⟨A', c, e1, e2, e3, e5, (RowIn.keptX e4 hT k).mono (Nat.le_refl _) k.1⟩
def GrowP (lo : Nat) (w : World) (v : Value) (xs : List Pt) : Prop := GrowX Pt.cells 44 14 ownB lo w v xs
def GrowQ (lo : Nat) (w : World) (v : Value) (xs : List Qu) : Prop := GrowX Qu.cells 53 6 ownM lo w v xs
theorem GrowP.below {lo : Nat} {w w' : World} {v : Value} {xs : List Pt} (h : GrowP lo w v xs) (hb : Below w.heap.size w w') : GrowP lo w' v xs := GrowX.below ownB_below h hb
theorem GrowQ.below {lo : Nat} {w w' : World} {v : Value} {xs : List Qu} (h : GrowQ lo w v xs) (hb : Below w.heap.size w w') : GrowQ lo w' v xs := GrowX.below ownM_below h hb
theorem GrowP.keptX {T0 : TypeId} (h1 : 44 ≠ T0) (h2 : 5 ≠ T0) {lo : Nat} {w w' : World} {v : Value} {xs : List Pt} (h : GrowP lo w v xs) (k : KeptX T0 w w') : GrowP lo w' v xs := by
  obtain ⟨us, e1, e2, e3⟩ := h
  exact ⟨us, e1, own_keptX e2 h1 k, fun u hu => ownB_keptX h2 (e3 u hu) k⟩
theorem GrowQ.keptX {T0 : TypeId} (h1 : 53 ≠ T0) (h2 : 5 ≠ T0) (h3 : 38 ≠ T0) {lo : Nat} {w w' : World} {v : Value} {xs : List Qu} (h : GrowQ lo w v xs) (k : KeptX T0 w w') : GrowQ lo w' v xs := by
  obtain ⟨us, e1, e2, e3⟩ := h
  exact ⟨us, e1, own_keptX e2 h1 k, fun u hu => ownM_keptX h2 h3 (e3 u hu) k⟩
theorem GrowP.form {lo : Nat} {w : World} {v : Value} {xs : List Pt} (h : GrowP lo w v xs) : ∃ A c, v = .slice A xs.length c ∧ xs.length ≤ c ∧ (A = none → c = 0) ∧ Pts w A xs := by
  obtain ⟨us, e1, e2, e3⟩ := h
  obtain ⟨A, c, rfl, k1, k2, _, k4⟩ := own_form3s e2
  exact ⟨A, c, rfl, k1, k2, us, e1, k4, fun u hu => by
    obtain ⟨A', c', e, h1, h2, _, h4⟩ := e3 u hu
    injection e with eA _ ec
    rw [eA, ec]
    exact ⟨h1, h2, h4.rd⟩⟩
theorem GrowQ.form {lo : Nat} {w : World} {v : Value} {xs : List Qu} (h : GrowQ lo w v xs) : ∃ A c, v = .slice A xs.length c ∧ xs.length ≤ c ∧ (A = none → c = 0) ∧ Qus w A xs := by
  obtain ⟨us, e1, e2, e3⟩ := h
  obtain ⟨A, c, rfl, k1, k2, _, k4⟩ := own_form3s e2
  exact ⟨A, c, rfl, k1, k2, us, e1, k4, fun u hu => by
    obtain ⟨h1, h2, h3⟩ := e3 u hu
    exact ⟨h1, h2, h3.rows⟩⟩
end Go.Proofs.Ytnfjkpeifleogaa.mv
