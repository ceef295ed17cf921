/- Common lemmas: a whole row stored, the walk stands behind it; no condition. -/
import Derived.Test.YthkkmnckidfmkaaRows
import Derived.Test.YthkkmnckidfmkaaLibS
import Derived.Lib.SlBytesConst
import Derived.Laws.Tables
namespace Go.Proofs.Ythkkmnckidfmkaa.rows
open Go Go.ChangeShapes Go.WideShapes Go.ChangeAt Go.RowKit
theorem blk_row {w : World} {g : Nat} {cs : Array Value} {t : TypeId} (hg : w.heap[g]? = some (.cells cs t (0, 0))) (cs' : Array Value) : (w.setRow g cs').heap[g]? = some (.cells cs' t (0, 0)) := setRow_heap w g cs cs' t (0, 0) hg
theorem size_row (w : World) (g : Nat) (cs : Array Value) : (w.setRow g cs).heap.size = w.heap.size := by simp [World.setRow]
theorem below_row {B g : Nat} {a w : World} (h : Below B a w) (hB : B ≤ g) (cs : Array Value) : Below B a (w.setRow g cs) :=
  h.trans ⟨rfl, rfl, rfl, by rw [size_row]; exact Nat.le_refl _, fun k hk => setRow_other w g k cs (by omega)⟩
theorem blk_row_ne {w : World} {g k : Nat} {o : Obj} (h : w.heap[k]? = some o) (hne : k ≠ g) (cs : Array Value) : (w.setRow g cs).heap[k]? = some o := (setRow_other w g k cs hne).trans h
theorem RowIn.row {T U : TypeId} {lo hi : Nat} {w : World} {A : Option Addr} {xs : List Value} (h : RowIn T lo hi w A xs) {g : Nat} {cs : Array Value} (hg : w.heap[g]? = some (.cells cs U (0, 0))) (hne : T ≠ U) (cs' : Array Value) : RowIn T lo hi (w.setRow g cs') A xs := by
  rcases h with h | ⟨g', off, cs2, rfl, h1, h2, hg', hc⟩
  · exact .inl h
  · refine .inr ⟨g', off, cs2, rfl, h1, h2, (setRow_other w g g' cs' fun e => ?_).trans hg', hc⟩
    rw [e, hg] at hg'; injection hg' with hg'; injection hg' with _ ht; exact hne ht.symm
theorem Own2.row {U : TypeId} {lo hi : Nat} {w : World} {A : Option Addr} {ls : List Msg} (h : Own2 lo hi w A ls) {g : Nat} {cs : Array Value} (hg : w.heap[g]? = some (.cells cs U (0, 0))) (h1 : 24 ≠ U) (h2 : 5 ≠ U) (cs' : Array Value) : Own2 lo hi (w.setRow g cs') A ls := by
  obtain ⟨vs, e1, e2, e3⟩ := h
  refine ⟨vs, e1, RowIn.row e2 hg h1 cs', fun j l hj => ?_⟩
  obtain ⟨A', c, k1, k2, k3, k4, k5⟩ := e3 j l hj
  exact ⟨A', c, k1, k2, k3, k4, RowIn.row k5 hg h2 cs'⟩
/-- A whole row stored: the walk stands behind it. -/
theorem wpList_store_at {P : Program} {ops : Array Oper} {rest : List Oper} {o : Oper} {a : Act} {w : World} {Q : Exit → Act → World → Prop} (hgd : o.guard = none) (ty : TypeId) (x y : Operand) (ho : o.op = .store ty x y)
    (g : Nat) (cells : Array Value) (hx : a.eval x = .pointer (some ⟨g, 0, none⟩)) (hy : a.eval y = .agg cells)
    (t : TypeId) (old : Array Value) (hg : w.heap[g]? = some (.cells old t (0, 0))) (hi : (P.info? ty).map (·.size) = some cells.size)
    (hold : old.size = cells.size) (h1 : cells.all (·.oneCell') = true)
    (h : ∀ w', Hid (w' = w.setRow g cells) → wpList P ops Q rest (a.put o.dst undef) w') : wpList P ops Q (o :: rest) a w :=
  wpList_store_row hgd ty x y ho g cells hx hy t old hg hi hold h1 (h _ (Lib.hid rfl))
/-! ### Rows of elements that bear a slice each -/
abbrev Sl (α : Type) := α × Option Addr × Nat
section
variable {α : Type} (cs : α → Option Addr → Nat → List Value)
def flat (us : List (Sl α)) : List Value := us.flatMap fun u => cs u.1 u.2.1 u.2.2
theorem flat_length (sz : Nat) (hsz : ∀ x A c, (cs x A c).length = sz) (us : List (Sl α)) : (flat cs us).length = us.length * sz := by
  induction us with
  | nil => simp [flat]
  | cons u us ih =>
    simp only [flat, List.flatMap_cons, List.length_append, List.length_cons, hsz] at ih ⊢
    rw [ih, Nat.add_mul, Nat.one_mul, Nat.add_comm]
theorem flat_at (sz : Nat) (hsz : ∀ x A c, (cs x A c).length = sz) (us : List (Sl α)) (k : Nat) (u : Sl α) (h : us[k]? = some u) (j : Nat) (v : Value) (hv : (cs u.1 u.2.1 u.2.2)[j]? = some v) : (flat cs us)[k * sz + j]? = some v := by
  have hj : j < sz := by have := (List.getElem?_eq_some_iff.1 hv).1; rw [hsz] at this; exact this
  induction us generalizing k with
  | nil => simp at h
  | cons x us ih =>
    simp only [flat, List.flatMap_cons] at ih ⊢
    cases k with
    | zero =>
      simp at h; subst h
      rw [Nat.zero_mul, Nat.zero_add, List.getElem?_append_left (by rw [hsz]; exact hj)]
      exact hv
    | succ k =>
      have h' : us[k]? = some u := by simpa using h
      rw [List.getElem?_append_right (by rw [hsz, Nat.add_mul]; omega), hsz, show (k + 1) * sz + j - sz = k * sz + j by rw [Nat.add_mul]; omega]
      exact ih k h'
theorem flat_snoc (us : List (Sl α)) (u : Sl α) : flat cs (us ++ [u]) = flat cs us ++ cs u.1 u.2.1 u.2.2 := by simp [flat]
/-- A row of such elements; 'inn' tells how the slice of each reads. -/
def Rws (inn : World → Option Addr → Nat → α → Prop) (w : World) (A : Option Addr) (xs : List α) : Prop :=
  ∃ us : List (Sl α), us.map (·.1) = xs ∧ Rd w A (flat cs us) ∧ ∀ u ∈ us, inn w u.2.1 u.2.2 u.1
variable {cs}
theorem Rws.nil {inn : World → Option Addr → Nat → α → Prop} {w : World} {A : Option Addr} : Rws cs inn w A [] := ⟨[], rfl, Rd.nil, fun u hu => by cases hu⟩
theorem Rws.below {inn : World → Option Addr → Nat → α → Prop} (hi : ∀ w w' A c x, inn w A c x → Below w.heap.size w w' → inn w' A c x) {w w' : World} {A : Option Addr} {xs : List α} (h : Rws cs inn w A xs) (hb : Below w.heap.size w w') : Rws cs inn w' A xs := by
  obtain ⟨us, h1, h2, h3⟩ := h
  exact ⟨us, h1, h2.below hb, fun u hu => hi _ _ _ _ _ (h3 u hu) hb⟩
theorem Rws.addr {inn : World → Option Addr → Nat → α → Prop} {sz : Nat} (hsz : ∀ x A c, (cs x A c).length = sz) (hpos : 0 < sz) {w : World} {A : Option Addr} {xs : List α} (h : Rws cs inn w A xs) (hn : 0 < xs.length) : ∃ b off, A = some ⟨b, off, none⟩ ∧ b < w.heap.size := by
  obtain ⟨us, h1, h2, _⟩ := h
  have hl : us.length = xs.length := by rw [← h1, List.length_map]
  exact h2.addr (by rw [flat_length cs sz hsz, hl]; exact Nat.mul_pos hn hpos)
theorem Rws.at {inn : World → Option Addr → Nat → α → Prop} {sz : Nat} (hsz : ∀ x A c, (cs x A c).length = sz) {w : World} {b off : Nat} {xs : List α} (h : Rws cs inn w (some ⟨b, off, none⟩) xs) {k : Nat} {x : α} (hk : xs[k]? = some x) :
    ∃ Am cm, inn w Am cm x ∧ ∀ (j : Nat) (v : Value), (cs x Am cm)[j]? = some v → w.cell? ⟨b, off + k * sz + j, none⟩ = some v := by
  obtain ⟨us, rfl, h2, h3⟩ := h
  rw [List.getElem?_map] at hk
  cases hu : us[k]? with
  | none => rw [hu] at hk; cases hk
  | some u =>
    rw [hu] at hk
    have : u.1 = x := by simpa using hk
    subst this
    refine ⟨u.2.1, u.2.2, h3 u (List.mem_of_getElem? hu), fun j v hv => ?_⟩
    rw [Nat.add_assoc]
    exact h2.cell (flat_at cs sz hsz us k u hu j v hv)
/-- The same in an own row that can grow. -/
def GrowX (cs : α → Option Addr → Nat → List Value) (T : TypeId) (sz : Nat) (own : Nat → Nat → World → Option Addr → Nat → α → Prop) (lo : Nat) (w : World) (v : Value) (xs : List α) : Prop :=
  ∃ us : List (Sl α), us.map (·.1) = xs ∧ w.ownsRow lo T sz v xs.length (flat cs us) ∧ ∀ u ∈ us, own lo w.heap.size w u.2.1 u.2.2 u.1
theorem GrowX.nil {T : TypeId} {sz : Nat} {own : Nat → Nat → World → Option Addr → Nat → α → Prop} (lo : Nat) (w : World) : GrowX cs T sz own lo w (.slice none 0 0) [] := ⟨[], rfl, World.ownsRow_nil _ _ _ _, fun u hu => by cases hu⟩
theorem GrowX.below {T : TypeId} {sz : Nat} {own : Nat → Nat → World → Option Addr → Nat → α → Prop} (hi : ∀ lo w w' A c x, own lo w.heap.size w A c x → Below w.heap.size w w' → own lo w'.heap.size w' A c x) {lo : Nat} {w w' : World} {v : Value} {xs : List α} (h : GrowX cs T sz own lo w v xs) (hb : Below w.heap.size w w') : GrowX cs T sz own lo w' v xs := by
  obtain ⟨us, h1, h2, h3⟩ := h
  exact ⟨us, h1, own_below h2 hb, fun u hu => hi _ _ _ _ _ _ (h3 u hu) hb⟩
theorem GrowX.snoc {T : TypeId} {sz : Nat} {own : Nat → Nat → World → Option Addr → Nat → α → Prop} {lo : Nat} {w w' : World} {v v' : Value} {us : List (Sl α)} {u : Sl α} (ho : w.ownsRow lo T sz v us.length (flat cs us)) (hu : own lo w.heap.size w u.2.1 u.2.2 u.1) (hm : ∀ x ∈ us, own lo w.heap.size w x.2.1 x.2.2 x.1)
    (hgr : ∀ A c x, own lo w.heap.size w A c x → own lo w'.heap.size w' A c x) (ho' : w'.ownsRow lo T sz v' (us.length + 1) (flat cs us ++ cs u.1 u.2.1 u.2.2)) : GrowX cs T sz own lo w' v' (us.map (·.1) ++ [u.1]) := by
  have _ := ho
  refine ⟨us ++ [u], by simp, by rw [flat_snoc]; simpa using ho', fun x hx => ?_⟩
  rcases List.mem_append.1 hx with hx | hx
  · exact hgr _ _ _ (hm x hx)
  · simp at hx; subst hx; exact hgr _ _ _ hu
theorem GrowX.rows {T : TypeId} {sz : Nat} {own : Nat → Nat → World → Option Addr → Nat → α → Prop} {inn : World → Option Addr → Nat → α → Prop} (hoi : ∀ lo hi w A c x, own lo hi w A c x → inn w A c x) {lo n c : Nat} {w : World} {A : Option Addr} {xs : List α} (h : GrowX cs T sz own lo w (.slice A n c) xs) : n = xs.length ∧ n ≤ c ∧ Rws cs inn w A xs := by
  obtain ⟨us, h1, h2, h3⟩ := h
  obtain ⟨A', c', e, hle, hrd⟩ := own_form h2
  injection e with eA en ec
  subst eA; subst en; subst ec
  exact ⟨rfl, hle, us, h1, hrd, fun u hu => hoi _ _ _ _ _ _ (h3 u hu)⟩
end
end Go.Proofs.Ythkkmnckidfmkaa.rows
