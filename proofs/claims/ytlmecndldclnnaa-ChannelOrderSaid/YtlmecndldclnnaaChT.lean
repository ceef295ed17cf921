/- Channels: a row of strings that grows at its end and is cut at its head; no condition. -/
import Derived.Test.YtlmecndldclnnaaRows
import Derived.Test.YtlmecndldclnnaaChG
import Derived.ArgAppend
namespace Go.Proofs.Ytlmecndldclnnaa.chan
open Go Go.ChangeShapes Go.WideShapes Go.ChangeAt Go.RowKit Go.Proofs.Ytlmecndldclnnaa.rows
theorem info_str : (Try.prog.info? 9).map (fun i => (i.zero, i.size, i.bytes)) = some (some (.string ⟨#[]⟩), 1, 16) := by kernel_rfl
/-- Cells xs behind an address of a block from lo on, with room up to c. -/
def Win (lo : Nat) (w : World) (A : Option Addr) (c : Nat) (xs : List Value) : Prop :=
  (A = none ∧ c = 0 ∧ xs = []) ∨ ∃ g off cs, A = some ⟨g, off, none⟩ ∧ lo ≤ g ∧ xs.length ≤ c ∧ w.heap[g]? = some (.cells cs 9 (0, 0)) ∧ off + c ≤ cs.size ∧ ∀ (j : Nat) (u : Value), xs[j]? = some u → cs[off + j]? = some u
theorem Win.nil {lo : Nat} {w : World} : Win lo w none 0 [] := .inl ⟨rfl, rfl, rfl⟩
theorem Win.le {lo c : Nat} {w : World} {A : Option Addr} {xs : List Value} (h : Win lo w A c xs) : xs.length ≤ c := by
  rcases h with ⟨_, rfl, rfl⟩ | ⟨_, _, _, _, _, h, _⟩
  · simp
  · exact h
theorem Win.cap0 {lo c : Nat} {w : World} {A : Option Addr} {xs : List Value} (h : Win lo w A c xs) (hA : A = none) : c = 0 := by
  rcases h with ⟨_, h, _⟩ | ⟨_, _, _, e, _⟩
  · exact h
  · rw [hA] at e; cases e
theorem Win.below {lo c : Nat} {w w' : World} {A : Option Addr} {xs : List Value} (h : Win lo w A c xs) (hb : Below w.heap.size w w') : Win lo w' A c xs := by
  rcases h with h | ⟨g, off, cs, rfl, h1, h2, h3, h4, h5⟩
  · exact .inl h
  · exact .inr ⟨g, off, cs, rfl, h1, h2, blk_below h3 hb (blk_lt h3), h4, h5⟩
theorem Win.far {U : TypeId} {lo c : Nat} {w : World} {A : Option Addr} {xs : List Value} (h : Win lo w A c xs) {g k : Nat} {cs : Array Value} (hg : w.heap[g]? = some (.cells cs U (0, 0))) (hne : 9 ≠ U) (u : Value) : Win lo (w.setCell ⟨g, k, none⟩ u) A c xs := by
  rcases h with h | ⟨g', off, cs', rfl, h1, h2, h3, h4, h5⟩
  · exact .inl h
  · refine .inr ⟨g', off, cs', rfl, h1, h2, blk_far h3 (p := ⟨g, k, none⟩) (fun e => ?_) _, h4, h5⟩
    have e' : g' = g := e
    rw [e'] at h3; rw [hg] at h3; injection h3 with h3; injection h3 with _ ht; exact hne ht.symm
theorem Win.far6 {lo c : Nat} {w : World} {A : Option Addr} {xs : List Value} (h : Win lo w A c xs) {g : Nat} {cs : Array Value} (hg : w.heap[g]? = some (.cells cs 26 (0, 0))) (u0 u1 u2 u3 u4 u5 : Value) :
    Win lo ((((((w.setCell ⟨g, 0, none⟩ u0).setCell ⟨g, 1, none⟩ u1).setCell ⟨g, 2, none⟩ u2).setCell ⟨g, 3, none⟩ u3).setCell ⟨g, 4, none⟩ u4).setCell ⟨g, 5, none⟩ u5) A c xs :=
  Win.far (Win.far (Win.far (Win.far (Win.far (Win.far h hg (by decide) u0) (blk_set hg _ _) (by decide) u1) (blk_set (blk_set hg _ _) _ _) (by decide) u2) (blk_set (blk_set (blk_set hg _ _) _ _) _ _) (by decide) u3) (blk_set (blk_set (blk_set (blk_set hg _ _) _ _) _ _) _ _) (by decide) u4)
    (blk_set (blk_set (blk_set (blk_set (blk_set hg _ _) _ _) _ _) _ _) _ _) (by decide) u5
/-- Cut at the head, one cell left of the room: the address stays. -/
theorem Win.cut1 {lo : Nat} {w : World} {A : Option Addr} {x : Value} {xs : List Value} (h : Win lo w A 1 (x :: xs)) : Win lo w A 0 xs := by
  rcases h with ⟨_, h, _⟩ | ⟨g, off, cs, rfl, h1, h2, h3, h4, h5⟩
  · cases h
  · have : xs = [] := List.eq_nil_of_length_eq_zero (by simp only [List.length_cons] at h2; omega)
    subst this
    exact .inr ⟨g, off, cs, rfl, h1, by simp, h3, by omega, fun j u hu => by simp at hu⟩
/-- Cut at the head. -/
theorem Win.cut {lo c g off : Nat} {w : World} {x : Value} {xs : List Value} (h : Win lo w (some ⟨g, off, none⟩) (c + 1) (x :: xs)) : Win lo w (some ⟨g, off + 1, none⟩) c xs := by
  rcases h with ⟨_, h, _⟩ | ⟨g', off', cs, e, h1, h2, h3, h4, h5⟩
  · cases h
  · injection e with e; injection e with e1 e2; subst e1; subst e2
    exact .inr ⟨g, off + 1, cs, rfl, h1, by simp at h2; omega, h3, by omega, fun j u hu => by have := h5 (j + 1) u (by simpa using hu); rwa [show off + 1 + j = off + (j + 1) by omega]⟩
theorem Win.at {lo c : Nat} {w : World} {A : Option Addr} {x : Value} {xs : List Value} (h : Win lo w A c (x :: xs)) : ∃ g off, A = some ⟨g, off, none⟩ ∧ w.cell? ⟨g, off, none⟩ = some x := by
  rcases h with ⟨_, _, h⟩ | ⟨g, off, cs, rfl, h1, h2, h3, h4, h5⟩
  · cases h
  · exact ⟨g, off, rfl, by rw [blk_cell h3]; have := h5 0 x rfl; simpa using this⟩
theorem Win.of_own {lo n : Nat} {w : World} {v : Value} {xs : List Value} (h : w.ownsRow lo 9 1 v n xs) : ∃ A c, v = .slice A n c ∧ Win lo w A c xs := by
  have hl := h.1
  rcases h.2 with ⟨rfl, rfl⟩ | ⟨g, cap, cur, rfl, hlo, hg, hnc, hm, hs, hc⟩
  · exact ⟨Option.none, 0, rfl, .inl ⟨rfl, rfl, List.eq_nil_of_length_eq_zero (by omega)⟩⟩
  · refine ⟨_, cap, rfl, .inr ⟨g, 0, cur, rfl, hlo, by omega, hg, by omega, fun j u hu => ?_⟩⟩
    rw [← hc, List.getElem?_take] at hu
    split at hu
    · rw [Nat.zero_add, ← Array.getElem?_toList]; exact hu
    · cases hu
/-- What an append leaves as it was: the blocks of other elements. -/
def Kept (w w' : World) : Prop := w.heap.size ≤ w'.heap.size ∧ ∀ (g : Nat) (cs : Array Value) (t : TypeId), t ≠ 9 → w.heap[g]? = some (.cells cs t (0, 0)) → w'.heap[g]? = some (.cells cs t (0, 0))
theorem RowIn.kept {T : TypeId} {lo hi : Nat} {w w' : World} {A : Option Addr} {xs : List Value} (h : RowIn T lo hi w A xs) (hT : T ≠ 9) (k : Kept w w') : RowIn T lo hi w' A xs := by
  rcases h with h | ⟨g, off, cs, rfl, h1, h2, hg, hc⟩
  · exact .inl h
  · exact .inr ⟨g, off, cs, rfl, h1, h2, k.2 g cs T hT hg, hc⟩
theorem Own2.kept {lo hi : Nat} {w w' : World} {A : Option Addr} {ls : List Msg} (h : Own2 lo hi w A ls) (k : Kept w w') : Own2 lo hi w' A ls := by
  obtain ⟨vs, h1, h2, h3⟩ := h
  refine ⟨vs, h1, RowIn.kept h2 (by decide) k, fun j l hj => ?_⟩
  obtain ⟨A', c, e1, e2, e3, e5, e4⟩ := h3 j l hj
  exact ⟨A', c, e1, e2, e3, e5, RowIn.kept e4 (by decide) k⟩
/-- A string more. -/
theorem wpList_append_win {P : Program} {w : World} {ops : Array Oper} {rest : List Oper} {o : Oper} {a : Act} {Q : Exit → Act → World → Prop} (hgd : o.guard = none) (s x : Operand) (t : TypeId)
    (ho : o.op = .call { callee := .builtin .append, args := #[s, x], argTypes := #[t, t] }) (i : TypeInfo) (z : Value) (ht : P.underlying t = some (.slice 9)) (hi : P.info? 9 = some i) (hz : i.zero = some z)
    (hz1 : i.size = 1) (hz2 : i.bytes = 16) (hzs : z.cells.size = 1) (lo n c : Nat) (A : Option Addr) (xs : List Value) (hs : a.eval s = .slice A n c) (hn : xs.length = n) (hw : Win lo w A c xs) (hn6 : n ≤ 1000000)
    (b off cc : Nat) (u : Value) (hx : a.eval x = .slice (some ⟨b, off, none⟩) 1 cc) (hc : w.cell? ⟨b, off, none⟩ = some u) (h1 : u.oneCell' = true) (hlo : lo ≤ w.heap.size)
    (h : ∀ A' c' w', Win lo w' A' c' (xs ++ [u]) → Below lo w w' → Kept w w' → wpList P ops Q rest (a.put o.dst (.slice A' (n + 1) c')) w') : wpList P ops Q (o :: rest) a w := by
  have hnew : ∀ (j : Nat) (v : Value), [u][j]? = some v → w.cell? (Addr.add ⟨b, off, none⟩ j) = some v := fun j v hv => by
    cases j with
    | zero => simp at hv; subst hv; rw [Addr.add_lit]; simpa using hc
    | succ j => simp at hv
  have hone : ∀ v ∈ [u], v.oneCell' = true := fun v hv => by simp at hv; subst hv; exact h1
  have hgrow : ∀ v' w', w'.ownsRow w.heap.size 9 1 v' (n + 1) (xs ++ [u]) → w.grownBy w' Option.none → wpList P ops Q rest (a.put o.dst v') w' := fun v' w' hown hg => by
    obtain ⟨A', c', rfl, hwin⟩ := Win.of_own hown
    refine h A' c' w' ?_ ((Below.refl lo w).grown hg hlo (fun k hk => by cases hk)) ⟨hg.size, fun g cs t _ hgc => blk_grown hgc hg (by simp)⟩
    rcases hwin with ⟨_, _, e⟩ | ⟨g, off, cs, rfl, k1, k2⟩
    · simp at e
    · exact .inr ⟨g, off, cs, rfl, by omega, k2⟩
  rcases hw with ⟨rfl, rfl, rfl⟩ | ⟨g, o', cs, rfl, hlg, hle, hg, hsz, hcs⟩
  · simp at hn; subst hn
    exact wpList_append_grows w hgd s x t ho 9 i z 1 16 ht hi hz hz1 hz2 hzs (by decide) Option.none 0 0 [] hs (fun _ => ⟨rfl, rfl⟩) rfl (fun b hb => by cases hb) ⟨b, off, none⟩ 1 cc [u] hx rfl hnew hone (by omega) (by unfold maxLen; omega) (by omega) hgrow
  · refine wpList_append_arg w hgd s x t ho 9 i z 1 16 ht hi hz hz1 hz2 hzs (by decide) g o' n c xs hs (by omega) (fun j v hv => by rw [blk_cell hg]; exact hcs j v hv) ⟨b, off, none⟩ 1 cc [u] hx rfl hnew hone ?_ (by unfold maxLen; omega) (by omega) ?_ (fun _ => hgrow)
    · intro hr j hj
      have hj0 : j = 0 := by simp at hj; exact hj
      subst hj0
      refine ⟨?_, blk_frozen hg _⟩
      rw [blk_cell hg, Array.getElem?_eq_getElem (by omega)]; rfl
    · intro hr
      have e : w.setCells g (o' + n * 1) [u] = w.setCell ⟨g, o' + n, none⟩ u := by simp [World.setCells]
      rw [e]
      refine h _ c _ (.inr ⟨g, o', cs.setIfInBounds (o' + n) u, rfl, hlg, by simp; omega, blk_set hg _ _, by simpa using hsz, fun j v hv => ?_⟩) ((Below.refl lo w).setCell (p := ⟨g, o' + n, none⟩) hlg u) ⟨by simp, fun g2 cs2 t2 ht2 hg2 => blk_far hg2 (p := ⟨g, o' + n, none⟩) (fun e => ?_) u⟩
      · rw [Array.getElem?_setIfInBounds]
        by_cases hjn : j < n
        · rw [List.getElem?_append_left (by omega)] at hv
          rw [if_neg (by omega)]
          exact hcs j v hv
        · have hj : j = n := by
            have := (List.getElem?_eq_some_iff.1 hv).1
            simp at this; omega
          subst hj
          rw [List.getElem?_append_right (by omega), hn, Nat.sub_self] at hv
          simp at hv; subst hv
          rw [if_pos rfl, if_pos (by omega)]
      · have e' : g2 = g := e
        rw [e', hg] at hg2
        injection hg2 with hg2; injection hg2 with _ hg2
        exact ht2 hg2.symm
/-- Messages as strings. -/
def strs (ls : List Msg) : List Value := ls.map fun l => .string ⟨l.toArray⟩
theorem strs_length (ls : List Msg) : (strs ls).length = ls.length := by simp [strs]
theorem strs_snoc (ls : List Msg) (m : Msg) : strs (ls ++ [m]) = strs ls ++ [.string ⟨m.toArray⟩] := by simp [strs]
/-! ### A whole row stored -/
theorem blk_row {w : World} {g : Nat} {cs : Array Value} {t : TypeId} (hg : w.heap[g]? = some (.cells cs t (0, 0))) (cs' : Array Value) : (w.setRow g cs').heap[g]? = some (.cells cs' t (0, 0)) := setRow_heap w g cs cs' t (0, 0) hg
theorem size_row (w : World) (g : Nat) (cs : Array Value) : (w.setRow g cs).heap.size = w.heap.size := by simp [World.setRow]
theorem below_row {B g : Nat} {a w : World} (h : Below B a w) (hB : B ≤ g) (cs : Array Value) : Below B a (w.setRow g cs) :=
  h.trans ⟨rfl, rfl, rfl, by rw [size_row]; exact Nat.le_refl _, fun k hk => setRow_other w g k cs (by omega)⟩
theorem RowIn.row {T U : TypeId} {lo hi : Nat} {w : World} {A : Option Addr} {xs : List Value} (h : RowIn T lo hi w A xs) {g : Nat} {cs : Array Value} (hg : w.heap[g]? = some (.cells cs U (0, 0))) (hne : T ≠ U) (cs' : Array Value) : RowIn T lo hi (w.setRow g cs') A xs := by
  rcases h with h | ⟨g', off, cs2, rfl, h1, h2, hg', hc⟩
  · exact .inl h
  · refine .inr ⟨g', off, cs2, rfl, h1, h2, (setRow_other w g g' cs' fun e => ?_).trans hg', hc⟩
    rw [e, hg] at hg'; injection hg' with hg'; injection hg' with _ ht; exact hne ht.symm
theorem Own2.row {U : TypeId} {lo hi : Nat} {w : World} {A : Option Addr} {ls : List Msg} (h : Own2 lo hi w A ls) {g : Nat} {cs : Array Value} (hg : w.heap[g]? = some (.cells cs U (0, 0))) (h1 : 27 ≠ U) (h2 : 5 ≠ U) (cs' : Array Value) : Own2 lo hi (w.setRow g cs') A ls := by
  obtain ⟨vs, e1, e2, e3⟩ := h
  refine ⟨vs, e1, RowIn.row e2 hg h1 cs', fun j l hj => ?_⟩
  obtain ⟨A', c, k1, k2, k3, k4, k5⟩ := e3 j l hj
  exact ⟨A', c, k1, k2, k3, k4, RowIn.row k5 hg h2 cs'⟩
theorem Win.row {U : TypeId} {lo c : Nat} {w : World} {A : Option Addr} {xs : List Value} (h : Win lo w A c xs) {g : Nat} {cs : Array Value} (hg : w.heap[g]? = some (.cells cs U (0, 0))) (hne : 9 ≠ U) (cs' : Array Value) : Win lo (w.setRow g cs') A c xs := by
  rcases h with h | ⟨g', off, cs2, rfl, h1, h2, h3, h4, h5⟩
  · exact .inl h
  · refine .inr ⟨g', off, cs2, rfl, h1, h2, (setRow_other w g g' cs' fun e => ?_).trans h3, h4, h5⟩
    rw [e, hg] at h3; injection h3 with h3; injection h3 with _ ht; exact hne ht.symm
theorem blk_row_ne {w : World} {g k : Nat} {o : Obj} (h : w.heap[k]? = some o) (hne : k ≠ g) (cs : Array Value) : (w.setRow g cs).heap[k]? = some o := (setRow_other w g k cs hne).trans h
/-- A whole row stored: the walk stands behind it. -/
theorem wpList_store_at {P : Program} {ops : Array Oper} {rest : List Oper} {o : Oper} {a : Act} {w : World} {Q : Exit → Act → World → Prop} (hgd : o.guard = none) (ty : TypeId) (x y : Operand) (ho : o.op = .store ty x y)
    (g : Nat) (cells : Array Value) (hx : a.eval x = .pointer (some ⟨g, 0, none⟩)) (hy : a.eval y = .agg cells)
    (t : TypeId) (old : Array Value) (hg : w.heap[g]? = some (.cells old t (0, 0))) (hi : (P.info? ty).map (·.size) = some cells.size)
    (hold : old.size = cells.size) (h1 : cells.all (·.oneCell') = true)
    (h : ∀ w', Hid (w' = w.setRow g cells) → wpList P ops Q rest (a.put o.dst undef) w') : wpList P ops Q (o :: rest) a w :=
  wpList_store_row hgd ty x y ho g cells hx hy t old hg hi hold h1 (h _ (Lib.hid rfl))
end Go.Proofs.Ytlmecndldclnnaa.chan
