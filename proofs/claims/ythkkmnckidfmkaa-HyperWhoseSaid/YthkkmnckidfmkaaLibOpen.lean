/- Common lemmas: an argument's reading opened: slices row by row. No condition. -/
import Derived.Test.YthkkmnckidfmkaaLibB
import Derived.Deep.Slices
import Derived.SizedLaws
namespace Go.Proofs.Ythkkmnckidfmkaa
open Go Go.RowKit Go.WideShapes Go.ChangeShapes Go.Deep
theorem list_choose {α β : Type} (f : α → β) : ∀ (l : List β), (∀ r ∈ l, ∃ a, r = f a) → ∃ m : List α, l = m.map f
  | [], _ => ⟨[], rfl⟩
  | r :: l, h => by
    obtain ⟨a, rfl⟩ := h _ (List.mem_cons_self ..)
    obtain ⟨m, rfl⟩ := list_choose f l fun x hx => h x (List.mem_cons_of_mem _ hx)
    exact ⟨a :: m, rfl⟩
/-- The same with a property that the elements keep. -/
theorem list_choose_all {α β : Type} (f : α → β) (p : α → Prop) : ∀ (l : List β), (∀ r ∈ l, ∃ a, r = f a ∧ p a) → ∃ m : List α, l = m.map f ∧ ∀ a ∈ m, p a
  | [], _ => ⟨[], rfl, fun _ h => by cases h⟩
  | r :: l, h => by
    obtain ⟨a, rfl, ha⟩ := h _ (List.mem_cons_self ..)
    obtain ⟨m, rfl, hm⟩ := list_choose_all f p l fun x hx => h x (List.mem_cons_of_mem _ hx)
    exact ⟨a :: m, rfl, fun x hx => (List.mem_cons.1 hx).elim (fun e => e ▸ ha) (hm x)⟩
theorem flatten_at {α : Type} (size : Nat) : ∀ (rows : List (List α)) (i j : Nat), (∀ r ∈ rows, r.length = size) → j < size → rows.flatten[i * size + j]? = (rows[i]?).bind (·[j]?)
  | [], i, j, _, _ => by simp
  | r :: rows, 0, j, h, hj => by
    have hr := h r (List.mem_cons_self ..)
    simp [List.getElem?_append_left (show j < r.length by omega)]
  | r :: rows, i + 1, j, h, hj => by
    have hr := h r (List.mem_cons_self ..)
    have ih := flatten_at size rows i j (fun x hx => h x (List.mem_cons_of_mem _ hx)) hj
    have e : (i + 1) * size + j = r.length + (i * size + j) := by rw [hr, Nat.add_mul]; omega
    rw [e, List.flatten_cons, List.getElem?_append_right (by omega), Nat.add_sub_cancel_left, ih]
    simp
theorem flatten_length {α : Type} (size : Nat) : ∀ (rows : List (List α)), (∀ r ∈ rows, r.length = size) → rows.flatten.length = rows.length * size
  | [], _ => by simp
  | r :: rows, h => by
    rw [List.flatten_cons, List.length_append, h r (List.mem_cons_self ..), flatten_length size rows fun x hx => h x (List.mem_cons_of_mem _ hx), List.length_cons, Nat.add_mul]
    omega
section
variable {H : Type} {enc : TypeId × Value → H} {P : Program} {w : World} {base : Nat} {spare : Nat → Bool} {held : Bool}
/-- A slice's reading, opened: its rows, each with its own reading. -/
theorem open_rows {t e : TypeId} {size fuel : Nat} {cs : List Value} {x : DataW H × List MemPlace} (ht : P.underlying t = some (.slice e)) (hsz : P.cellsOf e = size) (hpos : 0 < size) (h : DataW.trod enc P w base spare held fuel t cs = some x) :
    ∃ (A : Option Addr) (c : Nat) (rows : List (List Value)), cs = [.slice A rows.length c] ∧ rows.length ≤ c ∧ c ≤ maxLen ∧ Rd w A rows.flatten ∧ (A = none → c = 0) ∧
      ∀ r ∈ rows, r.length = size ∧ ∃ (n : Nat) (y : DataW H × List MemPlace), DataW.trod enc P w base spare held n e r = some y := by
  rcases open_slice ht h with ⟨rfl, _⟩ | ⟨a, len, cap, m, n, D, Pl, rfl, _, hl, hm, hmm, rfl, hx⟩
  · exact ⟨none, 0, [], rfl, by simp, by simp [maxLen], .inl rfl, fun _ => rfl, fun _ h => by cases h⟩
  · have hlm : len ≤ m := by rw [hmm]; split <;> omega
    have each : ∀ i, i < len → ∃ r : List Value, w.cells? base (a.add (i * size)) size = some r ∧ DataW.trod enc P w base spare held n e r = some (D i, Pl i) := fun i hi => by
      obtain ⟨cs', h1, h2⟩ := hx i (by omega)
      rw [hsz] at h1
      exact ⟨cs', h1, h2⟩
    obtain ⟨R, hR⟩ := choose_lt each
    have hlen : ((List.range len).map R).length = len := by simp
    have hall : ∀ r ∈ (List.range len).map R, r.length = size ∧ ∃ (n : Nat) (y : DataW H × List MemPlace), DataW.trod enc P w base spare held n e r = some y := by
      intro r hr
      obtain ⟨i, hi, rfl⟩ := List.mem_map.1 hr
      obtain ⟨h1, h2⟩ := hR i (List.mem_range.1 hi)
      exact ⟨(World.cells?_some h1).2.1, n, _, h2⟩
    refine ⟨some a, cap, (List.range len).map R, by rw [hlen], by rw [hlen]; exact hl, hm, ?_, (fun h => by cases h), hall⟩
    rcases Nat.eq_zero_or_pos len with h0 | h0
    · subst h0; exact .inl (by simp)
    · right
      have hcell : ∀ i j u, i < len → j < size → (R i)[j]? = some u → w.cell? (a.add (i * size + j)) = some u := fun i j u hi hj hu => by
        have := (World.cells?_some (hR i hi).1).2.2 j hj
        rw [add_add, hu] at this
        exact this
      obtain ⟨h1, h2⟩ := hR 0 h0
      have hr0 : (R 0).length = size := (World.cells?_some h1).2.1
      have c0 := hcell 0 0 ((R 0)[0]'(by omega)) h0 hpos (List.getElem?_eq_getElem (by omega))
      simp only [Nat.zero_mul, Nat.add_zero] at c0
      have ha0 : a.add 0 = a := by simp [Addr.add]
      rw [ha0] at c0
      have hspot : a.spot = none := by
        cases hs : a.spot with
        | none => rfl
        | some s =>
          exfalso
          unfold World.cell? at c0
          split at c0
          · simp [hs] at c0
          · cases c0
      obtain ⟨b, off, sp⟩ := a
      simp only at hspot
      subst hspot
      refine ⟨b, off, rfl, block_lt_of_cell c0, fun j u hu => ?_⟩
      have hj : j < len * size := by
        have := (List.getElem?_eq_some_iff.1 hu).1
        rw [flatten_length size _ (fun r hr => (hall r hr).1), hlen] at this
        exact this
      have e : j = (j / size) * size + j % size := by rw [Nat.mul_comm]; exact (Nat.div_add_mod j size).symm
      have hq : j / size < len := Nat.div_lt_of_lt_mul (by rw [Nat.mul_comm]; exact hj)
      rw [e, flatten_at size _ _ _ (fun r hr => (hall r hr).1) (Nat.mod_lt _ hpos)] at hu
      simp [hq] at hu
      have := hcell _ _ u hq (Nat.mod_lt _ hpos) hu
      rw [← e, Addr.add_lit] at this
      exact this
/-- Are all fields of a struct integers of one kind, each of one cell? -/
def intFields (P : Program) (k : IntKind) (fs : Array Field) : Bool :=
  (List.range fs.size).all fun i => match fs[i]? with
    | some f => (match P.underlying f.type with | some (.int k') => decide (k' = k) | _ => false) && f.offset == i && P.cellsOf f.type == 1
    | none => false
theorem open_struct_ints {k : IntKind} {e : TypeId} {fs : Array Field} {fuel : Nat} {r : List Value} {y : DataW H × List MemPlace} (he : P.underlying e = some (.struct fs)) (hf : intFields P k fs = true)
    (hsz : P.cellsOf e = fs.size) (h : DataW.trod enc P w base spare held fuel e r = some y) : ∃ zs : List Int, zs.length = fs.size ∧ r = ints k zs ∧ ∀ z ∈ zs, (Lit.int k z).wf = true := by
  obtain ⟨xs, n, _, _, hl, hxl, hx⟩ := DataW.trod_struct he h
  have hlen : r.length = fs.size := by rw [hl, hsz]
  have each : ∀ u ∈ r, ∃ z, u = Value.int k z ∧ (Lit.int k z).wf = true := by
    intro u hu
    obtain ⟨i, hi, rfl⟩ := List.mem_iff_getElem.1 hu
    have hif : i < fs.size := by omega
    have hfi := List.all_eq_true.1 hf i (List.mem_range.2 hif)
    simp only [Array.getElem?_eq_getElem hif, Bool.and_eq_true, beq_iff_eq] at hfi
    obtain ⟨⟨h1, h2⟩, h3⟩ := hfi
    have ht : P.underlying (fs[i]).type = some (.int k) := by
      revert h1
      cases P.underlying (fs[i]).type with
      | none => simp
      | some d => cases d <;> simp
    have g := hx i (fs[i]) (Array.getElem?_eq_getElem hif)
    rw [h2, h3, List.getElem?_eq_getElem (by omega)] at g
    obtain ⟨z, hz, _, hw⟩ := DataW.trod_int ht g
    have e1 : (r.drop i).take 1 = [r[i]] := by
      rw [List.drop_eq_getElem_cons hi]
      rfl
    rw [e1] at hz
    injection hz with hz
    exact ⟨z, hz, hw⟩
  obtain ⟨zs, rfl, hzs⟩ := list_choose_all (Value.int k) (fun z => (Lit.int k z).wf = true) r each
  exact ⟨zs, by simpa using hlen, rfl, hzs⟩
end
end Go.Proofs.Ythkkmnckidfmkaa
