/- Bytes and rows of bytes that come in as arguments; no condition. -/
import Derived.Test.YtjliaojanmbicaaRows
import Derived.Test.YtjliaojanmbicaaLibS
import Derived.DataShut
import Derived.ChangeSame
import Derived.SizedLaws
namespace Go.Proofs.Ytjliaojanmbicaa.phys
open Go Go.RowKit Go.WideShapes Go.ChangeShapes Go.Deep Go.Proofs.Ytjliaojanmbicaa.rows
theorem flat_bytes : ∀ l : List UInt8, (l.map fun x => [Value.int .u8 (x.toNat : Int)]).flatten = bcs l
  | [] => rfl
  | a :: l => by simp only [List.map_cons, List.flatten_cons, flat_bytes l]; rfl
theorem weightsAll_mem {H : Type} {P : Program} {e : TypeId} : ∀ {l : List (DataW H)} {d : DataW H}, d ∈ l → ∀ n ∈ d.weights P e, n ∈ DataW.weightsAll P e l
  | d' :: r, d, hd, n, hn => by
    simp only [DataW.weightsAll, List.mem_append]
    rcases List.mem_cons.1 hd with rfl | h
    · exact Or.inl hn
    · exact Or.inr (weightsAll_mem h n hn)
section
variable {H : Type} {enc : TypeId × Value → H} {P : Program} {w : World} {base : Nat} {spare : Nat → Bool} {held : Bool}
/-- A slice's reading, opened: its rows, each with its own reading, and what the rows weigh. -/
theorem open_rows_in {t e : TypeId} {size fuel : Nat} {cs : List Value} {x : DataW H × List MemPlace} (ht : P.underlying t = some (.slice e)) (hsz : P.cellsOf e = size) (hpos : 0 < size) (h : DataW.trod enc P w base spare held fuel t cs = some x) :
    ∃ (A : Option Addr) (c : Nat) (rows : List (List Value)), cs = [.slice A rows.length c] ∧ rows.length ≤ c ∧ c ≤ maxLen ∧ Rd w A rows.flatten ∧ (A = none → c = 0) ∧
      (∀ q, (∀ m ∈ x.1.weights P t, m ≤ q) → rows.length * P.bytesOf e ≤ q) ∧ ∀ r ∈ rows, r.length = size ∧ ∃ (n : Nat) (y : DataW H × List MemPlace), DataW.trod enc P w base spare held n e r = some y ∧ ∀ q, (∀ m ∈ x.1.weights P t, m ≤ q) → ∀ m ∈ y.1.weights P e, m ≤ q := by
  rcases open_slice ht h with ⟨rfl, _⟩ | ⟨a, len, cap, m, n, D, Pl, rfl, _, hl, hm, hmm, rfl, hx⟩
  · exact ⟨none, 0, [], rfl, by simp, by simp [maxLen], .inl rfl, fun _ => rfl, (fun q _ => by simp), fun _ h => by cases h⟩
  · have hwt : ∀ q, (∀ u ∈ (DataW.slice ((List.range len).map D) ((List.range (m - len)).map fun j => D (len + j))).weights P t, u ≤ q) → len * P.bytesOf e ≤ q := fun q hq => by
      have := hq ((((List.range len).map D).length + ((List.range (m - len)).map fun j => D (len + j)).length) * P.bytesOf e) (by simp [DataW.weights, ht])
      refine Nat.le_trans (Nat.mul_le_mul_right _ ?_) this
      simp
    have hwi : ∀ i, i < len → ∀ q, (∀ u ∈ (DataW.slice ((List.range len).map D) ((List.range (m - len)).map fun j => D (len + j))).weights P t, u ≤ q) → ∀ m ∈ (D i).weights P e, m ≤ q := fun i hi q hq n hn => by
      refine hq n ?_
      simp only [DataW.weights, ht, List.mem_cons, List.mem_append]
      exact Or.inr (Or.inl (weightsAll_mem (List.mem_map.2 ⟨i, List.mem_range.2 hi, rfl⟩) n hn))
    have hlm : len ≤ m := by rw [hmm]; split <;> omega
    have each : ∀ i, i < len → ∃ r : List Value, w.cells? base (a.add (i * size)) size = some r ∧ DataW.trod enc P w base spare held n e r = some (D i, Pl i) := fun i hi => by
      obtain ⟨cs', h1, h2⟩ := hx i (by omega)
      rw [hsz] at h1
      exact ⟨cs', h1, h2⟩
    obtain ⟨R, hR⟩ := choose_lt each
    have hlen : ((List.range len).map R).length = len := by simp
    have hall : ∀ r ∈ (List.range len).map R, r.length = size ∧ ∃ (n : Nat) (y : DataW H × List MemPlace), DataW.trod enc P w base spare held n e r = some y ∧ ∀ q, (∀ u ∈ (DataW.slice ((List.range len).map D) ((List.range (m - len)).map fun j => D (len + j))).weights P t, u ≤ q) → ∀ m ∈ y.1.weights P e, m ≤ q := by
      intro r hr
      obtain ⟨i, hi, rfl⟩ := List.mem_map.1 hr
      obtain ⟨h1, h2⟩ := hR i (List.mem_range.1 hi)
      exact ⟨(World.cells?_some h1).2.1, n, _, h2, hwi i (List.mem_range.1 hi)⟩
    refine ⟨some a, cap, (List.range len).map R, by rw [hlen], by rw [hlen]; exact hl, hm, ?_, (fun h => by cases h), (by rw [hlen]; exact hwt), hall⟩
    rcases Nat.eq_zero_or_pos len with h0 | h0
    · subst h0; exact .inl (by simp)
    · right
      have hcell : ∀ i j u, i < len → j < size → (R i)[j]? = some u → w.cell? (a.add (i * size + j)) = some u := fun i j u hi hj hu => by
        have := (World.cells?_some (hR i hi).1).2.2 j hj
        rw [add_add, hu] at this
        exact this
      obtain ⟨h1, h2⟩ := hR 0 h0
      have hr0 : (R 0).length = size := (World.cells?_some h1).2.1
      have c0 := hcell 0 0 ((R 0)[0]'(by omega)) h0 hpos (List.getElem?_eq_getElem (by omega))
      simp only [Nat.zero_mul, Nat.add_zero] at c0
      have ha0 : a.add 0 = a := by simp [Addr.add]
      rw [ha0] at c0
      have hspot : a.spot = none := by
        cases hs : a.spot with
        | none => rfl
        | some s =>
          exfalso
          unfold World.cell? at c0
          split at c0
          · simp [hs] at c0
          · cases c0
      obtain ⟨b, off, sp⟩ := a
      simp only at hspot
      subst hspot
      refine ⟨b, off, rfl, block_lt_of_cell c0, fun j u hu => ?_⟩
      have hj : j < len * size := by
        have := (List.getElem?_eq_some_iff.1 hu).1
        rw [flatten_length size _ (fun r hr => (hall r hr).1), hlen] at this
        exact this
      have e : j = (j / size) * size + j % size := by rw [Nat.mul_comm]; exact (Nat.div_add_mod j size).symm
      have hq : j / size < len := Nat.div_lt_of_lt_mul (by rw [Nat.mul_comm]; exact hj)
      rw [e, flatten_at size _ _ _ (fun r hr => (hall r hr).1) (Nat.mod_lt _ hpos)] at hu
      simp [hq] at hu
      have := hcell _ _ u hq (Nat.mod_lt _ hpos) hu
      rw [← e, Addr.add_lit] at this
      exact this
end
/-- A row of bytes, by its reading. -/
theorem bytes_of {H : Type} {enc : TypeId × Value → H} {W : World} {fuel : Nat} {cs : List Value} {y : DataW H × List MemPlace}
    (h : DataW.trod enc Try.prog W 0 (fun _ => true) true fuel 22 cs = some y) : ∃ (l : List UInt8) (A : Option Addr) (c : Nat), cs = [.slice A l.length c] ∧ l.length ≤ c ∧ c ≤ maxLen ∧ Rd W A (bcs l) ∧ (A = none → c = 0) ∧ (∀ q, (∀ m ∈ y.1.weights Try.prog 22, m ≤ q) → l.length ≤ q) := by
  obtain ⟨A, c, rows, hcs, hlc, hm, hr, hA, hwt, hrows⟩ := open_rows_in (size := 1) Try.underlying22 (by kernel_rfl) (by decide) h
  obtain ⟨l, rfl⟩ : ∃ l : List UInt8, rows = l.map fun x => [Value.int .u8 (x.toNat : Int)] := list_choose _ _ fun r hr => by
    obtain ⟨_, n, y, hy, _⟩ := hrows r hr
    obtain ⟨b, hb, _, hw⟩ := DataW.trod_int Try.underlying5 hy
    have hk : 0 ≤ b ∧ b ≤ 255 := (Lit.wf_int_iff .u8 b).1 hw
    refine ⟨UInt8.ofNat b.toNat, ?_⟩
    rw [hb]
    have : ((UInt8.ofNat b.toNat).toNat : Int) = b := by simp; omega
    rw [this]
  simp only [List.length_map] at hcs hlc
  refine ⟨l, A, c, hcs, hlc, hm, ?_, hA, fun q hq => ?_⟩
  · rw [← flat_bytes]
    exact hr
  · have := hwt q hq
    rw [show (Try.prog).bytesOf 5 = 1 by kernel_rfl] at this
    simpa using this
theorem open_bytes {H : Type} {enc : TypeId × Value → H} {W : World} {v : Value} {d : DataW H} {p : List MemPlace} (hv : ∃ a len cap, v = .slice a len cap)
    (h : DataW.Trod enc Try.prog W 0 (fun _ => true) true 22 v d p) : ∃ (l : List UInt8) (A : Option Addr) (c : Nat), v = .slice A l.length c ∧ l.length ≤ c ∧ c ≤ maxLen ∧ Rd W A (bcs l) ∧ (A = none → c = 0) := by
  obtain ⟨a0, n0, c0, rfl⟩ := hv
  obtain ⟨fuel, hf⟩ := h
  obtain ⟨l, A, c, hcs, h1, h2, h3, h4, _⟩ := bytes_of hf
  have hcs' : [Value.slice a0 n0 c0] = [Value.slice A l.length c] := hcs
  injection hcs' with e
  exact ⟨l, A, c, e, h1, h2, h3, h4⟩
/-- A row of messages, by its reading. -/
theorem msgs_of {H : Type} {enc : TypeId × Value → H} {W : World} {fuel : Nat} {cs : List Value} {y : DataW H × List MemPlace}
    (h : DataW.trod enc Try.prog W 0 (fun _ => true) true fuel 49 cs = some y) : ∃ (ls : List Msg) (A : Option Addr) (c : Nat), cs = [.slice A ls.length c] ∧ ls.length ≤ c ∧ c ≤ maxLen ∧ Rms W A ls ∧ (A = none → c = 0) ∧ (∀ q, (∀ m ∈ y.1.weights Try.prog 49, m ≤ q) → ∀ l ∈ ls, l.length ≤ q) := by
  obtain ⟨A, c, rows, hcs, hlc, hm, hr, hA, hwt, hrows⟩ := open_rows_in (size := 1) Try.underlying49 (by kernel_rfl) (by decide) h
  obtain ⟨us, hus, hall⟩ : ∃ us : List (Msg × Option Addr × Nat), rows = us.map (fun u => [Value.slice u.2.1 u.1.length u.2.2]) ∧ ∀ u ∈ us, u.1.length ≤ u.2.2 ∧ (u.2.1 = none → u.2.2 = 0) ∧ Rd W u.2.1 (bcs u.1) ∧ ∀ q, (∀ m ∈ y.1.weights Try.prog 49, m ≤ q) → u.1.length ≤ q := list_choose_all _ _ _ fun r hr => by
    obtain ⟨_, n, y, hy, hwy⟩ := hrows r hr
    obtain ⟨l, A', c', e, h1, _, h3, h4, h5⟩ := bytes_of hy
    exact ⟨(l, A', c'), e, h1, h4, h3, fun q hq => h5 q (hwy q hq)⟩
  subst hus
  have hl : us.length = (us.map fun u => u.1).length := by simp
  simp only [List.length_map] at hcs hlc
  refine ⟨us.map fun u => u.1, A, c, by rw [← hl]; exact hcs, by rw [← hl]; exact hlc, hm, ⟨us.map fun u => Value.slice u.2.1 u.1.length u.2.2, by simp, ?_, fun k l hk => ?_⟩, hA, fun q hq l hl => ?_⟩
  · have e : (us.map fun u => [Value.slice u.2.1 u.1.length u.2.2]).flatten = us.map fun u => Value.slice u.2.1 u.1.length u.2.2 := by
      clear hcs hlc hr hrows hall hl hwt
      induction us with
      | nil => rfl
      | cons a us ih => simp only [List.map_cons, List.flatten_cons, ih]; rfl
    rw [e] at hr
    exact hr
  · rw [List.getElem?_map] at hk
    cases hu : us[k]? with
    | none => rw [hu] at hk; cases hk
    | some u =>
      rw [hu] at hk
      have hkl : u.1 = l := by simpa using hk
      subst hkl
      obtain ⟨h1, h2, h3, _⟩ := hall u (List.mem_of_getElem? hu)
      exact ⟨u.2.1, u.2.2, by rw [List.getElem?_map, hu]; rfl, h1, h2, h3⟩
  · obtain ⟨u, hu, rfl⟩ := List.mem_map.1 hl
    exact (hall u hu).2.2.2 q hq
theorem open_msgs {H : Type} {enc : TypeId × Value → H} {W : World} {v : Value} {d : DataW H} {p : List MemPlace} (hv : ∃ a len cap, v = .slice a len cap)
    (h : DataW.Trod enc Try.prog W 0 (fun _ => true) true 49 v d p) : ∃ (ls : List Msg) (A : Option Addr) (c : Nat), v = .slice A ls.length c ∧ ls.length ≤ c ∧ c ≤ maxLen ∧ Rms W A ls ∧ (A = none → c = 0) ∧ (∀ q, (∀ m ∈ d.weights Try.prog 49, m ≤ q) → ∀ l ∈ ls, l.length ≤ q) := by
  obtain ⟨a0, n0, c0, rfl⟩ := hv
  obtain ⟨fuel, hf⟩ := h
  obtain ⟨l, A, c, hcs, h1, h2, h3, h4, h5⟩ := msgs_of hf
  have hcs' : [Value.slice a0 n0 c0] = [Value.slice A l.length c] := hcs
  injection hcs' with e
  exact ⟨l, A, c, e, h1, h2, h3, h4, h5⟩
end Go.Proofs.Ytjliaojanmbicaa.phys
