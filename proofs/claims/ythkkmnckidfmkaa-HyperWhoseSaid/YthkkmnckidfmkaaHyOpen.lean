/- Parts and worlds that come in as arguments; no condition. -/
import Derived.Test.YthkkmnckidfmkaaRows
import Derived.Test.YthkkmnckidfmkaaHyG
import Derived.Test.YthkkmnckidfmkaaLibOpen
import Derived.DataShut
import Derived.OpenShut
import Derived.ChangeSame
import Derived.SizedLaws
namespace Go.Proofs.Ythkkmnckidfmkaa.hy
open Go Go.RowKit Go.WideShapes Go.ChangeShapes Go.Deep Go.Proofs.Ythkkmnckidfmkaa.rows
theorem own : ownKnob Try.prog.godebug = none := by kernel_rfl
theorem laidOut : laidOutB Try.prog = true := by kernel_rfl
theorem flat_bytes : ∀ l : List UInt8, (l.map fun x => [Value.int .u8 (x.toNat : Int)]).flatten = bcs l
  | [] => rfl
  | a :: l => by simp only [List.map_cons, List.flatten_cons, flat_bytes l]; rfl
theorem weightsAll_mem {H : Type} {P : Program} {e : TypeId} : ∀ {l : List (DataW H)} {d : DataW H}, d ∈ l → ∀ n ∈ d.weights P e, n ∈ DataW.weightsAll P e l
  | d' :: r, d, hd, n, hn => by
    simp only [DataW.weightsAll, List.mem_append]
    rcases List.mem_cons.1 hd with rfl | h
    · exact Or.inl hn
    · exact Or.inr (weightsAll_mem h n hn)
section
variable {H : Type} {enc : TypeId × Value → H} {P : Program} {w : World} {base : Nat} {spare : Nat → Bool} {held : Bool}
/-- A slice's reading, opened: its rows, each with its own reading, and what the rows weigh. -/
theorem open_rows_in {t e : TypeId} {size fuel : Nat} {cs : List Value} {x : DataW H × List MemPlace} (ht : P.underlying t = some (.slice e)) (hsz : P.cellsOf e = size) (hpos : 0 < size) (h : DataW.trod enc P w base spare held fuel t cs = some x) :
    ∃ (A : Option Addr) (c : Nat) (rows : List (List Value)), cs = [.slice A rows.length c] ∧ rows.length ≤ c ∧ c ≤ maxLen ∧ Rd w A rows.flatten ∧ (A = none → c = 0) ∧
      (∀ q, (∀ m ∈ x.1.weights P t, m ≤ q) → rows.length * P.bytesOf e ≤ q) ∧ ∀ r ∈ rows, r.length = size ∧ ∃ (n : Nat) (y : DataW H × List MemPlace), DataW.trod enc P w base spare held n e r = some y ∧ ∀ q, (∀ m ∈ x.1.weights P t, m ≤ q) → ∀ m ∈ y.1.weights P e, m ≤ q := by
  rcases open_slice ht h with ⟨rfl, _⟩ | ⟨a, len, cap, m, n, D, Pl, rfl, _, hl, hm, hmm, rfl, hx⟩
  · exact ⟨none, 0, [], rfl, by simp, by simp [maxLen], .inl rfl, fun _ => rfl, (fun q _ => by simp), fun _ h => by cases h⟩
  · have hwt : ∀ q, (∀ u ∈ (DataW.slice ((List.range len).map D) ((List.range (m - len)).map fun j => D (len + j))).weights P t, u ≤ q) → len * P.bytesOf e ≤ q := fun q hq => by
      have := hq ((((List.range len).map D).length + ((List.range (m - len)).map fun j => D (len + j)).length) * P.bytesOf e) (by simp [DataW.weights, ht])
      refine Nat.le_trans (Nat.mul_le_mul_right _ ?_) this
      simp
    have hwi : ∀ i, i < len → ∀ q, (∀ u ∈ (DataW.slice ((List.range len).map D) ((List.range (m - len)).map fun j => D (len + j))).weights P t, u ≤ q) → ∀ m ∈ (D i).weights P e, m ≤ q := fun i hi q hq n hn => by
      refine hq n ?_
      simp only [DataW.weights, ht, List.mem_cons, List.mem_append]
      exact Or.inr (Or.inl (weightsAll_mem (List.mem_map.2 ⟨i, List.mem_range.2 hi, rfl⟩) n hn))
    have hlm : len ≤ m := by rw [hmm]; split <;> omega
    have each : ∀ i, i < len → ∃ r : List Value, w.cells? base (a.add (i * size)) size = some r ∧ DataW.trod enc P w base spare held n e r = some (D i, Pl i) := fun i hi => by
      obtain ⟨cs', h1, h2⟩ := hx i (by omega)
      rw [hsz] at h1
      exact ⟨cs', h1, h2⟩
    obtain ⟨R, hR⟩ := choose_lt each
    have hlen : ((List.range len).map R).length = len := by simp
    have hall : ∀ r ∈ (List.range len).map R, r.length = size ∧ ∃ (n : Nat) (y : DataW H × List MemPlace), DataW.trod enc P w base spare held n e r = some y ∧ ∀ q, (∀ u ∈ (DataW.slice ((List.range len).map D) ((List.range (m - len)).map fun j => D (len + j))).weights P t, u ≤ q) → ∀ m ∈ y.1.weights P e, m ≤ q := by
      intro r hr
      obtain ⟨i, hi, rfl⟩ := List.mem_map.1 hr
      obtain ⟨h1, h2⟩ := hR i (List.mem_range.1 hi)
      exact ⟨(World.cells?_some h1).2.1, n, _, h2, hwi i (List.mem_range.1 hi)⟩
    refine ⟨some a, cap, (List.range len).map R, by rw [hlen], by rw [hlen]; exact hl, hm, ?_, (fun h => by cases h), (by rw [hlen]; exact hwt), hall⟩
    rcases Nat.eq_zero_or_pos len with h0 | h0
    · subst h0; exact .inl (by simp)
    · right
      have hcell : ∀ i j u, i < len → j < size → (R i)[j]? = some u → w.cell? (a.add (i * size + j)) = some u := fun i j u hi hj hu => by
        have := (World.cells?_some (hR i hi).1).2.2 j hj
        rw [add_add, hu] at this
        exact this
      obtain ⟨h1, h2⟩ := hR 0 h0
      have hr0 : (R 0).length = size := (World.cells?_some h1).2.1
      have c0 := hcell 0 0 ((R 0)[0]'(by omega)) h0 hpos (List.getElem?_eq_getElem (by omega))
      simp only [Nat.zero_mul, Nat.add_zero] at c0
      have ha0 : a.add 0 = a := by simp [Addr.add]
      rw [ha0] at c0
      have hspot : a.spot = none := by
        cases hs : a.spot with
        | none => rfl
        | some s =>
          exfalso
          unfold World.cell? at c0
          split at c0
          · simp [hs] at c0
          · cases c0
      obtain ⟨b, off, sp⟩ := a
      simp only at hspot
      subst hspot
      refine ⟨b, off, rfl, block_lt_of_cell c0, fun j u hu => ?_⟩
      have hj : j < len * size := by
        have := (List.getElem?_eq_some_iff.1 hu).1
        rw [flatten_length size _ (fun r hr => (hall r hr).1), hlen] at this
        exact this
      have e : j = (j / size) * size + j % size := by rw [Nat.mul_comm]; exact (Nat.div_add_mod j size).symm
      have hq : j / size < len := Nat.div_lt_of_lt_mul (by rw [Nat.mul_comm]; exact hj)
      rw [e, flatten_at size _ _ _ (fun r hr => (hall r hr).1) (Nat.mod_lt _ hpos)] at hu
      simp [hq] at hu
      have := hcell _ _ u hq (Nat.mod_lt _ hpos) hu
      rw [← e, Addr.add_lit] at this
      exact this
end
/-- A row of bytes, by its reading. -/
theorem bytes_of {H : Type} {enc : TypeId × Value → H} {W : World} {fuel : Nat} {cs : List Value} {y : DataW H × List MemPlace}
    (h : DataW.trod enc Try.prog W 0 (fun _ => true) true fuel 24 cs = some y) : ∃ (l : List UInt8) (A : Option Addr) (c : Nat), cs = [.slice A l.length c] ∧ l.length ≤ c ∧ c ≤ maxLen ∧ Rd W A (bcs l) ∧ (A = none → c = 0) ∧ (∀ q, (∀ m ∈ y.1.weights Try.prog 24, m ≤ q) → l.length ≤ q) := by
  obtain ⟨A, c, rows, hcs, hlc, hm, hr, hA, hwt, hrows⟩ := open_rows_in (size := 1) Try.underlying24 (by kernel_rfl) (by decide) h
  obtain ⟨l, rfl⟩ : ∃ l : List UInt8, rows = l.map fun x => [Value.int .u8 (x.toNat : Int)] := list_choose _ _ fun r hr => by
    obtain ⟨_, n, y, hy, _⟩ := hrows r hr
    obtain ⟨b, hb, _, hw⟩ := DataW.trod_int Try.underlying5 hy
    have hk : 0 ≤ b ∧ b ≤ 255 := (Lit.wf_int_iff .u8 b).1 hw
    refine ⟨UInt8.ofNat b.toNat, ?_⟩
    rw [hb]
    have : ((UInt8.ofNat b.toNat).toNat : Int) = b := by simp; omega
    rw [this]
  simp only [List.length_map] at hcs hlc
  refine ⟨l, A, c, hcs, hlc, hm, ?_, hA, fun q hq => ?_⟩
  · rw [← flat_bytes]
    exact hr
  · have := hwt q hq
    rw [show (Try.prog).bytesOf 5 = 1 by kernel_rfl] at this
    simpa using this
theorem open_bytes {H : Type} {enc : TypeId × Value → H} {W : World} {v : Value} {d : DataW H} {p : List MemPlace} (hv : ∃ a len cap, v = .slice a len cap)
    (h : DataW.Trod enc Try.prog W 0 (fun _ => true) true 24 v d p) : ∃ (l : List UInt8) (A : Option Addr) (c : Nat), v = .slice A l.length c ∧ l.length ≤ c ∧ c ≤ maxLen ∧ Rd W A (bcs l) ∧ (A = none → c = 0) := by
  obtain ⟨a0, n0, c0, rfl⟩ := hv
  obtain ⟨fuel, hf⟩ := h
  obtain ⟨l, A, c, hcs, h1, h2, h3, h4, _⟩ := bytes_of hf
  have hcs' : [Value.slice a0 n0 c0] = [Value.slice A l.length c] := hcs
  injection hcs' with e
  exact ⟨l, A, c, e, h1, h2, h3, h4⟩
/-- A row of messages, by its reading. -/
theorem msgs_of {H : Type} {enc : TypeId × Value → H} {W : World} {fuel : Nat} {cs : List Value} {y : DataW H × List MemPlace}
    (h : DataW.trod enc Try.prog W 0 (fun _ => true) true fuel 34 cs = some y) : ∃ (ls : List Msg) (A : Option Addr) (c : Nat), cs = [.slice A ls.length c] ∧ ls.length ≤ c ∧ c ≤ maxLen ∧ Rms W A ls ∧ (A = none → c = 0) ∧ (∀ q, (∀ m ∈ y.1.weights Try.prog 34, m ≤ q) → ls.length ≤ q ∧ ∀ l ∈ ls, l.length ≤ q) := by
  obtain ⟨A, c, rows, hcs, hlc, hm, hr, hA, hwt, hrows⟩ := open_rows_in (size := 1) Try.underlying34 (by kernel_rfl) (by decide) h
  obtain ⟨us, hus, hall⟩ : ∃ us : List (Msg × Option Addr × Nat), rows = us.map (fun u => [Value.slice u.2.1 u.1.length u.2.2]) ∧ ∀ u ∈ us, u.1.length ≤ u.2.2 ∧ (u.2.1 = none → u.2.2 = 0) ∧ Rd W u.2.1 (bcs u.1) ∧ ∀ q, (∀ m ∈ y.1.weights Try.prog 34, m ≤ q) → u.1.length ≤ q := list_choose_all _ _ _ fun r hr => by
    obtain ⟨_, n, y, hy, hwy⟩ := hrows r hr
    obtain ⟨l, A', c', e, h1, _, h3, h4, h5⟩ := bytes_of hy
    exact ⟨(l, A', c'), e, h1, h4, h3, fun q hq => h5 q (hwy q hq)⟩
  subst hus
  have hl : us.length = (us.map fun u => u.1).length := by simp
  simp only [List.length_map] at hcs hlc
  refine ⟨us.map fun u => u.1, A, c, by rw [← hl]; exact hcs, by rw [← hl]; exact hlc, hm, ⟨us.map fun u => Value.slice u.2.1 u.1.length u.2.2, by simp, ?_, fun k l hk => ?_⟩, hA, fun q hq => ⟨?_, fun l hl => ?_⟩⟩
  · have e : (us.map fun u => [Value.slice u.2.1 u.1.length u.2.2]).flatten = us.map fun u => Value.slice u.2.1 u.1.length u.2.2 := by
      clear hcs hlc hr hrows hall hl hwt
      induction us with
      | nil => rfl
      | cons a us ih => simp only [List.map_cons, List.flatten_cons, ih]; rfl
    rw [e] at hr
    exact hr
  · rw [List.getElem?_map] at hk
    cases hu : us[k]? with
    | none => rw [hu] at hk; cases hk
    | some u =>
      rw [hu] at hk
      have hkl : u.1 = l := by simpa using hk
      subst hkl
      obtain ⟨h1, h2, h3, _⟩ := hall u (List.mem_of_getElem? hu)
      exact ⟨u.2.1, u.2.2, by rw [List.getElem?_map, hu]; rfl, h1, h2, h3⟩
  · have := hwt q hq
    rw [show (Try.prog).bytesOf 24 = 24 by kernel_rfl] at this
    simp at this ⊢
    omega
  · obtain ⟨u, hu, rfl⟩ := List.mem_map.1 hl
    exact (hall u hu).2.2.2 q hq
/-- A channel, by its reading. -/
theorem chan_of {H : Type} {enc : TypeId × Value → H} {W : World} {fuel : Nat} {cs : List Value} {y : DataW H × List MemPlace}
    (h : DataW.trod enc Try.prog W 0 (fun _ => true) true fuel 33 cs = some y) : ∃ x : Ch, cs = x.cells := by
  obtain ⟨zs, hz, he, _⟩ := open_struct_ints (k := .i64) Try.underlying33 (by kernel_rfl) (by kernel_rfl) h
  match zs, hz with
  | [a, b, c, d, e], _ => exact ⟨⟨a, b, c, d, e⟩, he⟩
/-- A part, by its reading. -/
theorem part_of {H : Type} {enc : TypeId × Value → H} {W : World} {fuel : Nat} {cs : List Value} {y : DataW H × List MemPlace}
    (h : DataW.trod enc Try.prog W 0 (fun _ => true) true fuel 26 cs = some y) : ∃ (x : Pt) (A : Option Addr) (c : Nat), cs = Pt.cells x A c ∧ (x.mem.length ≤ c ∧ (A = none → c = 0) ∧ Rd W A (bcs x.mem)) ∧ ((0 ≤ x.r0 ∧ x.r0 < 4294967296) ∧ (0 ≤ x.r1 ∧ x.r1 < 4294967296) ∧ 0 ≤ x.r2 ∧ x.r2 < 4294967296) ∧ (∀ q, (∀ m ∈ y.1.weights Try.prog 26, m ≤ q) → x.mem.length ≤ q) := by
  obtain ⟨xs, n, _, hd, hl, hxl, hx⟩ := DataW.trod_struct Try.underlying26 h
  have hl' : cs.length = 14 := hl
  match cs, hl' with
  | [a0, a1, a2, a3, a4, a5, a6, a7, a8, a9, a10, a11, a12, a13], _ =>
    have h0 : DataW.trod enc Try.prog W 0 (fun _ => true) true n 3 [a0] = xs[0]? := hx 0 _ rfl
    have h1 : DataW.trod enc Try.prog W 0 (fun _ => true) true n 3 [a1] = xs[1]? := hx 1 _ rfl
    have h2 : DataW.trod enc Try.prog W 0 (fun _ => true) true n 4 [a2] = xs[2]? := hx 2 _ rfl
    have h3 : DataW.trod enc Try.prog W 0 (fun _ => true) true n 23 [a3, a4, a5, a6, a7, a8, a9, a10] = xs[3]? := hx 3 _ rfl
    have h4 : DataW.trod enc Try.prog W 0 (fun _ => true) true n 22 [a11] = xs[4]? := hx 4 _ rfl
    have h5 : DataW.trod enc Try.prog W 0 (fun _ => true) true n 5 [a12] = xs[5]? := hx 5 _ rfl
    have h6 : DataW.trod enc Try.prog W 0 (fun _ => true) true n 24 [a13] = xs[6]? := hx 6 _ rfl
    obtain ⟨y0, hy0⟩ : ∃ y, xs[0]? = some y := ⟨_, List.getElem?_eq_getElem (by rw [hxl]; decide)⟩
    rw [hy0] at h0
    obtain ⟨y1, hy1⟩ : ∃ y, xs[1]? = some y := ⟨_, List.getElem?_eq_getElem (by rw [hxl]; decide)⟩
    rw [hy1] at h1
    obtain ⟨y2, hy2⟩ : ∃ y, xs[2]? = some y := ⟨_, List.getElem?_eq_getElem (by rw [hxl]; decide)⟩
    rw [hy2] at h2
    obtain ⟨y3, hy3⟩ : ∃ y, xs[3]? = some y := ⟨_, List.getElem?_eq_getElem (by rw [hxl]; decide)⟩
    rw [hy3] at h3
    obtain ⟨y4, hy4⟩ : ∃ y, xs[4]? = some y := ⟨_, List.getElem?_eq_getElem (by rw [hxl]; decide)⟩
    rw [hy4] at h4
    obtain ⟨y5, hy5⟩ : ∃ y, xs[5]? = some y := ⟨_, List.getElem?_eq_getElem (by rw [hxl]; decide)⟩
    rw [hy5] at h5
    obtain ⟨y6, hy6⟩ : ∃ y, xs[6]? = some y := ⟨_, List.getElem?_eq_getElem (by rw [hxl]; decide)⟩
    rw [hy6] at h6
    obtain ⟨z0, e0, _, _⟩ := DataW.trod_int Try.underlying3 h0
    obtain ⟨z1, e1, _, _⟩ := DataW.trod_int Try.underlying3 h1
    obtain ⟨z2, e2, _⟩ := DataW.trod_bool Try.underlying4 h2
    obtain ⟨rs, m, _, _, _, hrl, hr⟩ := DataW.trod_array Try.underlying23 h3
    have r0 : DataW.trod enc Try.prog W 0 (fun _ => true) true m 22 [a3] = rs[0]? := hr 0 (by decide)
    rw [List.getElem?_eq_getElem (by rw [hrl]; decide)] at r0
    obtain ⟨u0, f0, _, g0⟩ := DataW.trod_int Try.underlying22 r0
    have r1 : DataW.trod enc Try.prog W 0 (fun _ => true) true m 22 [a4] = rs[1]? := hr 1 (by decide)
    rw [List.getElem?_eq_getElem (by rw [hrl]; decide)] at r1
    obtain ⟨u1, f1, _, g1⟩ := DataW.trod_int Try.underlying22 r1
    have r2 : DataW.trod enc Try.prog W 0 (fun _ => true) true m 22 [a5] = rs[2]? := hr 2 (by decide)
    rw [List.getElem?_eq_getElem (by rw [hrl]; decide)] at r2
    obtain ⟨u2, f2, _, g2⟩ := DataW.trod_int Try.underlying22 r2
    have r3 : DataW.trod enc Try.prog W 0 (fun _ => true) true m 22 [a6] = rs[3]? := hr 3 (by decide)
    rw [List.getElem?_eq_getElem (by rw [hrl]; decide)] at r3
    obtain ⟨u3, f3, _, _⟩ := DataW.trod_int Try.underlying22 r3
    have r4 : DataW.trod enc Try.prog W 0 (fun _ => true) true m 22 [a7] = rs[4]? := hr 4 (by decide)
    rw [List.getElem?_eq_getElem (by rw [hrl]; decide)] at r4
    obtain ⟨u4, f4, _, _⟩ := DataW.trod_int Try.underlying22 r4
    have r5 : DataW.trod enc Try.prog W 0 (fun _ => true) true m 22 [a8] = rs[5]? := hr 5 (by decide)
    rw [List.getElem?_eq_getElem (by rw [hrl]; decide)] at r5
    obtain ⟨u5, f5, _, _⟩ := DataW.trod_int Try.underlying22 r5
    have r6 : DataW.trod enc Try.prog W 0 (fun _ => true) true m 22 [a9] = rs[6]? := hr 6 (by decide)
    rw [List.getElem?_eq_getElem (by rw [hrl]; decide)] at r6
    obtain ⟨u6, f6, _, _⟩ := DataW.trod_int Try.underlying22 r6
    have r7 : DataW.trod enc Try.prog W 0 (fun _ => true) true m 22 [a10] = rs[7]? := hr 7 (by decide)
    rw [List.getElem?_eq_getElem (by rw [hrl]; decide)] at r7
    obtain ⟨u7, f7, _, _⟩ := DataW.trod_int Try.underlying22 r7
    obtain ⟨z4, e4, _, _⟩ := DataW.trod_int Try.underlying22 h4
    obtain ⟨z5, e5, _, _⟩ := DataW.trod_int Try.underlying5 h5
    obtain ⟨l, A, c, e6, k1, k2, k3, k4, k5⟩ := bytes_of h6
    have bd : ∀ u : Int, 0 ≤ u ∧ u ≤ 4294967295 → 0 ≤ u ∧ u < 4294967296 := fun u h => ⟨h.1, Int.lt_of_le_of_lt h.2 (by decide)⟩
    have k10 := bd _ ((Lit.wf_int_iff .u32 _).1 g0)
    have k11 := bd _ ((Lit.wf_int_iff .u32 _).1 g1)
    have k12 := bd _ ((Lit.wf_int_iff .u32 _).1 g2)
    injection e0 with e0 _
    injection e1 with e1 _
    injection e2 with e2 _
    injection f0 with f0 _
    injection f1 with f1 _
    injection f2 with f2 _
    injection f3 with f3 _
    injection f4 with f4 _
    injection f5 with f5 _
    injection f6 with f6 _
    injection f7 with f7 _
    injection e4 with e4 _
    injection e5 with e5 _
    injection e6 with e6 _
    subst e0 e1 e2 f0 f1 f2 f3 f4 f5 f6 f7 e4 e5 e6
    exact ⟨⟨z0, z1, z2, u0, u1, u2, u3, u4, u5, u6, u7, z4, z5, l⟩, A, c, rfl, ⟨k1, k4, k3⟩, ⟨k10, k11, k12⟩, fun q hw => k5 q (fun m hm => hw m (by rw [hd]; simp only [DataW.weights, Try.underlying26]; exact DataW.weights_mem_each (j := 6) (t := 24) rfl (by rw [List.getElem?_map, hy6]; rfl) m hm))⟩
/-- A queue, by its reading. -/
theorem queue_of {H : Type} {enc : TypeId × Value → H} {W : World} {fuel : Nat} {cs : List Value} {y : DataW H × List MemPlace}
    (h : DataW.trod enc Try.prog W 0 (fun _ => true) true fuel 36 cs = some y) : ∃ (x : Qu) (A : Option Addr) (c : Nat), cs = Qu.cells x A c ∧ inM W A c x ∧ (∀ q, (∀ m ∈ y.1.weights Try.prog 36, m ≤ q) → x.msgs.length ≤ q ∧ ∀ m ∈ x.msgs, m.length ≤ q) := by
  obtain ⟨xs, n, _, hd, hl, hxl, hx⟩ := DataW.trod_struct Try.underlying36 h
  have hl' : cs.length = 6 := hl
  match cs, hl' with
  | [a0, a1, a2, a3, a4, a5], _ =>
    have h0 : DataW.trod enc Try.prog W 0 (fun _ => true) true n 33 [a0, a1, a2, a3, a4] = xs[0]? := hx 0 _ rfl
    have h1 : DataW.trod enc Try.prog W 0 (fun _ => true) true n 34 [a5] = xs[1]? := hx 1 _ rfl
    obtain ⟨y0, hy0⟩ : ∃ y, xs[0]? = some y := ⟨_, List.getElem?_eq_getElem (by rw [hxl]; decide)⟩
    rw [hy0] at h0
    obtain ⟨y1, hy1⟩ : ∃ y, xs[1]? = some y := ⟨_, List.getElem?_eq_getElem (by rw [hxl]; decide)⟩
    rw [hy1] at h1
    obtain ⟨x, hx'⟩ := chan_of h0
    obtain ⟨ls, A, c, e1, k1, k2, k3, k4, k5⟩ := msgs_of h1
    injection e1 with e1 _
    injection hx' with f0 hx'
    injection hx' with f1 hx'
    injection hx' with f2 hx'
    injection hx' with f3 hx'
    injection hx' with f4 _
    subst e1 f0 f1 f2 f3 f4
    exact ⟨⟨x, ls⟩, A, c, rfl, ⟨k1, k4, k3⟩, fun q hw => k5 q (fun m hm => hw m (by rw [hd]; simp only [DataW.weights, Try.underlying36]; exact DataW.weights_mem_each (j := 1) (t := 34) rfl (by rw [List.getElem?_map, hy1]; rfl) m hm))⟩
/-- A row of them, by its reading. -/
theorem queues_of {H : Type} {enc : TypeId × Value → H} {W : World} {fuel : Nat} {cs : List Value} {y : DataW H × List MemPlace}
    (h : DataW.trod enc Try.prog W 0 (fun _ => true) true fuel 27 cs = some y) : ∃ (ls : List Qu) (A : Option Addr) (c : Nat), cs = [.slice A ls.length c] ∧ (Qus W A ls ∧ ls.length ≤ c ∧ (A = none → c = 0)) ∧ (∀ q, (∀ m ∈ y.1.weights Try.prog 27, m ≤ q) → ∀ x ∈ ls, x.msgs.length ≤ q ∧ ∀ m ∈ x.msgs, m.length ≤ q) := by
  obtain ⟨A, c, rows, hcs, hlc, _, hr, hA, _, hrows⟩ := open_rows_in (size := 6) Try.underlying27 (by kernel_rfl) (by decide) h
  obtain ⟨us, hus, hall⟩ : ∃ us : List (Sl Qu), rows = us.map (fun u => Qu.cells u.1 u.2.1 u.2.2) ∧ ∀ u ∈ us, inM W u.2.1 u.2.2 u.1 ∧ ∀ q, (∀ m ∈ y.1.weights Try.prog 27, m ≤ q) → (fun x : Qu => x.msgs.length ≤ q ∧ ∀ m ∈ x.msgs, m.length ≤ q) u.1 := list_choose_all _ _ _ fun r hr => by
    obtain ⟨_, n, y, hy, hwy⟩ := hrows r hr
    obtain ⟨x, A', c', e, h1, h5⟩ := queue_of hy
    exact ⟨(x, A', c'), e, h1, fun q hq => h5 q (hwy q hq)⟩
  subst hus
  simp only [List.length_map] at hcs hlc
  refine ⟨us.map (·.1), A, c, by rw [List.length_map]; exact hcs, ⟨⟨us, rfl, ?_, fun u hu => (hall u hu).1⟩, by rw [List.length_map]; exact hlc, hA⟩, fun q hq x hx => ?_⟩
  · simpa [flat, List.flatMap] using hr
  · obtain ⟨u, hu, rfl⟩ := List.mem_map.1 hx
    exact (hall u hu).2 q hq
theorem open_world {H : Type} {enc : TypeId × Value → H} {W : World} {v : Value} {dd : DataW H} {p : List MemPlace} {r : Reach} {b0 : Nat} (hv : Value.okWide Try.prog W r b0 29 v)
    (h : DataW.Trod enc Try.prog W 0 (fun _ => true) true 29 v dd p) : ∃ (fr tk ver : Int) (qs : List Qu) (B : Option Addr) (d : Nat) (inp : Msg) (C : Option Addr) (c : Nat), v = .agg #[.int .i64 fr, .int .i64 tk, .int .i64 ver, .slice B qs.length d, .slice C inp.length c] ∧ WIn W B d qs C c inp ∧ (∀ q, (∀ m ∈ dd.weights Try.prog 29, m ≤ q) → ∀ x ∈ qs, x.msgs.length ≤ q ∧ ∀ m ∈ x.msgs, m.length ≤ q) := by
  obtain ⟨cs, rfl, _⟩ := okWide_struct Try.underlying29 hv
  obtain ⟨fuel, hf⟩ := h
  obtain ⟨xs, n, _, hd, hl, hxl, hx⟩ := DataW.trod_struct Try.underlying29 hf
  have hl' : cs.toList.length = 5 := hl
  obtain ⟨l⟩ := cs
  match l, hl' with
  | [a0, a1, a2, a3, a4], _ =>
    have h0 : DataW.trod enc Try.prog W 0 (fun _ => true) true n 3 [a0] = xs[0]? := hx 0 _ rfl
    have h1 : DataW.trod enc Try.prog W 0 (fun _ => true) true n 3 [a1] = xs[1]? := hx 1 _ rfl
    have h2 : DataW.trod enc Try.prog W 0 (fun _ => true) true n 3 [a2] = xs[2]? := hx 2 _ rfl
    have h3 : DataW.trod enc Try.prog W 0 (fun _ => true) true n 27 [a3] = xs[3]? := hx 3 _ rfl
    have h4 : DataW.trod enc Try.prog W 0 (fun _ => true) true n 24 [a4] = xs[4]? := hx 4 _ rfl
    obtain ⟨y0, hy0⟩ : ∃ y, xs[0]? = some y := ⟨_, List.getElem?_eq_getElem (by rw [hxl]; decide)⟩
    rw [hy0] at h0
    obtain ⟨y1, hy1⟩ : ∃ y, xs[1]? = some y := ⟨_, List.getElem?_eq_getElem (by rw [hxl]; decide)⟩
    rw [hy1] at h1
    obtain ⟨y2, hy2⟩ : ∃ y, xs[2]? = some y := ⟨_, List.getElem?_eq_getElem (by rw [hxl]; decide)⟩
    rw [hy2] at h2
    obtain ⟨y3, hy3⟩ : ∃ y, xs[3]? = some y := ⟨_, List.getElem?_eq_getElem (by rw [hxl]; decide)⟩
    rw [hy3] at h3
    obtain ⟨y4, hy4⟩ : ∃ y, xs[4]? = some y := ⟨_, List.getElem?_eq_getElem (by rw [hxl]; decide)⟩
    rw [hy4] at h4
    obtain ⟨z0, e0, _, _⟩ := DataW.trod_int Try.underlying3 h0
    obtain ⟨z1, e1, _, _⟩ := DataW.trod_int Try.underlying3 h1
    obtain ⟨z2, e2, _, _⟩ := DataW.trod_int Try.underlying3 h2
    obtain ⟨qs, B, d', e3, k3, w3⟩ := queues_of h3
    obtain ⟨inp, C, c, e4, j1, j2, j3, j4, j5⟩ := bytes_of h4
    injection e0 with e0 _
    injection e1 with e1 _
    injection e2 with e2 _
    injection e3 with e3 _
    injection e4 with e4 _
    subst e0 e1 e2 e3 e4
    have hdd : dd = .agg (xs.map (·.1)) := congrArg Prod.fst hd
    replace hd := hdd
    exact ⟨z0, z1, z2, qs, B, d', inp, C, c, rfl, ⟨k3.1, k3.2.1, k3.2.2, j3, j1, j4⟩, fun q hw => w3 q (fun m hm => hw m (by rw [hd]; simp only [DataW.weights, Try.underlying29]; exact DataW.weights_mem_each (j := 3) (t := 27) rfl (by rw [List.getElem?_map, hy3]; rfl) m hm))⟩
theorem open_part {H : Type} {enc : TypeId × Value → H} {W : World} {v : Value} {d : DataW H} {p : List MemPlace} {r : Reach} {b0 : Nat} (hv : Value.okWide Try.prog W r b0 26 v)
    (h : DataW.Trod enc Try.prog W 0 (fun _ => true) true 26 v d p) : ∃ (x : Pt) (A : Option Addr) (c : Nat), v = .agg #[.int .i64 x.id, .int .i64 x.size, .bool x.keep, .int .u32 x.r0, .int .u32 x.r1, .int .u32 x.r2, .int .u32 x.r3, .int .u32 x.r4, .int .u32 x.r5, .int .u32 x.r6, .int .u32 x.r7, .int .u32 x.pc, .int .u8 x.st, .slice A x.mem.length c] ∧ (x.mem.length ≤ c ∧ (A = none → c = 0) ∧ Rd W A (bcs x.mem)) ∧ ((0 ≤ x.r0 ∧ x.r0 < 4294967296) ∧ (0 ≤ x.r1 ∧ x.r1 < 4294967296) ∧ 0 ≤ x.r2 ∧ x.r2 < 4294967296) := by
  obtain ⟨cs, rfl, _⟩ := okWide_struct Try.underlying26 hv
  obtain ⟨fuel, hf⟩ := h
  obtain ⟨x, A, c, e, k1, k2, _⟩ := part_of hf
  have hcs : cs.toList = Pt.cells x A c := e
  obtain ⟨l⟩ := cs
  have hl : l = Pt.cells x A c := hcs
  subst hl
  exact ⟨x, A, c, rfl, k1, k2⟩
end Go.Proofs.Ythkkmnckidfmkaa.hy
