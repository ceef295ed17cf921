/- Channels, queues, bytes that come in as arguments; no condition. -/
import Derived.Test.YtlmecndldclnnaaRows
import Derived.Test.YtlmecndldclnnaaChB
import Derived.DataShut
import Derived.ChangeSame
namespace Go.Proofs.Ytlmecndldclnnaa.chan
open Go Go.RowKit Go.WideShapes Go.ChangeShapes Go.Proofs.Ytlmecndldclnnaa.rows
theorem own : ownKnob Try.prog.godebug = none := by kernel_rfl
theorem laidOut : laidOutB Try.prog = true := by kernel_rfl
theorem flat_bytes : ∀ l : List UInt8, (l.map fun x => [Value.int .u8 (x.toNat : Int)]).flatten = bcs l
  | [] => rfl
  | a :: l => by simp only [List.map_cons, List.flatten_cons, flat_bytes l]; rfl
/-- A row of bytes, by its reading. -/
theorem bytes_of {H : Type} {enc : TypeId × Value → H} {W : World} {fuel : Nat} {cs : List Value} {y : DataW H × List MemPlace}
    (h : DataW.trod enc Try.prog W 0 (fun _ => true) true fuel 27 cs = some y) : ∃ (l : List UInt8) (A : Option Addr) (c : Nat), cs = [.slice A l.length c] ∧ l.length ≤ c ∧ c ≤ maxLen ∧ Rd W A (bcs l) ∧ (A = none → c = 0) := by
  obtain ⟨A, c, rows, hcs, hlc, hm, hr, hA, hrows⟩ := open_rows (size := 1) Try.underlying27 (by kernel_rfl) (by decide) h
  obtain ⟨l, rfl⟩ : ∃ l : List UInt8, rows = l.map fun x => [Value.int .u8 (x.toNat : Int)] := list_choose _ _ fun r hr => by
    obtain ⟨_, n, y, hy⟩ := hrows r hr
    obtain ⟨b, hb, _, hw⟩ := DataW.trod_int Try.underlying5 hy
    have hk : 0 ≤ b ∧ b ≤ 255 := (Lit.wf_int_iff .u8 b).1 hw
    refine ⟨UInt8.ofNat b.toNat, ?_⟩
    rw [hb]
    have : ((UInt8.ofNat b.toNat).toNat : Int) = b := by simp; omega
    rw [this]
  simp only [List.length_map] at hcs hlc
  refine ⟨l, A, c, hcs, hlc, hm, ?_, hA⟩
  rw [← flat_bytes]
  exact hr
theorem open_bytes {H : Type} {enc : TypeId × Value → H} {W : World} {v : Value} {d : DataW H} {p : List MemPlace} (hv : ∃ a len cap, v = .slice a len cap)
    (h : DataW.Trod enc Try.prog W 0 (fun _ => true) true 27 v d p) : ∃ (l : List UInt8) (A : Option Addr) (c : Nat), v = .slice A l.length c ∧ l.length ≤ c ∧ c ≤ maxLen ∧ Rd W A (bcs l) ∧ (A = none → c = 0) := by
  obtain ⟨a0, n0, c0, rfl⟩ := hv
  obtain ⟨fuel, hf⟩ := h
  obtain ⟨l, A, c, hcs, h1, h2, h3, h4⟩ := bytes_of hf
  have hcs' : [Value.slice a0 n0 c0] = [Value.slice A l.length c] := hcs
  injection hcs' with e
  exact ⟨l, A, c, e, h1, h2, h3, h4⟩
/-- A row of messages, by its reading. -/
theorem msgs_of {H : Type} {enc : TypeId × Value → H} {W : World} {fuel : Nat} {cs : List Value} {y : DataW H × List MemPlace}
    (h : DataW.trod enc Try.prog W 0 (fun _ => true) true fuel 24 cs = some y) : ∃ (ls : List Msg) (A : Option Addr) (c : Nat), cs = [.slice A ls.length c] ∧ ls.length ≤ c ∧ c ≤ maxLen ∧ Rms W A ls ∧ (A = none → c = 0) := by
  obtain ⟨A, c, rows, hcs, hlc, hm, hr, hA, hrows⟩ := open_rows (size := 1) Try.underlying24 (by kernel_rfl) (by decide) h
  obtain ⟨us, hus, hall⟩ : ∃ us : List (Msg × Option Addr × Nat), rows = us.map (fun u => [Value.slice u.2.1 u.1.length u.2.2]) ∧ ∀ u ∈ us, u.1.length ≤ u.2.2 ∧ (u.2.1 = none → u.2.2 = 0) ∧ Rd W u.2.1 (bcs u.1) := list_choose_all _ _ _ fun r hr => by
    obtain ⟨_, n, y, hy⟩ := hrows r hr
    obtain ⟨l, A', c', e, h1, _, h3, h4⟩ := bytes_of hy
    exact ⟨(l, A', c'), e, h1, h4, h3⟩
  subst hus
  have hl : us.length = (us.map fun u => u.1).length := by simp
  simp only [List.length_map] at hcs hlc
  refine ⟨us.map fun u => u.1, A, c, by rw [← hl]; exact hcs, by rw [← hl]; exact hlc, hm, ⟨us.map fun u => Value.slice u.2.1 u.1.length u.2.2, by simp, ?_, fun k l hk => ?_⟩, hA⟩
  · have e : (us.map fun u => [Value.slice u.2.1 u.1.length u.2.2]).flatten = us.map fun u => Value.slice u.2.1 u.1.length u.2.2 := by
      clear hcs hlc hr hrows hall hl
      induction us with
      | nil => rfl
      | cons a us ih => simp only [List.map_cons, List.flatten_cons, ih]; rfl
    rw [e] at hr
    exact hr
  · rw [List.getElem?_map] at hk
    cases hu : us[k]? with
    | none => rw [hu] at hk; cases hk
    | some u =>
      rw [hu] at hk
      have hkl : u.1 = l := by simpa using hk
      subst hkl
      obtain ⟨h1, h2, h3⟩ := hall u (List.mem_of_getElem? hu)
      exact ⟨u.2.1, u.2.2, by rw [List.getElem?_map, hu]; rfl, h1, h2, h3⟩
theorem open_msgs {H : Type} {enc : TypeId × Value → H} {W : World} {v : Value} {d : DataW H} {p : List MemPlace} (hv : ∃ a len cap, v = .slice a len cap)
    (h : DataW.Trod enc Try.prog W 0 (fun _ => true) true 24 v d p) : ∃ (ls : List Msg) (A : Option Addr) (c : Nat), v = .slice A ls.length c ∧ ls.length ≤ c ∧ c ≤ maxLen ∧ Rms W A ls ∧ (A = none → c = 0) := by
  obtain ⟨a0, n0, c0, rfl⟩ := hv
  obtain ⟨fuel, hf⟩ := h
  obtain ⟨l, A, c, hcs, h1, h2, h3, h4⟩ := msgs_of hf
  have hcs' : [Value.slice a0 n0 c0] = [Value.slice A l.length c] := hcs
  injection hcs' with e
  exact ⟨l, A, c, e, h1, h2, h3, h4⟩
/-- A channel, by its reading. -/
theorem chan_of {H : Type} {enc : TypeId × Value → H} {W : World} {fuel : Nat} {cs : List Value} {y : DataW H × List MemPlace}
    (h : DataW.trod enc Try.prog W 0 (fun _ => true) true fuel 23 cs = some y) : ∃ x : Ch, cs = x.cells := by
  obtain ⟨zs, hz, he, _⟩ := open_struct_ints (k := .i64) Try.underlying23 (by kernel_rfl) (by kernel_rfl) h
  match zs, hz with
  | [a, b, c, d, e], _ => exact ⟨⟨a, b, c, d, e⟩, he⟩
theorem open_chan {H : Type} {enc : TypeId × Value → H} {W : World} {v : Value} {d : DataW H} {p : List MemPlace} {r : Reach} {b0 : Nat} (hv : Value.okWide Try.prog W r b0 23 v)
    (h : DataW.Trod enc Try.prog W 0 (fun _ => true) true 23 v d p) : ∃ x : Ch, v = .agg x.cells.toArray := by
  obtain ⟨cs, rfl, _⟩ := okWide_struct Try.underlying23 hv
  obtain ⟨fuel, hf⟩ := h
  obtain ⟨x, hx⟩ := chan_of hf
  have hx' : cs.toList = x.cells := hx
  exact ⟨x, by rw [← hx']⟩
/-- A queue, by its reading. -/
theorem open_queue {H : Type} {enc : TypeId × Value → H} {W : World} {v : Value} {d : DataW H} {p : List MemPlace} {r : Reach} {b0 : Nat} (hv : Value.okWide Try.prog W r b0 26 v)
    (h : DataW.Trod enc Try.prog W 0 (fun _ => true) true 26 v d p) : ∃ (x : Ch) (ls : List Msg) (A : Option Addr) (c : Nat), v = .agg (qcells x A ls.length c) ∧ ls.length ≤ c ∧ c ≤ maxLen ∧ Rms W A ls ∧ (A = none → c = 0) := by
  obtain ⟨cs, rfl, _⟩ := okWide_struct Try.underlying26 hv
  obtain ⟨fuel, hf⟩ := h
  obtain ⟨y0, y1, n, _, hl, h0, h1⟩ := trod_struct2 Try.underlying26 hf
  have hl6 : cs.toList.length = 6 := hl
  obtain ⟨l⟩ := cs
  match l, hl6 with
  | [a0, a1, a2, a3, a4, a5], _ =>
    have h0' : DataW.trod enc Try.prog W 0 (fun _ => true) true n 23 [a0, a1, a2, a3, a4] = some y0 := h0
    have h1' : DataW.trod enc Try.prog W 0 (fun _ => true) true n 24 [a5] = some y1 := h1
    obtain ⟨x, hx⟩ := chan_of h0'
    obtain ⟨ls, A, c, hq, k1, k2, k3, k4⟩ := msgs_of h1'
    injection hq with hq _
    refine ⟨x, ls, A, c, ?_, k1, k2, k3, k4⟩
    unfold Ch.cells at hx
    injection hx with e0 hx
    injection hx with e1 hx
    injection hx with e2 hx
    injection hx with e3 hx
    injection hx with e4 hx
    subst e0; subst e1; subst e2; subst e3; subst e4; subst hq
    rfl
end Go.Proofs.Ytlmecndldclnnaa.chan
