/- Rows of rows of bytes in memory; no condition. -/
import Derived.Test.YthkkmnckidfmkaaRows
import Derived.Test.YthkkmnckidfmkaaLibC
import Derived.Test.YthkkmnckidfmkaaLibOpen
import Derived.Lib.UnsafeStr
import Derived.WalkSpells
import Derived.Laws.OwnMore
import Derived.Laws.IdiomStrings
import Derived.Laws.BytesArg
import Derived.DataShut
namespace Go.Proofs.Ythkkmnckidfmkaa.rows
open Go Go.ChangeShapes Go.WideShapes Go.ChangeAt Go.RowKit
theorem info_byte : (Try.prog.info? 5).map (fun i => (i.zero, i.size, i.bytes)) = some (some (.int .u8 0), 1, 1) := by kernel_rfl
theorem info_row : (Try.prog.info? 24).map (fun i => (i.zero, i.size, i.bytes)) = some (some (.slice none 0 0), 1, 24) := by kernel_rfl
abbrev Msg := List UInt8
abbrev bcs (l : List UInt8) : List Value := Lib.byteCells l
theorem bcs_one (l : List UInt8) : ∀ u ∈ bcs l, u.oneCell' = true := by
  intro u hu; obtain ⟨x, _, rfl⟩ := List.mem_map.1 hu; rfl
theorem bcs_ints (l : List UInt8) : ∀ u ∈ bcs l, ∃ z : Int, u = .int .u8 z := by
  intro u hu; obtain ⟨x, _, rfl⟩ := List.mem_map.1 hu; exact ⟨_, rfl⟩
theorem bcs_length (l : List UInt8) : (bcs l).length = l.length := by simp [bcs, Lib.byteCells]
theorem bcs_at {l : List UInt8} {j : Nat} {x : UInt8} (h : l[j]? = some x) : (bcs l)[j]? = some (.int .u8 (x.toNat : Int)) := by simp [bcs, Lib.byteCells, h]
theorem bcs_take (l : List UInt8) (k : Nat) : (bcs l).take k = bcs (l.take k) := by simp [bcs, Lib.byteCells, List.map_take]
theorem bcs_drop (l : List UInt8) (k : Nat) : (bcs l).drop k = bcs (l.drop k) := by simp [bcs, Lib.byteCells, List.map_drop]
theorem bcs_append (a b : List UInt8) : bcs (a ++ b) = bcs a ++ bcs b := by simp [bcs, Lib.byteCells]
/-- Cells xs, one behind the other, in a block known whole, of element type T, between lo and hi. -/
def RowIn (T : TypeId) (lo hi : Nat) (w : World) (A : Option Addr) (xs : List Value) : Prop :=
  xs = [] ∨ ∃ g off cs, A = some ⟨g, off, none⟩ ∧ lo ≤ g ∧ g < hi ∧ w.heap[g]? = some (.cells cs T (0, 0)) ∧ ∀ (j : Nat) (u : Value), xs[j]? = some u → cs[off + j]? = some u
theorem RowIn.nil {T : TypeId} {lo hi : Nat} {w : World} {A : Option Addr} : RowIn T lo hi w A [] := .inl rfl
theorem RowIn.rd {T : TypeId} {lo hi : Nat} {w : World} {A : Option Addr} {xs : List Value} (h : RowIn T lo hi w A xs) : Rd w A xs := by
  rcases h with h | ⟨g, off, cs, rfl, _, _, hg, hc⟩
  · exact .inl h
  · exact .inr ⟨g, off, rfl, blk_lt hg, fun j u hu => by rw [blk_cell hg]; exact hc j u hu⟩
theorem RowIn.below {T : TypeId} {lo hi B : Nat} {w w' : World} {A : Option Addr} {xs : List Value} (h : RowIn T lo hi w A xs) (hb : Below B w w') (hB : hi ≤ B) : RowIn T lo hi w' A xs := by
  rcases h with h | ⟨g, off, cs, rfl, h1, h2, hg, hc⟩
  · exact .inl h
  · exact .inr ⟨g, off, cs, rfl, h1, h2, blk_below hg hb (by omega), hc⟩
theorem RowIn.mono {T : TypeId} {lo hi lo' hi' : Nat} {w : World} {A : Option Addr} {xs : List Value} (h : RowIn T lo hi w A xs) (h1 : lo' ≤ lo) (h2 : hi ≤ hi') : RowIn T lo' hi' w A xs := by
  rcases h with h | ⟨g, off, cs, rfl, g1, g2, hg, hc⟩
  · exact .inl h
  · exact .inr ⟨g, off, cs, rfl, by omega, by omega, hg, hc⟩
theorem RowIn.far {T U : TypeId} {lo hi : Nat} {w : World} {A : Option Addr} {xs : List Value} (h : RowIn T lo hi w A xs) {g k : Nat} {cs : Array Value} (hg : w.heap[g]? = some (.cells cs U (0, 0))) (hne : T ≠ U) (u : Value) : RowIn T lo hi (w.setCell ⟨g, k, none⟩ u) A xs := by
  rcases h with h | ⟨g', off, cs', rfl, h1, h2, hg', hc⟩
  · exact .inl h
  · refine .inr ⟨g', off, cs', rfl, h1, h2, blk_far hg' (p := ⟨g, k, none⟩) (fun e => ?_) _, hc⟩
    have e' : g' = g := e
    rw [e'] at hg'; rw [hg] at hg'; injection hg' with hg'; injection hg' with _ ht; exact hne ht.symm
theorem RowIn.of_own {T : TypeId} {lo hi n c : Nat} {w : World} {A : Option Addr} {xs : List Value} (h : w.ownsRow lo T 1 (.slice A n c) n xs) (hh : w.heap.size ≤ hi) : RowIn T lo hi w A xs := by
  rcases h.2 with ⟨_, hn⟩ | ⟨g, cap, cur, hv, hlo, hg, hnc, hm, hs, hc⟩
  · exact .inl (List.eq_nil_of_length_eq_zero (by rw [h.1, hn, Nat.zero_mul]))
  · injection hv with hA
    subst hA
    have hlt := (Array.getElem?_eq_some_iff.1 hg).1
    refine .inr ⟨g, 0, cur, rfl, hlo, by omega, hg, fun j u hu => ?_⟩
    rw [← hc, List.getElem?_take] at hu
    split at hu
    · rw [← Array.getElem?_toList, Nat.zero_add]; exact hu
    · cases hu
theorem RowIn.dropAt {T : TypeId} {lo hi g off : Nat} {w : World} {xs : List Value} (h : RowIn T lo hi w (some ⟨g, off, none⟩) xs) (d : Nat) : RowIn T lo hi w (some ⟨g, off + d, none⟩) (xs.drop d) := by
  rcases h with h | ⟨g', off', cs, e, h1, h2, hg, hc⟩
  · exact .inl (by rw [h]; simp)
  · injection e with e; injection e with e1 e2; subst e1; subst e2
    refine .inr ⟨g, off + d, cs, rfl, h1, h2, hg, fun j u hu => ?_⟩
    rw [List.getElem?_drop] at hu
    rw [Nat.add_assoc]; exact hc _ u hu
theorem RowIn.take {T : TypeId} {lo hi : Nat} {w : World} {A : Option Addr} {xs : List Value} (h : RowIn T lo hi w A xs) (d : Nat) : RowIn T lo hi w A (xs.take d) := by
  rcases h with h | ⟨g, off, cs, rfl, h1, h2, hg, hc⟩
  · exact .inl (by rw [h]; simp)
  · refine .inr ⟨g, off, cs, rfl, h1, h2, hg, fun j u hu => hc j u ?_⟩
    rw [List.getElem?_take] at hu
    split at hu
    · exact hu
    · cases hu
theorem RowIn.addr {T : TypeId} {lo hi : Nat} {w : World} {A : Option Addr} {xs : List Value} (h : RowIn T lo hi w A xs) (hn : 0 < xs.length) : ∃ g off, A = some ⟨g, off, none⟩ := by
  rcases h with h | ⟨g, off, cs, rfl, _⟩
  · subst h; simp at hn
  · exact ⟨g, off, rfl⟩
theorem RowIn.bys {lo hi : Nat} {w : World} {A : Option Addr} {l : List UInt8} {g : Nat} (h : RowIn 5 lo hi w A (bcs l)) (hA : A = some ⟨g, 0, none⟩ ∨ l = []) : BysIn 5 lo hi w A l.length := by
  rcases h with h | ⟨g', off, cs, rfl, h1, h2, hg, hc⟩
  · exact .inl (by rw [← bcs_length, h]; rfl)
  · rcases hA with e | rfl
    · injection e with e; injection e with e1 e2; subst e1; subst e2
      refine .inr ⟨g', cs, rfl, h1, h2, hg, fun j hj => ⟨_, (by have := hc j _ (bcs_at (List.getElem?_eq_getElem hj)); rwa [Nat.zero_add] at this)⟩⟩
    · exact .inl rfl
/-! ### Rows of messages -/
/-- A slice of slices that reads as the messages ls. -/
def Rms (w : World) (A : Option Addr) (ls : List Msg) : Prop :=
  ∃ vs : List Value, vs.length = ls.length ∧ Rd w A vs ∧ ∀ (k : Nat) (l : Msg), ls[k]? = some l → ∃ A' c, vs[k]? = some (.slice A' l.length c) ∧ l.length ≤ c ∧ (A' = none → c = 0) ∧ Rd w A' (bcs l)
/-- The same in blocks of the call's own, between lo and hi. -/
def Own2 (lo hi : Nat) (w : World) (A : Option Addr) (ls : List Msg) : Prop :=
  ∃ vs : List Value, vs.length = ls.length ∧ RowIn 24 lo hi w A vs ∧ ∀ (k : Nat) (l : Msg), ls[k]? = some l → ∃ A' c, vs[k]? = some (.slice A' l.length c) ∧ l.length ≤ c ∧ (A' = none → c = 0) ∧ ((∃ g, A' = some ⟨g, 0, none⟩) ∨ l = []) ∧ RowIn 5 lo hi w A' (bcs l)
theorem Rms.nil {w : World} {A : Option Addr} : Rms w A [] := ⟨[], rfl, Rd.nil, fun k l h => by simp at h⟩
theorem Own2.nil {lo hi : Nat} {w : World} {A : Option Addr} : Own2 lo hi w A [] := ⟨[], rfl, .inl rfl, fun k l h => by simp at h⟩
theorem Own2.rows {lo hi : Nat} {w : World} {A : Option Addr} {ls : List Msg} (h : Own2 lo hi w A ls) : Rms w A ls := by
  obtain ⟨vs, h1, h2, h3⟩ := h
  refine ⟨vs, h1, h2.rd, fun k l hk => ?_⟩
  obtain ⟨A', c, e1, e2, e3, _, e4⟩ := h3 k l hk
  exact ⟨A', c, e1, e2, e3, e4.rd⟩
theorem Own2.below {lo hi B : Nat} {w w' : World} {A : Option Addr} {ls : List Msg} (h : Own2 lo hi w A ls) (hb : Below B w w') (hB : hi ≤ B) : Own2 lo hi w' A ls := by
  obtain ⟨vs, h1, h2, h3⟩ := h
  refine ⟨vs, h1, h2.below hb hB, fun k l hk => ?_⟩
  obtain ⟨A', c, e1, e2, e3, e5, e4⟩ := h3 k l hk
  exact ⟨A', c, e1, e2, e3, e5, e4.below hb hB⟩
theorem Own2.mono {lo hi lo' hi' : Nat} {w : World} {A : Option Addr} {ls : List Msg} (h : Own2 lo hi w A ls) (g1 : lo' ≤ lo) (g2 : hi ≤ hi') : Own2 lo' hi' w A ls := by
  obtain ⟨vs, h1, h2, h3⟩ := h
  refine ⟨vs, h1, h2.mono g1 g2, fun k l hk => ?_⟩
  obtain ⟨A', c, e1, e2, e3, e5, e4⟩ := h3 k l hk
  exact ⟨A', c, e1, e2, e3, e5, e4.mono g1 g2⟩
theorem Rms.below {w w' : World} {A : Option Addr} {ls : List Msg} (h : Rms w A ls) (hb : Below w.heap.size w w') : Rms w' A ls := by
  obtain ⟨vs, h1, h2, h3⟩ := h
  refine ⟨vs, h1, h2.below hb, fun k l hk => ?_⟩
  obtain ⟨A', c, e1, e2, e3, e4⟩ := h3 k l hk
  exact ⟨A', c, e1, e2, e3, e4.below hb⟩
theorem Rms.addr {w : World} {A : Option Addr} {ls : List Msg} (h : Rms w A ls) (hn : 0 < ls.length) : ∃ b off, A = some ⟨b, off, none⟩ := by
  obtain ⟨vs, h1, h2, _⟩ := h
  obtain ⟨b, off, e, _⟩ := h2.addr (by omega)
  exact ⟨b, off, e⟩
/-- The k-th message: the slice that lies there, and what it reads as. -/
theorem Rms.at {w : World} {b off : Nat} {ls : List Msg} (h : Rms w (some ⟨b, off, none⟩) ls) {k : Nat} {l : Msg} (hk : ls[k]? = some l) :
    ∃ A' c, w.cell? ⟨b, off + k, none⟩ = some (.slice A' l.length c) ∧ l.length ≤ c ∧ (A' = none → c = 0) ∧ Rd w A' (bcs l) := by
  obtain ⟨vs, h1, h2, h3⟩ := h
  obtain ⟨A', c, e1, e2, e3, e4⟩ := h3 k l hk
  exact ⟨A', c, h2.cell e1, e2, e3, e4⟩
theorem Rms.drop1 {w : World} {b off : Nat} {ls : List Msg} (h : Rms w (some ⟨b, off, none⟩) ls) : Rms w (some ⟨b, off + 1, none⟩) (ls.drop 1) := by
  obtain ⟨vs, h1, h2, h3⟩ := h
  refine ⟨vs.drop 1, by simp [h1], h2.dropAt 1, fun k l hk => ?_⟩
  rw [List.getElem?_drop] at hk
  obtain ⟨A', c, e1, e2, e3, e4⟩ := h3 _ l hk
  exact ⟨A', c, by rw [List.getElem?_drop]; exact e1, e2, e3, e4⟩
theorem Own2.drop1 {lo hi : Nat} {w : World} {b off : Nat} {ls : List Msg} (h : Own2 lo hi w (some ⟨b, off, none⟩) ls) : Own2 lo hi w (some ⟨b, off + 1, none⟩) (ls.drop 1) := by
  obtain ⟨vs, h1, h2, h3⟩ := h
  refine ⟨vs.drop 1, by simp [h1], h2.dropAt 1, fun k l hk => ?_⟩
  rw [List.getElem?_drop] at hk
  obtain ⟨A', c, e1, e2, e3, e5, e4⟩ := h3 _ l hk
  exact ⟨A', c, by rw [List.getElem?_drop]; exact e1, e2, e3, e5, e4⟩
/-- 'string(b)' of a slice that reads as bytes, nil or empty too. -/
theorem str_rd (l : List UInt8) (A : Option Addr) (n c : Nat) (hn : l.length = n) (w : World) (h : Rd w A (bcs l)) : Sem.run Try.prog (convert 24 9 (.slice A n c)) w = .ok (.string ⟨l.toArray⟩) w := by
  subst hn
  rcases A with _ | ad
  · have hl : l = [] := by
      rcases h with h | ⟨b, off, e, _⟩
      · simpa [bcs, Lib.byteCells] using h
      · cases e
    subst hl
    exact run_convert_bytes_nil _ _ _ Try.underlying24 Try.underlying5 _ c _ Try.underlying9
  · exact run_convert_bytes_back w _ _ _ ad c l Try.underlying24 Try.underlying5 Try.underlying9 fun j hj => by
      rcases h with h | ⟨b, off, e, _, hc⟩
      · exfalso
        have : l = [] := by simpa [bcs, Lib.byteCells] using h
        subst this; simp at hj
      · injection e with e
        subst e
        have := hc j _ (bcs_at (List.getElem?_eq_getElem hj))
        rw [Addr.add_lit]; exact this
/-! ### slices.Clone of bytes -/
/-- An own row of bytes with what was appended: a copy. -/
def CopyOf (l : List UInt8) (w : World) (v : Value) (w' : World) : Prop :=
  ∃ A c, v = .slice A l.length c ∧ l.length ≤ c ∧ (A = none → c = 0) ∧ ((∃ g, A = some ⟨g, 0, none⟩) ∨ l = []) ∧ RowIn 5 w.heap.size w'.heap.size w' A (bcs l) ∧ Below w.heap.size w w'
theorem own_form3 {w : World} {base : Nat} {e : TypeId} {n : Nat} {v : Value} {xs : List Value} (h : w.ownsRow base e 1 v n xs) : ∃ A c, v = .slice A n c ∧ n ≤ c ∧ (A = none → c = 0) ∧ ((∃ g, A = some ⟨g, 0, none⟩) ∨ xs = []) ∧ RowIn e base w.heap.size w A xs := by
  have h' := h
  rcases h.2 with ⟨rfl, rfl⟩ | ⟨g, cap, cur, rfl, _, _, hnc, _⟩
  · exact ⟨none, 0, rfl, Nat.le_refl _, fun _ => rfl, .inr (List.eq_nil_of_length_eq_zero (by rw [h.1, Nat.zero_mul])), RowIn.of_own h' (Nat.le_refl _)⟩
  · exact ⟨_, cap, rfl, hnc, (fun h => by cases h), .inl ⟨g, rfl⟩, RowIn.of_own h' (Nat.le_refl _)⟩
theorem own_below {w w' : World} {base : Nat} {e : TypeId} {size n : Nat} {v : Value} {xs : List Value} (h : w.ownsRow base e size v n xs) (hb : Below w.heap.size w w') : w'.ownsRow base e size v n xs := by
  refine ⟨h.1, ?_⟩
  rcases h.2 with hn | ⟨g, cap, cur, rfl, hb0, hgg, rest⟩
  · exact .inl hn
  · exact .inr ⟨g, cap, cur, rfl, hb0, (hb.block g (Array.getElem?_eq_some_iff.1 hgg).1).trans hgg, rest⟩
theorem CopyOf.of_own {l : List UInt8} {w w' : World} {v : Value} (h : w'.ownsRow w.heap.size 5 1 v l.length (bcs l)) (hb : Below w.heap.size w w') : CopyOf l w v w' := by
  obtain ⟨A, c, rfl, h1, h2, h3, h4⟩ := own_form3 h
  refine ⟨A, c, rfl, h1, h2, h3.elim .inl (fun e => .inr ?_), h4, hb⟩
  simpa [bcs, Lib.byteCells] using e
set_option maxHeartbeats 1000000 in
theorem clone (A : Option Addr) (c : Nat) (l : List UInt8) (hA : A = none → c = 0) (hc : l.length ≤ c) (hl : l.length ≤ 1000000) (w : World) (h : Rd w A (bcs l)) : Calls Try.prog 27 #[.slice A l.length c] w fun e w' => ∃ v, e = .returned v ∧ CopyOf l w v w' := by
  rcases A with _ | ad
  · obtain rfl := hA rfl
    have hl0 : l = [] := List.eq_nil_of_length_eq_zero (by omega)
    subst hl0
    have hnil : ∀ W : World, Sem.run Try.prog (binOp BinOp.eql 24 (.slice none 0 0) (.slice none 0 0)) W = .ok (.bool true) W := fun W => Lib.run_eql_slice_nil _ _ _ _ _ _ _ _ Try.underlying24
    clear hA hc hl h
    go_enter Try.func27, Try.ntmps27
    go_wp2
    go_ret
    exact ⟨_, rfl, none, 0, rfl, Nat.le_refl _, fun _ => rfl, .inr rfl, RowIn.nil, Below.refl _ _⟩
  · obtain ⟨i0, hi, hz0, hz1, hz2⟩ := info_parts info_byte
    have hnil : ∀ W : World, Sem.run Try.prog (binOp BinOp.eql 24 (.slice (some ad) l.length c) (.slice none 0 0)) W = .ok (.bool false) W := fun W => Lib.run_eql_slice_nil _ _ _ _ _ _ _ _ Try.underlying24
    have hown : (w.alloc (.cells #[] 5)).ownsRow w.heap.size 5 1 (.slice (some ⟨w.heap.size, 0, none⟩) 0 0) 0 [] := World.ownsRow_lit w #[] 0 (Nat.le_refl _) (by decide) rfl
    have hr2 := h.alloc (.cells #[] 5)
    have hn := bcs_length l
    have h1 := bcs_one l
    have HF := Lib.hid (fun (w' : World) (v : Value) (h1 : w'.ownsRow w.heap.size 5 1 v l.length (bcs l)) (h2 : Below w.heap.size w w') => CopyOf.of_own h1 h2)
    generalize bcs l = xs at *
    generalize hns : l.length = n at *
    have HN := Lib.hid hn; have HL := Lib.hid hl; clear hn hl hns hA hc
    go_enter Try.func27, Try.ntmps27
    go_wp2_with (at_builtin; refine wpList_append_rd _ rfl (.tmp 5) (.tmp 6) 24 rfl w.heap.size 5 i0 (.int .u8 0) 1 1 Try.underlying24 hi hz0 hz1 hz2 rfl (by decide) _ 0 [] rfl hown _ n _ xs rfl (by rw [HN.out]; omega) hr2 h1 ?c3 ?c4 (by simp) ?_)
    case c3 => have := HL.out; unfold maxLen; omega
    case c4 => have := HL.out; omega
    · intro v' w3 hown3 hg
      have HB := Lib.hid (below_own ((Below.refl _ w).alloc (Nat.le_refl _) _) hown hg (by simp) : Below w.heap.size w w3)
      have HO := Lib.hid hown3
      obtain ⟨A', c', rfl, _, _⟩ := own_form hown3
      clear hown3 hg
      go_wp2
      go_ret
      exact ⟨_, rfl, HF.out _ _ (by simpa using HO.out) HB.out⟩
end Go.Proofs.Ythkkmnckidfmkaa.rows
