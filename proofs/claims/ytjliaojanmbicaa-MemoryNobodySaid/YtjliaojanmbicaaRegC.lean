/- Regions in a slice; each two of them, the one ahead first: the iterator; no condition. -/
import Derived.Test.YtjliaojanmbicaaRows
import Derived.Test.YtjliaojanmbicaaRegB
import Derived.RangeFuncNested
import Derived.RangeFuncLeaves
import Derived.Shelf.Abstract
import Derived.OwnWalkIn
import Derived.TacticsInMore
import Derived.LoopNIn
import Derived.LoopIn
namespace Go.Proofs.Ytjliaojanmbicaa.reg
open Go Go.ChangeShapes Go.WideShapes Go.ChangeAt Go.RowKit Go.Shelf
attribute [local go_sem] Oper.semAt_some
/-! ### The plain part -/
def regCells (l : List Reg) : List Value := l.flatMap fun x => [.int .i64 x.1, .int .i64 x.2]
theorem regCells_length (l : List Reg) : (regCells l).length = l.length * 2 := by
  induction l with
  | nil => rfl
  | cons x l ih => simp only [regCells, List.flatMap_cons, List.length_append, List.length_cons, List.length_nil] at ih ⊢; omega
theorem regCells_at (l : List Reg) (k : Nat) (p : Reg) (h : l[k]? = some p) : (regCells l)[k * 2]? = some (.int .i64 p.1) ∧ (regCells l)[k * 2 + 1]? = some (.int .i64 p.2) := by
  induction l generalizing k with
  | nil => simp at h
  | cons x l ih =>
    cases k with
    | zero => simp at h; subst h; simp [regCells]
    | succ k =>
      have h' : l[k]? = some p := by simpa using h
      have := ih k h'
      simp only [regCells, List.flatMap_cons] at this ⊢
      rw [show (k + 1) * 2 = k * 2 + 2 by omega, show k * 2 + 2 + 1 = (k * 2 + 1) + 2 by omega, List.getElem?_append_right (by simp), List.getElem?_append_right (by simp)]
      simpa using this
theorem regCells_one (l : List Reg) : ∀ u ∈ regCells l, u.oneCell' = true := by
  intro u hu
  simp only [regCells, List.mem_flatMap] at hu
  obtain ⟨x, _, hx⟩ := hu
  simp at hx; rcases hx with rfl | rfl <;> rfl
theorem regCells_append (a b : List Reg) : regCells (a ++ b) = regCells a ++ regCells b := by simp [regCells]
/-- The pairs of the k-th region with the next j ones behind it. -/
def rowOf (l : List Reg) (k j : Nat) : List (Reg × Reg) := (List.range j).map fun m => (l[k]?.getD (0, 0), l[k + 1 + m]?.getD (0, 0))
/-- The pairs whose first one is ahead of place k. -/
def upTo (l : List Reg) : Nat → List (Reg × Reg)
  | 0 => []
  | k + 1 => upTo l k ++ rowOf l k (l.length - (k + 1))
theorem rowOf_zero (l : List Reg) (k : Nat) : rowOf l k 0 = [] := rfl
theorem rowOf_succ (l : List Reg) (k j : Nat) : rowOf l k (j + 1) = rowOf l k j ++ [(l[k]?.getD (0, 0), l[k + 1 + j]?.getD (0, 0))] := by simp [rowOf, List.range_succ]
theorem rowOf_len (l : List Reg) (k j : Nat) : (rowOf l k j).length = j := by simp [rowOf]
theorem upTo_len (l : List Reg) : ∀ k, (upTo l k).length ≤ k * l.length
  | 0 => by simp [upTo]
  | k + 1 => by
    have := upTo_len l k
    simp only [upTo, List.length_append, rowOf_len]
    rw [Nat.add_mul, Nat.one_mul]
    omega
theorem bound (l : List Reg) (k j : Nat) (hk : k < l.length) (hj : j ≤ l.length - (k + 1)) : (upTo l k ++ rowOf l k j).length < l.length * l.length + 1 := by
  have h1 := upTo_len l k
  have h2 := Nat.mul_le_mul_right l.length (show k + 1 ≤ l.length by omega)
  rw [Nat.add_mul, Nat.one_mul] at h2
  rw [List.length_append, rowOf_len]
  omega
def encs (x : Reg × Reg) : Array Value := #[.agg #[.int .i64 x.1.1, .int .i64 x.1.2], .agg #[.int .i64 x.2.1, .int .i64 x.2.2]]
/-! ### What a round must keep -/
/-- All cells of W are cells of W'. -/
def KeepC (W W' : World) : Prop := W.heap.size ≤ W'.heap.size ∧ ∀ (g : Nat) (o : Obj), o.isCells = true → W.heap[g]? = some o → W'.heap[g]? = some o
theorem KeepC.refl (W : World) : KeepC W W := ⟨Nat.le_refl _, fun _ _ _ h => h⟩
theorem keepC_t {A B C : World} (h : KeepC A B) (k : KeepC B C) : KeepC A C := ⟨Nat.le_trans h.1 k.1, fun g o ho hg => k.2 g o ho (h.2 g o ho hg)⟩
theorem keepC_b {w : World} (W : World) (l : Nat) (o o' : Obj) (_ : w.heap.size ≤ l) (h : W.heap[l]? = some o) (hc : o.isCells = false) (_ : o.isWalk = false) : KeepC W (W.putObj l o') := by
  refine ⟨by simp [World.putObj], fun g x hx hg => ?_⟩
  rw [World.putObj_heap_other]
  · exact hg
  · rintro rfl; rw [h] at hg; injection hg with hg; subst hg; rw [hc] at hx; cases hx
theorem KeepC.of_below {W W' : World} (h : Below W.heap.size W W') : KeepC W W' := ⟨h.size, fun g _ _ hg => (h.block g (Array.getElem?_eq_some_iff.1 hg).1).trans hg⟩
theorem KeepC.blk {W W' : World} (h : KeepC W W') {g : Nat} {cs : Array Value} {t : TypeId} (hg : W.heap[g]? = some (.cells cs t (0, 0))) : W'.heap[g]? = some (.cells cs t (0, 0)) := h.2 g _ rfl hg
theorem KeepC.rd {W W' : World} (h : KeepC W W') {A : Option Addr} {xs : List Value} (hr : Rd W A xs) (hx : ∀ u ∈ xs, ∃ z : Int, u = .int .i64 z) : Rd W' A xs := by
  rcases hr with hr | ⟨b, off, rfl, hb, hc⟩
  · exact .inl hr
  · refine .inr ⟨b, off, rfl, Nat.lt_of_lt_of_le hb h.1, fun j u hu => ?_⟩
    have h1 := hc j u hu
    obtain ⟨o, ho⟩ : ∃ o, W.heap[b]? = some o := ⟨_, Array.getElem?_eq_getElem hb⟩
    have hcells : o.isCells = true := by
      cases o with
      | cells cs t fr => rfl
      | _ => exfalso; obtain ⟨z, rfl⟩ := hx u (List.mem_of_getElem? hu); simp [World.cell?, ho] at h1
    have h2 := h.2 b o hcells ho
    rw [← h1]
    simp [World.cell?, ho, h2]
theorem regCells_ints (l : List Reg) : ∀ u ∈ regCells l, ∃ z : Int, u = .int .i64 z := by
  intro u hu
  simp only [regCells, List.mem_flatMap] at hu
  obtain ⟨x, _, hx⟩ := hu
  simp at hx; rcases hx with rfl | rfl <;> exact ⟨_, rfl⟩
/-! ### The iterator -/
set_option maxHeartbeats 400000 in
theorem pairs (A : Option Addr) (n c : Nat) (w : World) : Calls Try.prog 40 #[.slice A n c] w fun e w' => e = .returned (.func (.func 47) #[] #[.pointer (some ⟨w.heap.size, 0, none⟩)]) ∧ w' = w.alloc (.cells #[.slice A n c] 48) := by
  go_enter Try.func40, Try.ntmps40
  go_wp2
  go_ret
  exact ⟨rfl, rfl⟩
set_option maxRecDepth 100000 in
set_option maxHeartbeats 2000000 in
theorem pairs1 (n : Nat) (hn : 1 ≤ n) (lp Bs b off cap : Nat) (l : List Reg) (hcap : l.length ≤ cap) (h63 : l.length ≤ 1000000) (J Jx : List (Reg × Reg) → World → Prop) (W : World) (hJ : AbidesFrom W.heap.size J)
    (hY : ∀ pre x W, J pre W → pre.length < l.length * l.length + 1 → YieldAt Fence.wide (n - 1) Try.prog lp (encs x) W fun e W' =>
      (e = .returned (.bool true) ∧ J (pre ++ [x]) W' ∧ KeepC W W') ∨ (e = .returned (.bool false) ∧ Jx (pre ++ [x]) W'))
    (hBs : W.heap[Bs]? = some (.cells #[.slice (some ⟨b, off, none⟩) l.length cap] 48 (0, 0))) (hr : Rd W (some ⟨b, off, none⟩) (regCells l)) (h0 : J [] W) :
    CallsIn Fence.wide n Try.prog 47 #[.func (.yield lp) #[] #[], .pointer (some ⟨Bs, 0, none⟩)] W fun e W' => (∃ v, e = .returned v) ∧
      ((∃ ys, ys = upTo l l.length ∧ J ys W') ∨ (∃ pre, (∃ k j, k < l.length ∧ j ≤ l.length - (k + 1) ∧ pre = upTo l k ++ rowOf l k j) ∧ Jx pre W')) := by
  refine callsIn_of_wp Try.func47 rfl trivial ?_ rfl
  simp only [Try.ntmps47, List.size_toArray, List.length_cons, List.length_nil, Nat.reduceAdd, Nat.reduceSub, Array.replicate_succ, Array.replicate_zero, List.push_toArray, List.append_toArray, List.nil_append, List.cons_append]
  have hcB := blk_cell hBs 0
  gi_wp2
  clear hcB
  gi_loopw [9] (fun i wr => ∃ k : Nat, k ≤ l.length ∧ i = .int .i64 k ∧ J (upTo l k) wr ∧ KeepC W wr) (fun i _ => l.length - (intOf i).toNat)
  case atStart => exact ⟨0, Nat.zero_le _, rfl, h0, KeepC.refl _⟩
  case round =>
    obtain ⟨wo, rfl⟩ : ∃ wo : World, wo = wr := ⟨_, rfl⟩
    obtain ⟨k, hk, rfl, hJs, hK⟩ := hrel
    by_cases hlt : k < l.length
    · obtain ⟨⟨x, y⟩, hp⟩ : ∃ p, l[k]? = some p := ⟨l[k], List.getElem?_eq_getElem hlt⟩
      have hr1 := hK.rd hr (regCells_ints l)
      have hw := regCells_at l k _ hp
      have c0 := hr1.cell hw.1; have c1 := hr1.cell hw.2
      rw [← Nat.add_assoc] at c1
      have hB1 := blk_alloc (hK.blk hBs) (.cells #[.int .i64 x, .int .i64 y] 52)
      have cB := blk_cell hB1 0
      simp only at c0 c1
      have e1 : (k : Int) + 1 ≤ (l.length : Int) := by omega
      have e2 : (l.length : Int) ≤ 1000000 := by omega
      have e3 : (l.length : Int) ≤ (cap : Int) := by omega
      have e4 : ((k : Int) + 1).toNat = k + 1 := by omega
      have hA1 := blk_new wo #[.int .i64 x, .int .i64 y] 52
      have hJ2 := hJ _ _ _ none hJs (World.grownBy_alloc wo (.cells #[.int .i64 x, .int .i64 y] 52) none) (fun r e => by cases e)
      have hK2 := keepC_t hK (KeepC.of_below ((Below.refl _ wo).alloc (Nat.le_refl _) (.cells #[.int .i64 x, .int .i64 y] 52)))
      have HP := Lib.hid hp; have HA := Lib.hid hA1; have HJ2 := Lib.hid hJ2; have HK2 := Lib.hid hK2
      clear hp hw hA1 hJ2 hK2 hB1 hr1 hJs hK
      by_cases hne : cap = k + 1
      · subst hne
        have e5 : ¬ (0 : Int) < ((l.length - (k + 1) : Nat) : Int) := by omega
        gi_wp2
        gi_loopw [19] (fun i wi => i = .int .i64 0 ∧ wi = wo.alloc (.cells #[.int .i64 x, .int .i64 y] 52)) (fun _ _ => 0)
        case atStart => exact ⟨rfl, rfl⟩
        case round =>
          obtain ⟨rfl, rfl⟩ := hrel
          gi_wp2
          go_roundw
          case rel => exact ⟨k + 1, by omega, by go_num, by have := HJ2.out; rwa [upTo, show l.length - (k + 1) = 0 by omega, rowOf_zero, List.append_nil], HK2.out⟩
          case measure => simp [intOf]; omega
      · gi_wp2
        clear c0 c1 cB
        generalize wo.alloc (.cells #[.int .i64 x, .int .i64 y] 52) = W2 at *
        gi_loopw [19] (fun i wi => ∃ j : Nat, j ≤ l.length - (k + 1) ∧ i = .int .i64 j ∧ J (upTo l k ++ rowOf l k j) wi ∧ KeepC W2 wi) (fun i _ => l.length - (k + 1) - (intOf i).toNat)
        case atStart => exact ⟨0, Nat.zero_le _, rfl, by rw [rowOf_zero, List.append_nil]; exact HJ2.out, KeepC.refl _⟩
        case round =>
          obtain ⟨j, hj, rfl, hJi, hKi⟩ := hrel
          by_cases hjl : j < l.length - (k + 1)
          · obtain ⟨⟨x2, y2⟩, hp2⟩ : ∃ p, l[k + 1 + j]? = some p := ⟨l[k + 1 + j]'(by omega), List.getElem?_eq_getElem (by omega)⟩
            have hr2 := (keepC_t HK2.out hKi).rd hr (regCells_ints l)
            have hw := regCells_at l (k + 1 + j) _ hp2
            have c0 := hr2.cell hw.1; have c1 := hr2.cell hw.2
            rw [← Nat.add_assoc] at c1
            rw [Nat.add_mul, ← Nat.add_assoc] at c0 c1
            simp only at c0 c1
            have hA2 := blk_alloc (hKi.blk HA.out) (.cells #[.int .i64 x2, .int .i64 y2] 52)
            have a0 := blk_cell hA2 0; have a1 := blk_cell hA2 1
            have hJ3 := hJ _ _ _ none hJi (World.grownBy_alloc wr (.cells #[.int .i64 x2, .int .i64 y2] 52) none) (fun r e => by cases e)
            have hKa := keepC_t hKi (KeepC.of_below ((Below.refl _ wr).alloc (Nat.le_refl _) (.cells #[.int .i64 x2, .int .i64 y2] 52)))
            have hst : upTo l k ++ rowOf l k j ++ [((x, y), (x2, y2))] = upTo l k ++ rowOf l k (j + 1) := by rw [rowOf_succ, HP.out, hp2, List.append_assoc]; rfl
            obtain ⟨fn, tmps, assign, body, hy, hR⟩ := hY _ ((x, y), (x2, y2)) _ hJ3 (bound l k j hlt (by omega))
            rw [hst] at hR
            dsimp only [encs] at hy
            have HR := Lib.hid hR; have HKA := Lib.hid hKa
            clear hst hp2 hw hJ3 hJi hKi hr2 hA2 hKa hR
            have q1 : (j : Int) < ((l.length - (k + 1) : Nat) : Int) := by omega
            have q2 : ((l.length - (k + 1) : Nat) : Int) ≤ 1000000 := by omega
            gi_wp2
            refine HR.out.mono ?_
            rintro e W3 (⟨rfl, hJ4, hK4⟩ | ⟨rfl, hJx4⟩)
            · have HJ4 := Lib.hid hJ4; have HK4 := Lib.hid (keepC_t HKA.out hK4); clear hJ4 hK4
              gi_wp2
              go_roundw
              case rel => exact ⟨j + 1, by omega, by go_num, HJ4.out, HK4.out⟩
              case measure => simp [intOf]; omega
            · have HX := Lib.hid hJx4; clear hJx4
              gi_wp2
              refine bodyPost_ret (results_none rfl _ _ _) rfl ?_
              exact ⟨⟨_, rfl⟩, .inr ⟨_, ⟨k, j + 1, hlt, by omega, rfl⟩, HX.out⟩⟩
          · obtain rfl : j = l.length - (k + 1) := by omega
            have HJi := Lib.hid hJi; have HKi := Lib.hid hKi; clear hJi hKi
            gi_wp2
            go_roundw
            case rel => exact ⟨k + 1, by omega, by go_num, HJi.out, keepC_t HK2.out HKi.out⟩
            case measure => simp [intOf]; omega
    · obtain rfl : k = l.length := by omega
      have HJs := Lib.hid hJs; clear hJs
      gi_wp2
      go_end0
      exact ⟨⟨_, rfl⟩, .inl ⟨_, rfl, HJs.out⟩⟩
end Go.Proofs.Ytjliaojanmbicaa.reg
