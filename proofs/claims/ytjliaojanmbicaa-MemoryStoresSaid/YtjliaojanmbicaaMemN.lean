/- memory.Write, Store, Store32. -/
import Derived.Test.YtjliaojanmbicaaRows
import Derived.Test.YtjliaojanmbicaaMemM
namespace Go.Proofs.Ytjliaojanmbicaa.mem
open Go Go.ChangeShapes Go.WideShapes Go.ChangeAt Go.RowKit
/-- The memory with the bytes b written from place i on; nothing where they do not fit. -/
def written (l b : List UInt8) (i : Int) : List UInt8 := if thereE l.length i b.length = 0 then l.take i.toNat ++ b ++ l.drop (i.toNat + b.length) else []
theorem copy_eq {l l' : List UInt8} {w w' : World} {v : Value} (h : CopyOf l w v w') (e : l = l') : CopyOf l' w v w' := e ▸ h
theorem bcs_take (l : List UInt8) (k : Nat) : (bcs l).take k = bcs (l.take k) := by simp [bcs, Lib.byteCells, List.map_take]
theorem bcs_drop (l : List UInt8) (k : Nat) : (bcs l).drop k = bcs (l.drop k) := by simp [bcs, Lib.byteCells, List.map_drop]
theorem tell_in (l b : List UInt8) (s0 : Value) (bb off c d a b1 b2 b3 : Nat) (A2 : Option Addr) (hn0 : 0 < l.length) (hn : l.length ≤ 512) (hc : l.length ≤ c) (ha : a + b.length ≤ l.length) (w : World) (h : Rd w (some ⟨bb, off, none⟩) (bcs l)) (h2 : Rd w A2 (bcs b))
    (k1 : w.cell? ⟨b1, 0, none⟩ = some (.slice (some ⟨bb, off, none⟩) l.length c)) (k2 : w.cell? ⟨b2, 0, none⟩ = some (.int .i64 a)) (k3 : w.cell? ⟨b3, 0, none⟩ = some (.slice A2 b.length d)) :
    Calls Try.prog 35 #[s0, .pointer (some ⟨b1, 0, none⟩), .pointer (some ⟨b2, 0, none⟩), .pointer (some ⟨b3, 0, none⟩)] w fun e w' => ∃ v, e = .returned v ∧ CopyOf (l.take a ++ b ++ l.drop (a + b.length)) w v w' := by
  have r1 : Rd w (some ⟨bb, off, none⟩) (bcs (l.take a)) := by rw [← bcs_take]; exact h.take a
  by_cases hne : c = a + b.length
  · have hd : l.drop (a + b.length) = [] := List.drop_eq_nil_of_le (by omega)
    rw [hd]
    have hcl : c = l.length := by omega
    refine wtell_end (l.take a) b s0 b1 b2 b3 bb off a b.length c d A2 (by simp; omega) rfl hne.symm (by omega) (by omega) w ?_ k2 k3 h2 r1
    rw [k1, hcl]
  · refine wtell (l.take a) b (l.drop (a + b.length)) s0 b1 b2 b3 bb off a l.length c b.length d A2 (by simp; omega) (by simp; omega) rfl (by omega) hc hne w k1 k2 k3 r1 h2 ?_
    rw [← bcs_drop]; exact h.dropAt _
theorem within_write (l b : List UInt8) (A A2 : Option Addr) (c d : Nat) (hA : A = none → c = 0) (hc : l.length ≤ c) (i : Int) (b1 b2 b3 : Nat) (w : World) (h : Rd w A (bcs l)) (h2 : Rd w A2 (bcs b))
    (k1 : w.cell? ⟨b1, 0, none⟩ = some (.slice A l.length c)) (k2 : w.cell? ⟨b2, 0, none⟩ = some (.int .i64 i)) (k3 : w.cell? ⟨b3, 0, none⟩ = some (.slice A2 b.length d)) :
    Calls Try.prog 33 #[.slice A l.length c, .int .i64 i, .int .i64 b.length, .func (.func 35) #[] #[.pointer (some ⟨b1, 0, none⟩), .pointer (some ⟨b2, 0, none⟩), .pointer (some ⟨b3, 0, none⟩)]] w fun e w' =>
      ∃ v, e = .returned (.tuple #[v, .int .i64 (thereE l.length i b.length)]) ∧ CopyOf (written l b i) w v w' := by
  have hempty : CopyOf [] w (.slice none 0 0) w := ⟨none, 0, rfl, World.ownsRow_nil _ _ _ _, Below.refl _ _⟩
  by_cases h1 : 512 < l.length
  · have e := there_long h1 i b.length
    rw [show written l b i = [] by unfold written; rw [e]; rfl, e]
    exact (withinB_long _ _ _ _ _ _ h1 w).mono fun e w' ⟨he, hw⟩ => ⟨_, he, hw ▸ hempty⟩
  · by_cases h3 : 0 ≤ i ∧ 0 ≤ (b.length : Int) ∧ i + b.length ≤ l.length
    · have e := there_in (by omega) h3
      obtain ⟨a, rfl⟩ := Int.eq_ofNat_of_zero_le h3.1
      rw [show written l b a = l.take a ++ b ++ l.drop (a + b.length) by unfold written; rw [if_pos e]; simp, e]
      by_cases hn : l.length = 0
      · have hl : l = [] := List.eq_nil_of_length_eq_zero hn
        have hb : b = [] := List.eq_nil_of_length_eq_zero (by omega)
        subst hl; subst hb
        obtain rfl : a = 0 := by simp at h3; omega
        rcases A with _ | ⟨bb, off, f⟩
        · obtain rfl := hA rfl
          exact withinW_none _ b1 b2 b3 w (wtell_none _ b1 b2 b3 d A2 w k1 k2 k3)
        · by_cases hc0 : c = 0
          · subst hc0
            exact withinW_some _ ⟨bb, off, f⟩ 0 0 0 (by omega) (by omega) (by omega) b1 b2 b3 w (wtell_cap0 ⟨bb, off, f⟩ _ b1 b2 b3 d A2 w k1 k2 k3)
          · exact withinW_some _ ⟨bb, off, f⟩ 0 0 c (by omega) (by omega) (by omega) b1 b2 b3 w (wtell_some bb off c f hc0 _ b1 b2 b3 d A2 w k1 k2 k3)
      · obtain ⟨bb, off, rfl, _⟩ := h.addr (by rw [bcs_length]; omega)
        by_cases hq : b.length = 0
        · have T := tell_in l b (.slice (some ⟨bb, off, none⟩) 0 0) bb off c d a b1 b2 b3 A2 (by omega) (by omega) hc (by omega) w h h2 k1 k2 k3
          rw [hq]
          rw [hq] at T
          exact withinW_some _ ⟨bb, off, none⟩ a l.length c (by omega) hc (by omega) b1 b2 b3 w T
        · exact withinW_pos _ bb off a b.length l.length c (by omega) hc (by omega) hq b1 b2 b3 w (tell_in l b _ bb off c d a b1 b2 b3 A2 (by omega) (by omega) hc (by omega) w h h2 k1 k2 k3)
    · have e := there_out (by omega) h3
      rw [show written l b i = [] by unfold written; rw [e]; rfl, e]
      exact (withinB_out _ _ _ _ _ _ (by omega) h3 w).mono fun e w' ⟨he, hw⟩ => ⟨_, he, hw ▸ hempty⟩
theorem got_down {f : FuncId} {args : Array Value} {l : List UInt8} {y : Int} {w X : World} (hX : Below w.heap.size w X)
    (h : Calls Try.prog f args X fun e w' => ∃ v, e = .returned (.tuple #[v, .int .i64 y]) ∧ CopyOf l X v w') : Calls Try.prog f args X fun e w' => ∃ v, e = .returned (.tuple #[v, .int .i64 y]) ∧ CopyOf l w v w' :=
  h.mono fun _ _ ⟨v, he, hv⟩ => ⟨v, he, copy_down hX hv⟩
theorem write (l b : List UInt8) (A A2 : Option Addr) (c d : Nat) (hA : A = none → c = 0) (hc : l.length ≤ c) (i : Int) (w : World) (h : Rd w A (bcs l)) (h2 : Rd w A2 (bcs b)) :
    Calls Try.prog 17 #[.slice A l.length c, .int .i64 i, .slice A2 b.length d] w fun e w' => ∃ v, e = .returned (.tuple #[v, .int .i64 (thereE l.length i b.length)]) ∧ CopyOf (written l b i) w v w' := by
  have g1 : (((w.alloc (.cells #[.slice A l.length c] 22)).alloc (.cells #[.int .i64 i] 3)).alloc (.cells #[.slice A2 b.length d] 22)).heap[w.heap.size]? = some (.cells #[.slice A l.length c] 22 (0, 0)) := blk_alloc (blk_alloc (blk_new w _ _) _) _
  have g2 : (((w.alloc (.cells #[.slice A l.length c] 22)).alloc (.cells #[.int .i64 i] 3)).alloc (.cells #[.slice A2 b.length d] 22)).heap[w.heap.size + 1]? = some (.cells #[.int .i64 i] 3 (0, 0)) := by
    have := blk_alloc (blk_new (w.alloc (.cells #[.slice A l.length c] 22)) #[.int .i64 i] 3) (.cells #[.slice A2 b.length d] 22)
    simpa using this
  have g3 : (((w.alloc (.cells #[.slice A l.length c] 22)).alloc (.cells #[.int .i64 i] 3)).alloc (.cells #[.slice A2 b.length d] 22)).heap[w.heap.size + 1 + 1]? = some (.cells #[.slice A2 b.length d] 22 (0, 0)) := by
    have := blk_new ((w.alloc (.cells #[.slice A l.length c] 22)).alloc (.cells #[.int .i64 i] 3)) #[.slice A2 b.length d] 22
    simpa using this
  have hX : Below w.heap.size w (((w.alloc (.cells #[.slice A l.length c] 22)).alloc (.cells #[.int .i64 i] 3)).alloc (.cells #[.slice A2 b.length d] 22)) := (((Below.refl _ _).alloc (Nat.le_refl _) _).alloc (by simp) _).alloc (by simp; omega) _
  have T := got_down hX <| within_write l b A A2 c d hA hc i w.heap.size (w.heap.size + 1) (w.heap.size + 1 + 1) _ (h.below hX) (h2.below hX) (blk_cell g1 0) (blk_cell g2 0) (blk_cell g3 0)
  have HT := Lib.hid T; clear T g1 g2 g3 hX h h2 hA hc
  generalize written l b i = x at *
  generalize thereE l.length i b.length = y at *
  generalize l.length = n at *
  generalize b.length = m at *
  go_enter Try.func17, Try.ntmps17
  go_wp2_with fail
  refine HT.out.mono ?_
  rintro e w1 ⟨v, rfl, hv⟩
  have HV := Lib.hid hv; clear hv
  go_wp2
  refine bodyPost_ret (v := .tuple #[v, .int .i64 y]) (by simp [results, Try.results17, go_sem]) rfl ⟨_, rfl, HV.out⟩
theorem store (l : List UInt8) (A : Option Addr) (c : Nat) (hA : A = none → c = 0) (hc : l.length ≤ c) (i : Int) (x : UInt8) (w : World) (h : Rd w A (bcs l)) :
    Calls Try.prog 19 #[.slice A l.length c, .int .i64 i, .int .u8 (x.toNat : Int)] w fun e w' => ∃ v, e = .returned (.tuple #[v, .int .i64 (thereE l.length i 1)]) ∧ CopyOf (written l [x] i) w v w' := by
  have hX : Below w.heap.size w (w.alloc (.cells #[.int .u8 (x.toNat : Int)] 5)) := (Below.refl _ _).alloc (Nat.le_refl _) _
  have T := got_down hX <| write l [x] A (some ⟨w.heap.size, 0, none⟩) c 1 hA hc i _ (h.below hX) (Rd.new w #[.int .u8 (x.toNat : Int)] 5)
  rw [show [x].length = 1 from rfl] at T
  have HT := Lib.hid T; clear T hX h hA hc
  generalize written l [x] i = z at *
  generalize thereE l.length i 1 = y at *
  generalize l.length = n at *
  generalize (x.toNat : Int) = xi at *
  go_enter Try.func19, Try.ntmps19
  go_wp2_with fail
  refine HT.out.mono ?_
  rintro e w1 ⟨v, rfl, hv⟩
  have HV := Lib.hid hv; clear hv
  go_wp2
  refine bodyPost_ret (v := .tuple #[v, .int .i64 y]) (by simp [results, Try.results19, go_sem]) rfl ⟨_, rfl, HV.out⟩
end Go.Proofs.Ytjliaojanmbicaa.mem
