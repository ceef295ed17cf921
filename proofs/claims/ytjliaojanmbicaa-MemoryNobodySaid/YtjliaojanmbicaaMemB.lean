/- What memory tells of the bytes that are there: one byte, a word, a copy; the law's own copy. -/
import Derived.Test.YtjliaojanmbicaaRows
import Derived.Test.YtjliaojanmbicaaMemA
import Derived.Lib.UnsafeStr
import Derived.WalkSpells
import Derived.Laws.OwnMore
namespace Go.Proofs.Ytjliaojanmbicaa.mem
open Go Go.ChangeShapes Go.WideShapes Go.ChangeAt Go.RowKit
theorem info_byte : (Try.prog.info? 5).map (fun i => (i.zero, i.size, i.bytes)) = some (some (.int .u8 0), 1, 1) := by kernel_rfl
abbrev bcs (l : List UInt8) : List Value := Lib.byteCells l
theorem bcs_one (l : List UInt8) : ∀ u ∈ bcs l, u.oneCell' = true := by
  intro u hu; obtain ⟨x, _, rfl⟩ := List.mem_map.1 hu; rfl
theorem bcs_length (l : List UInt8) : (bcs l).length = l.length := by simp [bcs, Lib.byteCells]
theorem bcs_at {l : List UInt8} {j : Nat} {x : UInt8} (h : l[j]? = some x) : (bcs l)[j]? = some (.int .u8 (x.toNat : Int)) := by simp [bcs, Lib.byteCells, h]
theorem tell1 (b off : Nat) (x : Int) (w : World) (h : w.cell? ⟨b, off, none⟩ = some (.int .u8 x)) : Calls Try.prog 29 #[.slice (some ⟨b, off, none⟩) 1 1] w fun e w' => e = .returned (.int .u8 x) ∧ w' = w := by
  go_enter Try.func29, Try.ntmps29
  go_wp2
  go_ret
  exact ⟨rfl, rfl⟩
/-- An own row of bytes with what was appended: a copy. -/
def CopyOf (l : List UInt8) (w : World) (v : Value) (w' : World) : Prop :=
  ∃ A c, v = .slice A l.length c ∧ w'.ownsRow w.heap.size 5 1 (.slice A l.length c) l.length (bcs l) ∧ Below w.heap.size w w'
set_option maxHeartbeats 1000000 in
theorem clone (ad : Addr) (c : Nat) (l : List UInt8) (hl : l.length ≤ 1000000) (w : World) (h : Rd w (some ad) (bcs l)) : Calls Try.prog 34 #[.slice (some ad) l.length c] w fun e w' => ∃ v, e = .returned v ∧ CopyOf l w v w' := by
  obtain ⟨i0, hi, hz0, hz1, hz2⟩ := info_parts info_byte
  have hnil : ∀ W : World, Sem.run Try.prog (binOp BinOp.eql 22 (.slice (some ad) l.length c) (.slice none 0 0)) W = .ok (.bool false) W := fun W => Lib.run_eql_slice_nil _ _ _ _ _ _ _ _ Try.underlying22
  have hown : (w.alloc (.cells #[] 5)).ownsRow w.heap.size 5 1 (.slice (some ⟨w.heap.size, 0, none⟩) 0 0) 0 [] := World.ownsRow_lit w #[] 0 (Nat.le_refl _) (by decide) rfl
  have hr2 := h.alloc (.cells #[] 5)
  have hn := bcs_length l
  have h1 := bcs_one l
  generalize hxs : bcs l = xs at *
  generalize hns : l.length = n at *
  have HN := Lib.hid hn; have HL := Lib.hid hl; have HX := Lib.hid hxs; have HNS := Lib.hid hns; clear hn hl hxs hns
  go_enter Try.func34, Try.ntmps34
  go_wp2_with (at_builtin; refine wpList_append_rd _ rfl (.tmp 5) (.tmp 6) 22 rfl w.heap.size 5 i0 (.int .u8 0) 1 1 Try.underlying22 hi hz0 hz1 hz2 rfl (by decide) _ 0 [] rfl hown _ n _ xs rfl (by rw [HN.out]; omega) hr2 h1 ?c3 ?c4 ?c5 ?_)
  case c3 => have := HL.out; unfold maxLen; omega
  case c4 => have := HL.out; omega
  case c5 => simp
  · intro v' w3 hown3 hg
    have hb3 : Below w.heap.size w w3 := below_own ((Below.refl _ w).alloc (Nat.le_refl _) _) hown hg (by simp)
    have HB := Lib.hid hb3
    obtain ⟨A', c', rfl, _, _⟩ := own_form hown3
    have HO := Lib.hid hown3
    clear hb3 hown3 hg
    go_wp2
    go_ret
    exact ⟨_, rfl, A', c', by rw [HNS.out]; rfl, by rw [HNS.out, HX.out]; exact HO.out, HB.out⟩
theorem clone_nil (w : World) : Calls Try.prog 34 #[.slice none 0 0] w fun e w' => ∃ v, e = .returned v ∧ CopyOf [] w v w' := by
  have hnil : ∀ W : World, Sem.run Try.prog (binOp BinOp.eql 22 (.slice none 0 0) (.slice none 0 0)) W = .ok (.bool true) W := fun W => Lib.run_eql_slice_nil _ _ _ _ _ _ _ _ Try.underlying22
  go_enter Try.func34, Try.ntmps34
  go_wp2
  go_ret
  exact ⟨_, rfl, none, 0, rfl, World.ownsRow_nil _ _ _ _, Below.refl _ _⟩
/-! ### Load and Read -/
def byteAt (l : List UInt8) (i : Int) : Int := if thereE l.length i 1 = 0 then ((l.getD i.toNat 0).toNat : Int) else 0
def part (l : List UInt8) (i k : Int) : List UInt8 := if thereE l.length i k = 0 then (l.drop i.toNat).take k.toNat else []
theorem there_long {n : Nat} (h : 512 < n) (i k : Int) : thereE n i k = 3 := by simp [thereE, h]
theorem there_out {n : Nat} {i k : Int} (h : n ≤ 512) (h2 : ¬ (0 ≤ i ∧ 0 ≤ k ∧ i + k ≤ n)) : thereE n i k = 180 := by
  unfold thereE; rw [if_neg (by omega), if_neg h2]
theorem there_in {n : Nat} {i k : Int} (h : n ≤ 512) (h2 : 0 ≤ i ∧ 0 ≤ k ∧ i + k ≤ n) : thereE n i k = 0 := by
  unfold thereE; rw [if_neg (by omega), if_pos h2]
theorem load (l : List UInt8) (A : Option Addr) (c : Nat) (hc : l.length ≤ c) (i : Int) (w : World) (h : Rd w A (bcs l)) :
    Calls Try.prog 10 #[.slice A l.length c, .int .i64 i] w fun e w' => e = .returned (.tuple #[.int .u8 (byteAt l i), .int .i64 (thereE l.length i 1)]) ∧ w' = w := by
  have H : Calls Try.prog 28 #[.slice A l.length c, .int .i64 i, .int .i64 1, .func (.func 29) #[] #[]] w fun e w' => e = .returned (.tuple #[.int .u8 (byteAt l i), .int .i64 (thereE l.length i 1)]) ∧ w' = w := by
    by_cases h1 : 512 < l.length
    · have e := there_long h1 i 1
      rw [show byteAt l i = 0 by unfold byteAt; rw [e]; rfl, e]
      exact within8_long _ _ _ _ _ _ h1 w
    · by_cases h2 : 0 ≤ i ∧ 0 ≤ (1 : Int) ∧ i + 1 ≤ l.length
      · have e := there_in (by omega) h2
        obtain ⟨a, rfl⟩ := Int.eq_ofNat_of_zero_le h2.1
        obtain ⟨x, hx⟩ : ∃ x, l[a]? = some x := ⟨l[a]'(by omega), List.getElem?_eq_getElem (by omega)⟩
        rw [show byteAt l a = (x.toNat : Int) by unfold byteAt; rw [if_pos e]; simp [List.getD, hx], e]
        obtain ⟨b, off, rfl, _⟩ := h.addr (by rw [bcs_length]; omega)
        have hcell := h.cell (bcs_at hx)
        refine (within8_pos (fun v w' => v = .int .u8 (x.toNat : Int) ∧ w' = w) b off a 1 l.length c (by omega) hc (by omega) (by decide) w ((tell1 b (off + a) _ w hcell).mono fun e w' ⟨he, hw⟩ => ⟨_, he, rfl, hw⟩)).mono ?_
        rintro e w' ⟨v, rfl, rfl, rfl⟩
        exact ⟨rfl, rfl⟩
      · have e := there_out (by omega) h2
        rw [show byteAt l i = 0 by unfold byteAt; rw [e]; rfl, e]
        exact within8_out _ _ _ _ _ _ (by omega) h2 w
  have HH := Lib.hid H; clear H
  generalize byteAt l i = x at *
  generalize thereE l.length i 1 = y at *
  generalize l.length = n at *
  go_enter Try.func10, Try.ntmps10
  go_wp2_with fail
  refine HH.out.mono ?_
  rintro e w1 ⟨rfl, rfl⟩
  go_wp2
  refine bodyPost_ret (v := .tuple #[.int .u8 x, .int .i64 y]) (by simp [results, Try.results10, go_sem]) rfl ⟨rfl, rfl⟩
theorem read (l : List UInt8) (A : Option Addr) (c : Nat) (hA : A = none → c = 0) (hc : l.length ≤ c) (i k : Int) (w : World) (h : Rd w A (bcs l)) :
    Calls Try.prog 14 #[.slice A l.length c, .int .i64 i, .int .i64 k] w fun e w' => ∃ v, e = .returned (.tuple #[v, .int .i64 (thereE l.length i k)]) ∧ CopyOf (part l i k) w v w' := by
  have H : Calls Try.prog 33 #[.slice A l.length c, .int .i64 i, .int .i64 k, .func (.func 34) #[] #[]] w fun e w' => ∃ v, e = .returned (.tuple #[v, .int .i64 (thereE l.length i k)]) ∧ CopyOf (part l i k) w v w' := by
    have hempty : CopyOf [] w (.slice none 0 0) w := ⟨none, 0, rfl, World.ownsRow_nil _ _ _ _, Below.refl _ _⟩
    by_cases h1 : 512 < l.length
    · have e := there_long h1 i k
      rw [show part l i k = [] by unfold part; rw [e]; rfl, e]
      exact (withinB_long _ _ _ _ _ _ h1 w).mono fun e w' ⟨he, hw⟩ => ⟨_, he, hw ▸ hempty⟩
    · by_cases h2 : 0 ≤ i ∧ 0 ≤ k ∧ i + k ≤ l.length
      · have e := there_in (by omega) h2
        obtain ⟨a, rfl⟩ := Int.eq_ofNat_of_zero_le h2.1
        obtain ⟨q, rfl⟩ := Int.eq_ofNat_of_zero_le h2.2.1
        rw [show part l a q = (l.drop a).take q by unfold part; rw [if_pos e]; simp, e]
        have hlen : ((l.drop a).take q).length = q := by simp; omega
        rcases A with _ | ⟨b, off, f⟩
        · have hc0 := hA rfl
          obtain rfl : q = 0 := by omega
          rw [List.take_zero]
          exact withinB_none0 _ a 0 _ c (by omega) hc hc0 (by omega) w (clone_nil w)
        · by_cases hq : q = 0
          · subst hq
            rw [List.take_zero]
            exact withinB_some0 _ ⟨b, off, f⟩ a _ c (by omega) hc (by omega) w (clone ⟨b, off, f⟩ 0 [] (by simp) w Rd.nil)
          · obtain ⟨b', off', hA', _⟩ := h.addr (by rw [bcs_length]; omega)
            injection hA' with hA'
            injection hA' with _ _ hf
            subst hf
            have hsub : Rd w (some ⟨b, off + a, none⟩) (bcs ((l.drop a).take q)) := by
              have := (h.dropAt a).take q
              simpa [bcs, Lib.byteCells, List.map_drop, List.map_take] using this
            have hcl := clone ⟨b, off + a, none⟩ q ((l.drop a).take q) (by omega) w hsub
            rw [hlen] at hcl
            exact withinB_pos _ b off a q _ c (by omega) hc (by omega) hq w hcl
      · have e := there_out (by omega) h2
        rw [show part l i k = [] by unfold part; rw [e]; rfl, e]
        exact (withinB_out _ _ _ _ _ _ (by omega) h2 w).mono fun e w' ⟨he, hw⟩ => ⟨_, he, hw ▸ hempty⟩
  have HH := Lib.hid H; clear H
  generalize part l i k = x at *
  generalize thereE l.length i k = y at *
  generalize l.length = n at *
  go_enter Try.func14, Try.ntmps14
  go_wp2_with fail
  refine HH.out.mono ?_
  rintro e w1 ⟨v, rfl, hv⟩
  have HV := Lib.hid hv; clear hv
  go_wp2
  refine bodyPost_ret (v := .tuple #[v, .int .i64 y]) (by simp [results, Try.results14, go_sem]) rfl ⟨_, rfl, HV.out⟩
end Go.Proofs.Ytjliaojanmbicaa.mem
