/- memory.within at its three types: what it tells where n bytes are there, and where they are not and what belongs to it. -/
import Derived.Test.YthkkmnckidfmkaaRows
import Derived.Test.YthkkmnckidfmkaaLibOpen
import Derived.Lib.UnsafeStr
import Derived.WalkSpells
import Derived.Laws.OwnMore
import Derived.Laws.BitsAllLaws
import Derived.Laws.IdiomStrings
import Derived.Laws.BytesArg
import Derived.Laws.CopyOwn
import Derived.Laws.MakeOwn
import Derived.Lib.AppendZerosOnto
import Derived.Lib.SliceRun
import Derived.Laws.Append
import Derived.LoopN
namespace Go.Proofs.Ythkkmnckidfmkaa.mem
open Go Go.ChangeShapes Go.WideShapes Go.ChangeAt Go.RowKit
/-- The address of the part that begins at a and has q bytes. -/
def sub (A : Option Addr) (a q : Nat) : Option Addr := if q = 0 then A else A.map (·.add a)
theorem sub_zero (A : Option Addr) (a : Nat) : sub A a 0 = A := rfl
theorem sub_pos (b off a q : Nat) (h : ¬ q = 0) : sub (some ⟨b, off, none⟩) a q = some ⟨b, off + a, none⟩ := by simp [sub, h, Addr.add]
def thereE (n : Nat) (i k : Int) : Int := if 512 < n then 3 else if 0 ≤ i ∧ 0 ≤ k ∧ i + k ≤ n then 0 else 180
theorem withinB_long (G : Value) (i k : Int) (n c : Nat) (A : Option Addr) (h : 512 < n) (w : World) : Calls Try.prog 51 #[.slice A n c, .int .i64 i, .int .i64 k, G] w fun e w' => e = .returned (.tuple #[.slice none 0 0, .int .i64 3]) ∧ w' = w := by
  have h1 : (512 : Int) < (n : Int) := by omega
  go_enter Try.func51, Try.ntmps51
  go_wp2
  refine bodyPost_ret (v := .tuple #[.slice none 0 0, .int .i64 3]) (by simp [results, Try.results51, go_sem]) rfl ⟨rfl, rfl⟩
theorem withinB_out0 (G : Value) (i k : Int) (n c : Nat) (A : Option Addr) (hn : n ≤ 512) (h : i < 0) (w : World) : Calls Try.prog 51 #[.slice A n c, .int .i64 i, .int .i64 k, G] w fun e w' => e = .returned (.tuple #[.slice none 0 0, .int .i64 180]) ∧ w' = w := by
  have h1 : ¬ (512 : Int) < (n : Int) := by omega
  go_enter Try.func51, Try.ntmps51
  go_wp2
  refine bodyPost_ret (v := .tuple #[.slice none 0 0, .int .i64 180]) (by simp [results, Try.results51, go_sem]) rfl ⟨rfl, rfl⟩
theorem withinB_out1 (G : Value) (i k : Int) (n c : Nat) (A : Option Addr) (hn : n ≤ 512) (h : ¬ i < 0 ∧ k < 0) (w : World) : Calls Try.prog 51 #[.slice A n c, .int .i64 i, .int .i64 k, G] w fun e w' => e = .returned (.tuple #[.slice none 0 0, .int .i64 180]) ∧ w' = w := by
  have h1 : ¬ (512 : Int) < (n : Int) := by omega
  have h2 := h.1; have h3 := h.2; clear h
  go_enter Try.func51, Try.ntmps51
  go_wp2
  refine bodyPost_ret (v := .tuple #[.slice none 0 0, .int .i64 180]) (by simp [results, Try.results51, go_sem]) rfl ⟨rfl, rfl⟩
theorem withinB_out2 (G : Value) (i k : Int) (n c : Nat) (A : Option Addr) (hn : n ≤ 512) (h : ¬ i < 0 ∧ ¬ k < 0 ∧ (n : Int) < i) (w : World) : Calls Try.prog 51 #[.slice A n c, .int .i64 i, .int .i64 k, G] w fun e w' => e = .returned (.tuple #[.slice none 0 0, .int .i64 180]) ∧ w' = w := by
  have h1 : ¬ (512 : Int) < (n : Int) := by omega
  have h2 := h.1; have h3 := h.2.1; have h4 := h.2.2; clear h
  go_enter Try.func51, Try.ntmps51
  go_wp2
  refine bodyPost_ret (v := .tuple #[.slice none 0 0, .int .i64 180]) (by simp [results, Try.results51, go_sem]) rfl ⟨rfl, rfl⟩
theorem withinB_out3 (G : Value) (i k : Int) (n c : Nat) (A : Option Addr) (hn : n ≤ 512) (h : ¬ i < 0 ∧ ¬ k < 0 ∧ ¬ (n : Int) < i ∧ (n : Int) - i < k) (w : World) : Calls Try.prog 51 #[.slice A n c, .int .i64 i, .int .i64 k, G] w fun e w' => e = .returned (.tuple #[.slice none 0 0, .int .i64 180]) ∧ w' = w := by
  have h1 : ¬ (512 : Int) < (n : Int) := by omega
  have h2 := h.1; have h3 := h.2.1; have h4 := h.2.2.1; have h5 := h.2.2.2; clear h
  go_enter Try.func51, Try.ntmps51
  go_wp2
  refine bodyPost_ret (v := .tuple #[.slice none 0 0, .int .i64 180]) (by simp [results, Try.results51, go_sem]) rfl ⟨rfl, rfl⟩
theorem withinB_out (G : Value) (i k : Int) (n c : Nat) (A : Option Addr) (hn : n ≤ 512) (h : ¬ (0 ≤ i ∧ 0 ≤ k ∧ i + k ≤ n)) (w : World) : Calls Try.prog 51 #[.slice A n c, .int .i64 i, .int .i64 k, G] w fun e w' => e = .returned (.tuple #[.slice none 0 0, .int .i64 180]) ∧ w' = w := by
  by_cases g0 : i < 0
  · exact withinB_out0 G i k n c A hn g0 w
  by_cases g1 : k < 0
  · exact withinB_out1 G i k n c A hn ⟨g0, g1⟩ w
  by_cases g2 : (n : Int) < i
  · exact withinB_out2 G i k n c A hn ⟨g0, g1, g2⟩ w
  · exact withinB_out3 G i k n c A hn ⟨g0, g1, g2, by omega⟩ w
set_option maxHeartbeats 1000000 in
theorem withinB_none0 (Q : Value → World → Prop) (a q n c : Nat) (hn : n ≤ 512) (hc : n ≤ c) (hz : c = 0) (h : a + q ≤ n) (w : World) (hf : Calls Try.prog 27 #[.slice none 0 0] w fun e w' => ∃ v, e = .returned v ∧ Q v w') :
    Calls Try.prog 51 #[.slice none n c, .int .i64 a, .int .i64 q, .func (.func 27) #[] #[]] w fun e w' => ∃ v, e = .returned (.tuple #[v, .int .i64 0]) ∧ Q v w' := by
  have e1 : ¬ (512 : Int) < (n : Int) := by omega
  have e2 : ¬ (a : Int) < 0 := by omega
  have e3 : ¬ (q : Int) < 0 := by omega
  have e4 : ¬ (n : Int) < (a : Int) := by omega
  have e5 : ¬ (n : Int) - (a : Int) < (q : Int) := by omega
  have e6 : (a : Int) + (q : Int) ≤ (n : Int) := by omega
  have e7 : (n : Int) ≤ (c : Int) := by omega
  obtain rfl : c = 0 := hz
  obtain rfl : n = 0 := by omega
  obtain rfl : a = 0 := by omega
  obtain rfl : q = 0 := by omega
  clear e1 e2 e3 e4 e5 e6 e7
  have HF := Lib.hid hf; clear hf
  go_enter Try.func51, Try.ntmps51
  go_wp2_with fail
  refine HF.out.mono ?_
  rintro e w1 ⟨v, rfl, hq⟩
  have HQ := Lib.hid hq; clear hq
  go_wp2
  refine bodyPost_ret (v := .tuple #[v, .int .i64 0]) (by simp [results, Try.results51, go_sem]) rfl ⟨v, rfl, HQ.out⟩
set_option maxHeartbeats 1000000 in
theorem withinB_some0 (Q : Value → World → Prop) (ad : Addr) (a n c : Nat) (hn : n ≤ 512) (hc : n ≤ c) (h : a ≤ n) (w : World) (hf : Calls Try.prog 27 #[.slice (some ad) 0 0] w fun e w' => ∃ v, e = .returned v ∧ Q v w') :
    Calls Try.prog 51 #[.slice (some ad) n c, .int .i64 a, .int .i64 0, .func (.func 27) #[] #[]] w fun e w' => ∃ v, e = .returned (.tuple #[v, .int .i64 0]) ∧ Q v w' := by
  have e1 : ¬ (512 : Int) < (n : Int) := by omega
  have e2 : ¬ (a : Int) < 0 := by omega
  have e4 : ¬ (n : Int) < (a : Int) := by omega
  have e5 : ¬ (n : Int) - (a : Int) < 0 := by omega
  have e6 : (a : Int) ≤ (n : Int) := by omega
  have e7 : (n : Int) ≤ (c : Int) := by omega
  have HF := Lib.hid hf; clear hf
  go_enter Try.func51, Try.ntmps51
  go_wp2_with fail
  refine HF.out.mono ?_
  rintro e w1 ⟨v, rfl, hq⟩
  have HQ := Lib.hid hq; clear hq
  go_wp2
  refine bodyPost_ret (v := .tuple #[v, .int .i64 0]) (by simp [results, Try.results51, go_sem]) rfl ⟨v, rfl, HQ.out⟩
set_option maxHeartbeats 1000000 in
theorem withinB_pos (Q : Value → World → Prop) (b off a q n c : Nat) (hn : n ≤ 512) (hc : n ≤ c) (h : a + q ≤ n) (h0 : ¬ q = 0) (w : World) (hf : Calls Try.prog 27 #[.slice (some ⟨b, off + a, none⟩) q q] w fun e w' => ∃ v, e = .returned v ∧ Q v w') :
    Calls Try.prog 51 #[.slice (some ⟨b, off, none⟩) n c, .int .i64 a, .int .i64 q, .func (.func 27) #[] #[]] w fun e w' => ∃ v, e = .returned (.tuple #[v, .int .i64 0]) ∧ Q v w' := by
  have e1 : ¬ (512 : Int) < (n : Int) := by omega
  have e2 : ¬ (a : Int) < 0 := by omega
  have e3 : ¬ (q : Int) < 0 := by omega
  have e4 : ¬ (n : Int) < (a : Int) := by omega
  have e5 : ¬ (n : Int) - (a : Int) < (q : Int) := by omega
  have e6 : (a : Int) + (q : Int) ≤ (n : Int) := by omega
  have e7 : (n : Int) ≤ (c : Int) := by omega
  have e8 : ¬ ((a : Int) + (q : Int)).toNat = (a : Int).toNat := by omega
  have e9 : ((a : Int) + (q : Int)).toNat - (a : Int).toNat = q := by omega
  have HF := Lib.hid hf; clear hf
  go_enter Try.func51, Try.ntmps51
  go_wp2_with fail
  refine HF.out.mono ?_
  rintro e w1 ⟨v, rfl, hq⟩
  have HQ := Lib.hid hq; clear hq
  go_wp2
  refine bodyPost_ret (v := .tuple #[v, .int .i64 0]) (by simp [results, Try.results51, go_sem]) rfl ⟨v, rfl, HQ.out⟩
end Go.Proofs.Ythkkmnckidfmkaa.mem
namespace Go.Proofs.Ythkkmnckidfmkaa.mem
open Go Go.ChangeShapes Go.WideShapes Go.ChangeAt Go.RowKit
theorem info_byte : (Try.prog.info? 5).map (fun i => (i.zero, i.size, i.bytes)) = some (some (.int .u8 0), 1, 1) := by kernel_rfl
abbrev bcs (l : List UInt8) : List Value := Lib.byteCells l
theorem bcs_one (l : List UInt8) : ∀ u ∈ bcs l, u.oneCell' = true := by
  intro u hu; obtain ⟨x, _, rfl⟩ := List.mem_map.1 hu; rfl
theorem bcs_length (l : List UInt8) : (bcs l).length = l.length := by simp [bcs, Lib.byteCells]
theorem bcs_at {l : List UInt8} {j : Nat} {x : UInt8} (h : l[j]? = some x) : (bcs l)[j]? = some (.int .u8 (x.toNat : Int)) := by simp [bcs, Lib.byteCells, h]
/-- An own row of bytes with what was appended: a copy. -/
def CopyOf (l : List UInt8) (w : World) (v : Value) (w' : World) : Prop :=
  ∃ A c, v = .slice A l.length c ∧ w'.ownsRow w.heap.size 5 1 (.slice A l.length c) l.length (bcs l) ∧ Below w.heap.size w w'
set_option maxHeartbeats 1000000 in
theorem clone (ad : Addr) (c : Nat) (l : List UInt8) (hl : l.length ≤ 1000000) (w : World) (h : Rd w (some ad) (bcs l)) : Calls Try.prog 27 #[.slice (some ad) l.length c] w fun e w' => ∃ v, e = .returned v ∧ CopyOf l w v w' := by
  obtain ⟨i0, hi, hz0, hz1, hz2⟩ := info_parts info_byte
  have hnil : ∀ W : World, Sem.run Try.prog (binOp BinOp.eql 24 (.slice (some ad) l.length c) (.slice none 0 0)) W = .ok (.bool false) W := fun W => Lib.run_eql_slice_nil _ _ _ _ _ _ _ _ Try.underlying24
  have hown : (w.alloc (.cells #[] 5)).ownsRow w.heap.size 5 1 (.slice (some ⟨w.heap.size, 0, none⟩) 0 0) 0 [] := World.ownsRow_lit w #[] 0 (Nat.le_refl _) (by decide) rfl
  have hr2 := h.alloc (.cells #[] 5)
  have hn := bcs_length l
  have h1 := bcs_one l
  generalize hxs : bcs l = xs at *
  generalize hns : l.length = n at *
  have HN := Lib.hid hn; have HL := Lib.hid hl; have HX := Lib.hid hxs; have HNS := Lib.hid hns; clear hn hl hxs hns
  go_enter Try.func27, Try.ntmps27
  go_wp2_with (at_builtin; refine wpList_append_rd _ rfl (.tmp 5) (.tmp 6) 24 rfl w.heap.size 5 i0 (.int .u8 0) 1 1 Try.underlying24 hi hz0 hz1 hz2 rfl (by decide) _ 0 [] rfl hown _ n _ xs rfl (by rw [HN.out]; omega) hr2 h1 ?c3 ?c4 ?c5 ?_)
  case c3 => have := HL.out; unfold maxLen; omega
  case c4 => have := HL.out; omega
  case c5 => simp
  · intro v' w3 hown3 hg
    have hb3 : Below w.heap.size w w3 := below_own ((Below.refl _ w).alloc (Nat.le_refl _) _) hown hg (by simp)
    have HB := Lib.hid hb3
    obtain ⟨A', c', rfl, _, _⟩ := own_form hown3
    have HO := Lib.hid hown3
    clear hb3 hown3 hg
    go_wp2
    go_ret
    exact ⟨_, rfl, A', c', by rw [HNS.out]; rfl, by rw [HNS.out, HX.out]; exact HO.out, HB.out⟩
theorem clone_nil (w : World) : Calls Try.prog 27 #[.slice none 0 0] w fun e w' => ∃ v, e = .returned v ∧ CopyOf [] w v w' := by
  have hnil : ∀ W : World, Sem.run Try.prog (binOp BinOp.eql 24 (.slice none 0 0) (.slice none 0 0)) W = .ok (.bool true) W := fun W => Lib.run_eql_slice_nil _ _ _ _ _ _ _ _ Try.underlying24
  go_enter Try.func27, Try.ntmps27
  go_wp2
  go_ret
  exact ⟨_, rfl, none, 0, rfl, World.ownsRow_nil _ _ _ _, Below.refl _ _⟩
/-! ### Load and Read -/
def byteAt (l : List UInt8) (i : Int) : Int := if thereE l.length i 1 = 0 then ((l.getD i.toNat 0).toNat : Int) else 0
def part (l : List UInt8) (i k : Int) : List UInt8 := if thereE l.length i k = 0 then (l.drop i.toNat).take k.toNat else []
theorem there_long {n : Nat} (h : 512 < n) (i k : Int) : thereE n i k = 3 := by simp [thereE, h]
theorem there_out {n : Nat} {i k : Int} (h : n ≤ 512) (h2 : ¬ (0 ≤ i ∧ 0 ≤ k ∧ i + k ≤ n)) : thereE n i k = 180 := by
  unfold thereE; rw [if_neg (by omega), if_neg h2]
theorem there_in {n : Nat} {i k : Int} (h : n ≤ 512) (h2 : 0 ≤ i ∧ 0 ≤ k ∧ i + k ≤ n) : thereE n i k = 0 := by
  unfold thereE; rw [if_neg (by omega), if_pos h2]
theorem read (l : List UInt8) (A : Option Addr) (c : Nat) (hA : A = none → c = 0) (hc : l.length ≤ c) (i k : Int) (w : World) (h : Rd w A (bcs l)) :
    Calls Try.prog 46 #[.slice A l.length c, .int .i64 i, .int .i64 k] w fun e w' => ∃ v, e = .returned (.tuple #[v, .int .i64 (thereE l.length i k)]) ∧ CopyOf (part l i k) w v w' := by
  have H : Calls Try.prog 51 #[.slice A l.length c, .int .i64 i, .int .i64 k, .func (.func 27) #[] #[]] w fun e w' => ∃ v, e = .returned (.tuple #[v, .int .i64 (thereE l.length i k)]) ∧ CopyOf (part l i k) w v w' := by
    have hempty : CopyOf [] w (.slice none 0 0) w := ⟨none, 0, rfl, World.ownsRow_nil _ _ _ _, Below.refl _ _⟩
    by_cases h1 : 512 < l.length
    · have e := there_long h1 i k
      rw [show part l i k = [] by unfold part; rw [e]; rfl, e]
      exact (withinB_long _ _ _ _ _ _ h1 w).mono fun e w' ⟨he, hw⟩ => ⟨_, he, hw ▸ hempty⟩
    · by_cases h2 : 0 ≤ i ∧ 0 ≤ k ∧ i + k ≤ l.length
      · have e := there_in (by omega) h2
        obtain ⟨a, rfl⟩ := Int.eq_ofNat_of_zero_le h2.1
        obtain ⟨q, rfl⟩ := Int.eq_ofNat_of_zero_le h2.2.1
        rw [show part l a q = (l.drop a).take q by unfold part; rw [if_pos e]; simp, e]
        have hlen : ((l.drop a).take q).length = q := by simp; omega
        rcases A with _ | ⟨b, off, f⟩
        · have hc0 := hA rfl
          obtain rfl : q = 0 := by omega
          rw [List.take_zero]
          exact withinB_none0 _ a 0 _ c (by omega) hc hc0 (by omega) w (clone_nil w)
        · by_cases hq : q = 0
          · subst hq
            rw [List.take_zero]
            exact withinB_some0 _ ⟨b, off, f⟩ a _ c (by omega) hc (by omega) w (clone ⟨b, off, f⟩ 0 [] (by simp) w Rd.nil)
          · obtain ⟨b', off', hA', _⟩ := h.addr (by rw [bcs_length]; omega)
            injection hA' with hA'
            injection hA' with _ _ hf
            subst hf
            have hsub : Rd w (some ⟨b, off + a, none⟩) (bcs ((l.drop a).take q)) := by
              have := (h.dropAt a).take q
              simpa [bcs, Lib.byteCells, List.map_drop, List.map_take] using this
            have hcl := clone ⟨b, off + a, none⟩ q ((l.drop a).take q) (by omega) w hsub
            rw [hlen] at hcl
            exact withinB_pos _ b off a q _ c (by omega) hc (by omega) hq w hcl
      · have e := there_out (by omega) h2
        rw [show part l i k = [] by unfold part; rw [e]; rfl, e]
        exact (withinB_out _ _ _ _ _ _ (by omega) h2 w).mono fun e w' ⟨he, hw⟩ => ⟨_, he, hw ▸ hempty⟩
  have HH := Lib.hid H; clear H
  generalize part l i k = x at *
  generalize thereE l.length i k = y at *
  generalize l.length = n at *
  go_enter Try.func46, Try.ntmps46
  go_wp2_with fail
  refine HH.out.mono ?_
  rintro e w1 ⟨v, rfl, hv⟩
  have HV := Lib.hid hv; clear hv
  go_wp2
  refine bodyPost_ret (v := .tuple #[v, .int .i64 y]) (by simp [results, Try.results46, go_sem]) rfl ⟨_, rfl, HV.out⟩
end Go.Proofs.Ythkkmnckidfmkaa.mem
namespace Go.Proofs.Ythkkmnckidfmkaa.mem
open Go Go.ChangeShapes Go.WideShapes Go.ChangeAt Go.RowKit
def word4 (a b c d : Nat) : Nat := ((a * 256 + b) * 256 + c) * 256 + d
theorem or_word (a b c d : Nat) (ha : a < 256) (hb : b < 256) (hc : c < 256) (hd : d < 256) :
    bits .or .u32 (bits .or .u32 (bits .or .u32 ((a : Int) % 4294967296 * 16777216 % 4294967296) ((b : Int) % 4294967296 * 65536 % 4294967296)) ((c : Int) % 4294967296 * 256 % 4294967296)) ((d : Int) % 4294967296) = (word4 a b c d : Int) := by
  have e1 : (a : Int) % 4294967296 * 16777216 % 4294967296 = ((2 ^ 24 * a : Nat) : Int) := by omega
  have e2 : (b : Int) % 4294967296 * 65536 % 4294967296 = ((65536 * b : Nat) : Int) := by omega
  have e3 : (c : Int) % 4294967296 * 256 % 4294967296 = ((256 * c : Nat) : Int) := by omega
  have e4 : (d : Int) % 4294967296 = ((d : Nat) : Int) := by omega
  rw [e1, e2, e3, e4, u32_or_nat _ _ (by omega) (by omega), ← Nat.two_pow_add_eq_or_of_lt (i := 24) (by omega) a,
    show 2 ^ 24 * a + 65536 * b = 2 ^ 16 * (256 * a + b) by omega, u32_or_nat _ _ (by omega) (by omega), ← Nat.two_pow_add_eq_or_of_lt (i := 16) (by omega) _,
    show 2 ^ 16 * (256 * a + b) + 256 * c = 2 ^ 8 * ((256 * a + b) * 256 + c) by omega, u32_or_nat _ _ (by omega) (by omega), ← Nat.two_pow_add_eq_or_of_lt (i := 8) (by omega) _]
  unfold word4; congr 1; omega
def wordAt (l : List UInt8) (i : Int) : Int :=
  if thereE l.length i 4 = 0 then (word4 (l.getD i.toNat 0).toNat (l.getD (i.toNat + 1) 0).toNat (l.getD (i.toNat + 2) 0).toNat (l.getD (i.toNat + 3) 0).toNat : Int) else 0
end Go.Proofs.Ythkkmnckidfmkaa.mem
namespace Go.Proofs.Ythkkmnckidfmkaa.mem
open Go Go.ChangeShapes Go.WideShapes Go.ChangeAt Go.RowKit
theorem bcs_snoc {l : List UInt8} {k : Nat} {x : UInt8} (h : l[k]? = some x) : bcs (l.take k) ++ [.int .u8 (x.toNat : Int)] = bcs (l.take (k + 1)) := by
  rw [List.take_add_one, h]; simp [bcs, Lib.byteCells]
end Go.Proofs.Ythkkmnckidfmkaa.mem
namespace Go.Proofs.Ythkkmnckidfmkaa.mem
open Go Go.ChangeShapes Go.WideShapes Go.ChangeAt Go.RowKit
end Go.Proofs.Ythkkmnckidfmkaa.mem
namespace Go.Proofs.Ythkkmnckidfmkaa.mem
open Go Go.ChangeShapes Go.WideShapes Go.ChangeAt Go.RowKit
/-- 'string(b)' of a slice that reads as bytes, nil or empty too. -/
theorem str_rd (l : List UInt8) (A : Option Addr) (n c : Nat) (hn : l.length = n) (w : World) (h : Rd w A (bcs l)) : Sem.run Try.prog (convert 24 9 (.slice A n c)) w = .ok (.string ⟨l.toArray⟩) w := by
  subst hn
  rcases A with _ | ad
  · have hl : l = [] := by
      rcases h with h | ⟨b, off, e, _⟩
      · simpa [bcs, Lib.byteCells] using h
      · cases e
    subst hl
    exact run_convert_bytes_nil _ _ _ Try.underlying24 Try.underlying5 _ c _ Try.underlying9
  · exact run_convert_bytes_back w _ _ _ ad c l Try.underlying24 Try.underlying5 Try.underlying9 fun j hj => by
      rcases h with h | ⟨b, off, e, _, hc⟩
      · exfalso
        have : l = [] := by simpa [bcs, Lib.byteCells] using h
        subst this; simp at hj
      · injection e with e
        subst e
        have := hc j _ (bcs_at (List.getElem?_eq_getElem hj))
        rw [Addr.add_lit]; exact this
end Go.Proofs.Ythkkmnckidfmkaa.mem
namespace Go.Proofs.Ythkkmnckidfmkaa.mem
open Go Go.ChangeShapes Go.WideShapes Go.ChangeAt Go.RowKit
theorem read_c (l : List UInt8) (n : Nat) (hl : l.length = n) (i k y : Int) (z : List UInt8) (hz : part l i k = z) (hy : thereE l.length i k = y) (A : Option Addr) (c : Nat) (hA : A = none → c = 0) (hc : n ≤ c) (w : World) (h : Rd w A (bcs l)) :
    Calls Try.prog 46 #[.slice A n c, .int .i64 i, .int .i64 k] w fun e w' => ∃ v, e = .returned (.tuple #[v, .int .i64 y]) ∧ CopyOf z w v w' := by
  subst hl hz hy; exact read l A c hA hc i k w h
theorem Rd_of_blk {w : World} {g : Nat} {cs : Array Value} {t : TypeId} (h : w.heap[g]? = some (.cells cs t (0, 0))) : Rd w (some ⟨g, 0, none⟩) cs.toList :=
  .inr ⟨g, 0, rfl, blk_lt h, fun j u hu => by rw [Nat.zero_add, blk_cell h]; simpa using hu⟩
def l8 : List UInt8 := [0, 1, 2, 3, 4, 5, 6, 7]
end Go.Proofs.Ythkkmnckidfmkaa.mem
namespace Go.Proofs.Ythkkmnckidfmkaa.mem
open Go Go.ChangeShapes Go.WideShapes Go.ChangeAt Go.RowKit
theorem own_cut {w : World} {base : Nat} {e : TypeId} {n c : Nat} {A : Option Addr} {xs : List Value} (h : w.ownsRow base e 1 (.slice A n c) n xs) (hA : A ≠ none) : w.ownsRow base e 1 (.slice A 0 c) 0 [] := by
  refine ⟨rfl, ?_⟩
  rcases h.2 with ⟨hv, _⟩ | ⟨g, cap, cur, hv, hb, hg, hnc, hm, hs, _⟩
  · injection hv with hv; exact absurd hv hA
  · injection hv with h1 _ h2
    subst h1; subst h2
    exact .inr ⟨g, c, cur, rfl, hb, hg, Nat.zero_le _, hm, hs, by simp⟩
theorem grow (n : Nat) (h0 : 0 < n) (hn : n ≤ 1000000) (w : World) : Calls Try.prog 56 #[.slice none 0 0, .int .i64 n] w fun e w' => ∃ v, e = .returned v ∧ w'.ownsRow w.heap.size 5 1 v 0 [] ∧ Below w.heap.size w w' := by
  obtain ⟨i0, hi, hz0, hz1, hz2⟩ := info_parts info_byte
  have hold : (Builtin.firstCells i0.size 0 (.slice none 0 0)).run Try.prog w.drew = .ok #[] w.drew := run_firstCells_none w.drew i0.size 0 0 0
  have hrz := Lib.run_append_grow_zeros w 24 3 24 5 i0 (.int .u8 0) .i64 .i64 Try.underlying24 Try.underlying3 hi hz0 none 0 0 [] hold n (by omega) (by rw [hz1]; decide) (by omega) (by omega) (by rw [hz2]; omega) (growslice_fits (by omega) (by rw [hz2]; omega))
  have hGn : n ≤ grownCap w n 0 5 := grownCap_ge w _ _ _
  have hGm := grownCap_le_maxLen w n 0 5 (by unfold maxLen; omega)
  rw [Nat.zero_add] at hrz
  generalize grownCap w n 0 5 = G at *
  have hsz : (#[] ++ Builtin.zeroCells (Value.int .u8 0).cells n ++ Builtin.zeroCells (Value.int .u8 0).cells (G - n)).size = G * 1 := by
    simp [Builtin.zeroCells, Value.cells]; omega
  generalize (#[] ++ Builtin.zeroCells (Value.int .u8 0).cells n ++ Builtin.zeroCells (Value.int .u8 0).cells (G - n)) = cur at *
  have hown : (w.drew.alloc (.cells cur 5)).ownsRow w.heap.size 5 1 (.slice (some ⟨w.heap.size, 0, none⟩) 0 G) 0 [] :=
    ⟨rfl, .inr ⟨w.heap.size, G, cur, rfl, Nat.le_refl _, blk_new w.drew cur _, Nat.zero_le _, hGm, hsz, by simp⟩⟩
  have hb : Below w.heap.size w (w.drew.alloc (.cells cur 5)) := (Below.refl _ _).drew.alloc (Nat.le_refl _) _
  have HO := Lib.hid hown; have HB := Lib.hid hb
  have hG1 : (n : Int) ≤ (G : Int) := by omega
  have hG2 : (G : Int) ≤ 9223372036854775807 := by unfold maxLen at hGm; omega
  clear hown hb hsz hold
  go_enter Try.func56, Try.ntmps56
  go_wp2_with (at_builtin; refine Lib.wpList_append_run _ rfl _ _ _ _ rfl _ _ rfl rfl _ _ hrz ?_)
  go_ret
  exact ⟨_, rfl, HO.out, HB.out⟩
end Go.Proofs.Ythkkmnckidfmkaa.mem
namespace Go.Proofs.Ythkkmnckidfmkaa.mem
open Go Go.ChangeShapes Go.WideShapes Go.ChangeAt Go.RowKit
theorem grow_any (n : Nat) (hn : n ≤ 1000000) (w : World) : Calls Try.prog 56 #[.slice none 0 0, .int .i64 n] w fun e w' => ∃ v, e = .returned v ∧ w'.ownsRow w.heap.size 5 1 v 0 [] ∧ Below w.heap.size w w' := by
  by_cases h : n = 0
  · subst h
    go_enter Try.func56, Try.ntmps56
    go_wp2
    go_ret
    exact ⟨_, rfl, World.ownsRow_nil _ _ _ _, Below.refl _ _⟩
  · exact grow n (by omega) hn w
set_option maxHeartbeats 4000000 in
theorem concat3 (l1 l2 l3 : List UInt8) (g : Nat) (A1 A2 A3 : Option Addr) (c1 c2 c3 : Nat) (h1 : l1.length ≤ 1000) (h2 : l2.length ≤ 1000) (h3 : l3.length ≤ 1000) (w : World) (h : Rd w (some ⟨g, 0, none⟩) [.slice A1 l1.length c1, .slice A2 l2.length c2, .slice A3 l3.length c3])
    (r1 : Rd w A1 (bcs l1)) (r2 : Rd w A2 (bcs l2)) (r3 : Rd w A3 (bcs l3)) :
    Calls Try.prog 55 #[.slice (some ⟨g, 0, none⟩) 3 3] w fun e w' => ∃ v, e = .returned v ∧ CopyOf (l1 ++ l2 ++ l3) w v w' := by
  have k0 := h.cell (j := 0) rfl; have k1 := h.cell (j := 1) rfl; have k2 := h.cell (j := 2) rfl
  rw [Nat.zero_add] at k0 k1 k2
  have G := grow_any (l1.length + l2.length + l3.length) (by omega)
  rw [show ((l1.length + l2.length + l3.length : Nat) : Int) = (l1.length : Int) + (l2.length : Int) + (l3.length : Int) by omega] at G
  have q1 := bcs_length l1; have q2 := bcs_length l2; have q3 := bcs_length l3
  have o1 := bcs_one l1; have o2 := bcs_one l2; have o3 := bcs_one l3
  have e1 : (l1.length : Int) ≤ 1000 := by omega
  have e2 : (l2.length : Int) ≤ 1000 := by omega
  have e3 : (l3.length : Int) ≤ 1000 := by omega
  obtain ⟨i0, hi, hz0, hz1, hz2⟩ := info_parts info_byte
  have HF := Lib.hid (show (bcs l1 ++ bcs l2 ++ bcs l3 = bcs (l1 ++ l2 ++ l3)) ∧ (l1.length + l2.length + l3.length = (l1 ++ l2 ++ l3).length) by simp [bcs, Lib.byteCells]; omega)
  generalize (l1 ++ l2 ++ l3) = L at *
  generalize bcs l1 = x1 at *
  generalize bcs l2 = x2 at *
  generalize bcs l3 = x3 at *
  generalize l1.length = n1 at *
  generalize l2.length = n2 at *
  generalize l3.length = n3 at *
  have HG := Lib.hid G; have Q1 := Lib.hid q1; have Q2 := Lib.hid q2; have Q3 := Lib.hid q3; have HH := Lib.hid h
  clear G q1 q2 q3 h h1 h2 h3
  go_enter Try.func55, Try.ntmps55
  go_wp2_with fail
  refine wp_loop_rounds 4 ?_
  rw [rounds_succ]; go_wp2_with fail
  rw [rounds_succ]; go_wp2_with fail
  rw [rounds_succ]; go_wp2_with fail
  rw [rounds_succ]; go_wp2_with fail
  refine (HG.out _).mono ?_
  rintro e w1 ⟨v, rfl, hown, b1⟩
  have HB1 := Lib.hid b1; have HO1 := Lib.hid hown
  have R1 := Lib.hid r1; have R2 := Lib.hid r2; have R3 := Lib.hid r3
  obtain ⟨A0, c0, rfl, _, _⟩ := own_form hown
  clear k0 k1 k2 r1 r2 r3 b1 hown
  have k0 := (HH.out.below HB1.out).cell (j := 0) rfl
  rw [Nat.zero_add] at k0
  go_wp2_with fail
  refine wp_loop_rounds 4 ?_
  rw [rounds_succ]
  go_wp2_with (at_builtin; refine wpList_append_rd _ rfl (.tmp 31) (.tmp 32) 24 rfl w.heap.size 5 i0 (.int .u8 0) 1 1 Try.underlying24 hi hz0 hz1 hz2 rfl (by decide) _ (0) ([]) rfl HO1.out _ n1 _ x1 rfl (by rw [Q1.out]; omega) (R1.out.below HB1.out) o1 ?a1 ?b1 HB1.out.size ?_)
  case a1 => unfold maxLen; omega
  case b1 => omega
  intro v1 w2 hown hg
  have hb := below_own HB1.out HO1.out hg HB1.out.size
  have HB2 := Lib.hid hb; have HO2 := Lib.hid hown
  obtain ⟨A1', c1', rfl, _, _⟩ := own_form hown
  have m1 := (HH.out.below hb).cell (j := 1) rfl
  rw [Nat.zero_add] at m1
  clear hb hown hg
  go_wp2_with fail
  rw [rounds_succ]
  go_wp2_with (at_builtin; refine wpList_append_rd _ rfl (.tmp 31) (.tmp 32) 24 rfl w.heap.size 5 i0 (.int .u8 0) 1 1 Try.underlying24 hi hz0 hz1 hz2 rfl (by decide) _ n1 x1 rfl HO2.out _ n2 _ x2 rfl (by rw [Q2.out]; omega) (R2.out.below HB2.out) o2 ?a2 ?b2 HB2.out.size ?_)
  case a2 => unfold maxLen; omega
  case b2 => omega
  intro v2 w3 hown hg
  have hb := below_own HB2.out HO2.out hg HB2.out.size
  have HB3 := Lib.hid hb; have HO3 := Lib.hid hown
  obtain ⟨A2', c2', rfl, _, _⟩ := own_form hown
  have m2 := (HH.out.below hb).cell (j := 2) rfl
  rw [Nat.zero_add] at m2
  clear hb hown hg
  go_wp2_with fail
  rw [rounds_succ]
  go_wp2_with (at_builtin; refine wpList_append_rd _ rfl (.tmp 31) (.tmp 32) 24 rfl w.heap.size 5 i0 (.int .u8 0) 1 1 Try.underlying24 hi hz0 hz1 hz2 rfl (by decide) _ (n1 + n2) (x1 ++ x2) rfl HO3.out _ n3 _ x3 rfl (by rw [Q3.out]; omega) (R3.out.below HB3.out) o3 ?a3 ?b3 HB3.out.size ?_)
  case a3 => unfold maxLen; omega
  case b3 => omega
  intro v3 w4 hown hg
  have hb := below_own HB3.out HO3.out hg HB3.out.size
  rw [← List.append_assoc, HF.out.1, HF.out.2] at hown
  obtain ⟨A3', c3', rfl, _, _⟩ := own_form hown
  have HB4 := Lib.hid hb; have HO4 := Lib.hid hown
  clear hb hown hg
  go_wp2_with fail
  rw [rounds_succ]; go_wp2_with fail
  go_ret
  exact ⟨_, rfl, _, _, rfl, HO4.out, HB4.out⟩
end Go.Proofs.Ythkkmnckidfmkaa.mem
namespace Go.Proofs.Ythkkmnckidfmkaa.mem
open Go Go.ChangeShapes Go.WideShapes Go.ChangeAt Go.RowKit
theorem cat3 (l1 l2 l3 : List UInt8) (g : Nat) (A1 A2 A3 : Option Addr) (c1 c2 c3 : Nat) (h1 : l1.length ≤ 1000) (h2 : l2.length ≤ 1000) (h3 : l3.length ≤ 1000) (w : World) (h : Rd w (some ⟨g, 0, none⟩) [.slice A1 l1.length c1, .slice A2 l2.length c2, .slice A3 l3.length c3])
    (r1 : Rd w A1 (bcs l1)) (r2 : Rd w A2 (bcs l2)) (r3 : Rd w A3 (bcs l3)) :
    Calls Try.prog 54 #[.slice (some ⟨g, 0, none⟩) 3 3] w fun e w' => ∃ v, e = .returned v ∧ CopyOf (l1 ++ l2 ++ l3) w v w' := by
  have H := Lib.hid (concat3 l1 l2 l3 g A1 A2 A3 c1 c2 c3 h1 h2 h3 w h r1 r2 r3)
  clear h r1 r2 r3 h1 h2 h3
  go_enter Try.func54, Try.ntmps54
  go_wp2_with fail
  refine H.out.mono ?_
  rintro e w1 ⟨v, rfl, hv⟩
  have HV := Lib.hid hv; clear hv
  go_wp2
  go_ret
  exact ⟨_, rfl, HV.out⟩
end Go.Proofs.Ythkkmnckidfmkaa.mem
