/- memory.Write's closure and what belongs to it. -/
import Derived.Test.YthkkmnckidfmkaaRows
import Derived.Test.YthkkmnckidfmkaaHyMem1
import Derived.StillTailTactics
namespace Go.Proofs.Ythkkmnckidfmkaa.mem
open Go Go.ChangeShapes Go.WideShapes Go.ChangeAt Go.RowKit
theorem copy_down {l : List UInt8} {w X w' : World} {v : Value} (hX : Below w.heap.size w X) (h : CopyOf l X v w') : CopyOf l w v w' := by
  obtain ⟨A, c, rfl, ho, hb⟩ := h
  refine ⟨A, c, rfl, ⟨ho.1, ?_⟩, hX.trans (hb.mono hX.size)⟩
  rcases ho.2 with hn | ⟨g, cap, cur, hv, hb0, rest⟩
  · exact .inl hn
  · exact .inr ⟨g, cap, cur, hv, Nat.le_trans hX.size hb0, rest⟩
set_option maxHeartbeats 4000000 in
/-- The closure, where the three parts are told: m[:a], b, m[a+len(b):]. -/
theorem wtell (l1 l2 l3 : List UInt8) (s0 : Value) (b1 b2 b3 b off a n c m d : Nat) (A2 : Option Addr) (hn : n = l1.length + l2.length + l3.length) (ha : l1.length = a) (hm : l2.length = m) (h6 : n ≤ 600) (hc : n ≤ c) (hne : ¬ c = a + m) (w : World) (k1 : w.cell? ⟨b1, 0, none⟩ = some (.slice (some ⟨b, off, none⟩) n c)) (k2 : w.cell? ⟨b2, 0, none⟩ = some (.int .i64 a)) (k3 : w.cell? ⟨b3, 0, none⟩ = some (.slice A2 m d))
    (r1 : Rd w (some ⟨b, off, none⟩) (bcs l1)) (r2 : Rd w A2 (bcs l2)) (r3 : Rd w (some ⟨b, off + (a + m), none⟩) (bcs l3)) :
    Calls Try.prog 53 #[s0, .pointer (some ⟨b1, 0, none⟩), .pointer (some ⟨b2, 0, none⟩), .pointer (some ⟨b3, 0, none⟩)] w fun e w' => ∃ v, e = .returned v ∧ CopyOf (l1 ++ l2 ++ l3) w v w' := by
  have hl3 : l3.length = n - (a + m) := by omega
  have H : Calls Try.prog 54 #[.slice (some ⟨w.heap.size, 0, none⟩) 3 3] (w.alloc (.cells #[.slice (some ⟨b, off, none⟩) a c, .slice A2 m d, .slice (some ⟨b, off + (a + m), none⟩) (n - (a + m)) (c - (a + m))] 24)).drew fun e w' => ∃ v, e = .returned v ∧ CopyOf (l1 ++ l2 ++ l3) w v w' := by
    have hX : Below w.heap.size w (w.alloc (.cells #[.slice (some ⟨b, off, none⟩) a c, .slice A2 m d, .slice (some ⟨b, off + (a + m), none⟩) (n - (a + m)) (c - (a + m))] 24)).drew := ((Below.refl _ _).alloc (Nat.le_refl _) _).drew
    have hcat := cat3 l1 l2 l3 w.heap.size (some ⟨b, off, none⟩) A2 (some ⟨b, off + (a + m), none⟩) c d (c - (a + m)) (by omega) (by omega) (by omega) (w.alloc (.cells #[.slice (some ⟨b, off, none⟩) a c, .slice A2 m d, .slice (some ⟨b, off + (a + m), none⟩) (n - (a + m)) (c - (a + m))] 24)).drew
      (by rw [ha, hm, hl3]; exact Rd.new w #[.slice (some ⟨b, off, none⟩) a c, .slice A2 m d, .slice (some ⟨b, off + (a + m), none⟩) (n - (a + m)) (c - (a + m))] _) (r1.below hX) (r2.below hX) (r3.below hX)
    exact hcat.mono fun e w' ⟨v, he, hv⟩ => ⟨v, he, copy_down hX hv⟩
  have e1 : (a : Int) ≤ (c : Int) := by omega
  have e2 : (a : Int) + (m : Int) ≤ (n : Int) := by omega
  have e3 : (n : Int) ≤ 600 := by omega
  have e4 : (n : Int) ≤ (c : Int) := by omega
  have e5 : ((a : Int) + (m : Int)).toNat = a + m := by omega
  have e6 : ¬ c = 0 := by omega
  have e8 : (0 : Int) ≤ (a : Int) + (m : Int) := by omega
  have e7 : IntKind.i64.wrap ((a : Int) + (m : Int)) = (a : Int) + (m : Int) := IntWalk.i64_in _ (by omega)
  have HH := Lib.hid H; clear H hn ha hm h6 hc r1 r2 r3 hl3
  go_enter Try.func53, Try.ntmps53
  go_wp2_with fail
  go_still_tail 10, (by kernel_rfl)
  go_wp2_with fail
  refine HH.out.mono ?_
  rintro e w2 ⟨v, rfl, hv⟩
  have HV := Lib.hid hv; clear hv
  go_wp2
  go_ret
  exact ⟨_, rfl, HV.out⟩
end Go.Proofs.Ythkkmnckidfmkaa.mem
namespace Go.Proofs.Ythkkmnckidfmkaa.mem
open Go Go.ChangeShapes Go.WideShapes Go.ChangeAt Go.RowKit
set_option maxHeartbeats 4000000 in
theorem wtell_end (l1 l2 : List UInt8) (s0 : Value) (b1 b2 b3 b off a m c d : Nat) (A2 : Option Addr) (ha : l1.length = a) (hm : l2.length = m) (hc : a + m = c) (h6 : c ≤ 600) (hp : 0 < c) (w : World) (k1 : w.cell? ⟨b1, 0, none⟩ = some (.slice (some ⟨b, off, none⟩) c c)) (k2 : w.cell? ⟨b2, 0, none⟩ = some (.int .i64 a)) (k3 : w.cell? ⟨b3, 0, none⟩ = some (.slice A2 m d))
    (r2 : Rd w A2 (bcs l2)) (r1 : Rd w (some ⟨b, off, none⟩) (bcs l1)) :
    Calls Try.prog 53 #[s0, .pointer (some ⟨b1, 0, none⟩), .pointer (some ⟨b2, 0, none⟩), .pointer (some ⟨b3, 0, none⟩)] w fun e w' => ∃ v, e = .returned v ∧ CopyOf (l1 ++ l2 ++ []) w v w' := by
  have H : Calls Try.prog 54 #[.slice (some ⟨w.heap.size, 0, none⟩) 3 3] (w.alloc (.cells #[.slice (some ⟨b, off, none⟩) a c, .slice A2 m d, .slice (some ⟨b, off, none⟩) 0 0] 24)).drew fun e w' => ∃ v, e = .returned v ∧ CopyOf (l1 ++ l2 ++ []) w v w' := by
    have hX : Below w.heap.size w (w.alloc (.cells #[.slice (some ⟨b, off, none⟩) a c, .slice A2 m d, .slice (some ⟨b, off, none⟩) 0 0] 24)).drew := ((Below.refl _ _).alloc (Nat.le_refl _) _).drew
    have hcat := cat3 l1 l2 [] w.heap.size (some ⟨b, off, none⟩) A2 (some ⟨b, off, none⟩) c d 0 (by omega) (by omega) (by simp) (w.alloc (.cells #[.slice (some ⟨b, off, none⟩) a c, .slice A2 m d, .slice (some ⟨b, off, none⟩) 0 0] 24)).drew
      (by rw [ha, hm]; exact Rd.new w #[.slice (some ⟨b, off, none⟩) a c, .slice A2 m d, .slice (some ⟨b, off, none⟩) 0 0] _) (r1.below hX) (r2.below hX) Rd.nil
    exact hcat.mono fun e w' ⟨v, he, hv⟩ => ⟨v, he, copy_down hX hv⟩
  have e1 : (a : Int) ≤ (c : Int) := by omega
  have e2 : (a : Int) + (m : Int) ≤ (c : Int) := by omega
  have e3 : (c : Int) ≤ 600 := by omega
  have e5 : ((a : Int) + (m : Int)).toNat = c := by omega
  have e6 : ¬ c = 0 := by omega
  have e8 : (0 : Int) ≤ (a : Int) + (m : Int) := by omega
  have e7 : IntKind.i64.wrap ((a : Int) + (m : Int)) = (a : Int) + (m : Int) := IntWalk.i64_in _ (by omega)
  have HH := Lib.hid H; clear H ha hm h6 hp hc r1 r2
  go_enter Try.func53, Try.ntmps53
  go_wp2_with fail
  go_still_tail 10, (by kernel_rfl)
  go_wp2_with fail
  refine HH.out.mono ?_
  rintro e w2 ⟨v, rfl, hv⟩
  have HV := Lib.hid hv; clear hv
  go_wp2
  go_ret
  exact ⟨_, rfl, HV.out⟩
end Go.Proofs.Ythkkmnckidfmkaa.mem
namespace Go.Proofs.Ythkkmnckidfmkaa.mem
open Go Go.ChangeShapes Go.WideShapes Go.ChangeAt Go.RowKit
set_option maxHeartbeats 4000000 in
theorem wtell_none  (s0 : Value) (b1 b2 b3 d : Nat) (A2 : Option Addr) (w : World) (k1 : w.cell? ⟨b1, 0, none⟩ = some (.slice none 0 0)) (k2 : w.cell? ⟨b2, 0, none⟩ = some (.int .i64 0)) (k3 : w.cell? ⟨b3, 0, none⟩ = some (.slice A2 0 d)) :
    Calls Try.prog 53 #[s0, .pointer (some ⟨b1, 0, none⟩), .pointer (some ⟨b2, 0, none⟩), .pointer (some ⟨b3, 0, none⟩)] w fun e w' => ∃ v, e = .returned v ∧ CopyOf [] w v w' := by
  have H : Calls Try.prog 54 #[.slice (some ⟨w.heap.size, 0, none⟩) 3 3] (w.alloc (.cells #[.slice none 0 0, .slice A2 0 d, .slice none 0 0] 24)).drew fun e w' => ∃ v, e = .returned v ∧ CopyOf [] w v w' := by
    have hX : Below w.heap.size w (w.alloc (.cells #[.slice none 0 0, .slice A2 0 d, .slice none 0 0] 24)).drew := ((Below.refl _ _).alloc (Nat.le_refl _) _).drew
    have hcat := cat3 [] [] [] w.heap.size none A2 none 0 d 0 (by simp) (by simp) (by simp) (w.alloc (.cells #[.slice none 0 0, .slice A2 0 d, .slice none 0 0] 24)).drew
      (Rd.new w #[.slice none 0 0, .slice A2 0 d, .slice none 0 0] _) Rd.nil Rd.nil Rd.nil
    exact hcat.mono fun e w' ⟨v, he, hv⟩ => ⟨v, he, copy_down hX hv⟩
  have z0 : IntKind.i64.wrap 0 = 0 := by decide
  have HH := Lib.hid H; clear H
  go_enter Try.func53, Try.ntmps53
  go_wp2_with fail
  go_still_tail 10, (by kernel_rfl)
  go_wp2_with fail
  refine HH.out.mono ?_
  rintro e w2 ⟨v, rfl, hv⟩
  have HV := Lib.hid hv; clear hv
  go_wp2
  go_ret
  exact ⟨_, rfl, HV.out⟩
set_option maxHeartbeats 4000000 in
theorem wtell_cap0 (ad : Addr) (s0 : Value) (b1 b2 b3 d : Nat) (A2 : Option Addr) (w : World) (k1 : w.cell? ⟨b1, 0, none⟩ = some (.slice (some ad) 0 0)) (k2 : w.cell? ⟨b2, 0, none⟩ = some (.int .i64 0)) (k3 : w.cell? ⟨b3, 0, none⟩ = some (.slice A2 0 d)) :
    Calls Try.prog 53 #[s0, .pointer (some ⟨b1, 0, none⟩), .pointer (some ⟨b2, 0, none⟩), .pointer (some ⟨b3, 0, none⟩)] w fun e w' => ∃ v, e = .returned v ∧ CopyOf [] w v w' := by
  have H : Calls Try.prog 54 #[.slice (some ⟨w.heap.size, 0, none⟩) 3 3] (w.alloc (.cells #[.slice (some ad) 0 0, .slice A2 0 d, .slice (some ad) 0 0] 24)).drew fun e w' => ∃ v, e = .returned v ∧ CopyOf [] w v w' := by
    have hX : Below w.heap.size w (w.alloc (.cells #[.slice (some ad) 0 0, .slice A2 0 d, .slice (some ad) 0 0] 24)).drew := ((Below.refl _ _).alloc (Nat.le_refl _) _).drew
    have hcat := cat3 [] [] [] w.heap.size (some ad) A2 (some ad) 0 d 0 (by simp) (by simp) (by simp) (w.alloc (.cells #[.slice (some ad) 0 0, .slice A2 0 d, .slice (some ad) 0 0] 24)).drew
      (Rd.new w #[.slice (some ad) 0 0, .slice A2 0 d, .slice (some ad) 0 0] _) Rd.nil Rd.nil Rd.nil
    exact hcat.mono fun e w' ⟨v, he, hv⟩ => ⟨v, he, copy_down hX hv⟩
  have z0 : IntKind.i64.wrap 0 = 0 := by decide
  have HH := Lib.hid H; clear H
  go_enter Try.func53, Try.ntmps53
  go_wp2_with fail
  go_still_tail 10, (by kernel_rfl)
  go_wp2_with fail
  refine HH.out.mono ?_
  rintro e w2 ⟨v, rfl, hv⟩
  have HV := Lib.hid hv; clear hv
  go_wp2
  go_ret
  exact ⟨_, rfl, HV.out⟩
set_option maxHeartbeats 4000000 in
theorem wtell_some (b off c : Nat) (f : Option Nat) (hc : ¬ c = 0) (s0 : Value) (b1 b2 b3 d : Nat) (A2 : Option Addr) (w : World) (k1 : w.cell? ⟨b1, 0, none⟩ = some (.slice (some ⟨b, off, f⟩) 0 c)) (k2 : w.cell? ⟨b2, 0, none⟩ = some (.int .i64 0)) (k3 : w.cell? ⟨b3, 0, none⟩ = some (.slice A2 0 d)) :
    Calls Try.prog 53 #[s0, .pointer (some ⟨b1, 0, none⟩), .pointer (some ⟨b2, 0, none⟩), .pointer (some ⟨b3, 0, none⟩)] w fun e w' => ∃ v, e = .returned v ∧ CopyOf [] w v w' := by
  have H : Calls Try.prog 54 #[.slice (some ⟨w.heap.size, 0, none⟩) 3 3] (w.alloc (.cells #[.slice (some ⟨b, off, f⟩) 0 c, .slice A2 0 d, .slice (some ⟨b, off, f⟩) 0 c] 24)).drew fun e w' => ∃ v, e = .returned v ∧ CopyOf [] w v w' := by
    have hX : Below w.heap.size w (w.alloc (.cells #[.slice (some ⟨b, off, f⟩) 0 c, .slice A2 0 d, .slice (some ⟨b, off, f⟩) 0 c] 24)).drew := ((Below.refl _ _).alloc (Nat.le_refl _) _).drew
    have hcat := cat3 [] [] [] w.heap.size (some ⟨b, off, f⟩) A2 (some ⟨b, off, f⟩) c d c (by simp) (by simp) (by simp) (w.alloc (.cells #[.slice (some ⟨b, off, f⟩) 0 c, .slice A2 0 d, .slice (some ⟨b, off, f⟩) 0 c] 24)).drew
      (Rd.new w #[.slice (some ⟨b, off, f⟩) 0 c, .slice A2 0 d, .slice (some ⟨b, off, f⟩) 0 c] _) Rd.nil Rd.nil Rd.nil
    exact hcat.mono fun e w' ⟨v, he, hv⟩ => ⟨v, he, copy_down hX hv⟩
  have e0 : (0 : Int) ≤ (c : Int) := by omega
  have z0 : IntKind.i64.wrap 0 = 0 := by decide
  have HH := Lib.hid H; clear H
  go_enter Try.func53, Try.ntmps53
  go_wp2_with fail
  go_still_tail 10, (by kernel_rfl)
  go_wp2_with fail
  refine HH.out.mono ?_
  rintro e w2 ⟨v, rfl, hv⟩
  have HV := Lib.hid hv; clear hv
  go_wp2
  go_ret
  exact ⟨_, rfl, HV.out⟩
set_option maxHeartbeats 1000000 in
theorem withinW_none (Q : Value → World → Prop)  (b1 b2 b3 : Nat) (w : World) (hf : Calls Try.prog 53 #[.slice none 0 0, .pointer (some ⟨b1, 0, none⟩), .pointer (some ⟨b2, 0, none⟩), .pointer (some ⟨b3, 0, none⟩)] w fun e w' => ∃ v, e = .returned v ∧ Q v w') :
    Calls Try.prog 51 #[.slice none 0 0, .int .i64 0, .int .i64 0, .func (.func 53) #[] #[.pointer (some ⟨b1, 0, none⟩), .pointer (some ⟨b2, 0, none⟩), .pointer (some ⟨b3, 0, none⟩)]] w fun e w' => ∃ v, e = .returned (.tuple #[v, .int .i64 0]) ∧ Q v w' := by
  have HF := Lib.hid hf; clear hf
  go_enter Try.func51, Try.ntmps51
  go_wp2_with fail
  refine HF.out.mono ?_
  rintro e w1 ⟨v, rfl, hq⟩
  have HQ := Lib.hid hq; clear hq
  go_wp2
  refine bodyPost_ret (v := .tuple #[v, .int .i64 0]) (by simp [results, Try.results51, go_sem]) rfl ⟨v, rfl, HQ.out⟩
set_option maxHeartbeats 1000000 in
theorem withinW_some (Q : Value → World → Prop) (ad : Addr) (a n c : Nat) (hn : n ≤ 512) (hc : n ≤ c) (h : a ≤ n) (b1 b2 b3 : Nat) (w : World) (hf : Calls Try.prog 53 #[.slice (some ad) 0 0, .pointer (some ⟨b1, 0, none⟩), .pointer (some ⟨b2, 0, none⟩), .pointer (some ⟨b3, 0, none⟩)] w fun e w' => ∃ v, e = .returned v ∧ Q v w') :
    Calls Try.prog 51 #[.slice (some ad) n c, .int .i64 a, .int .i64 0, .func (.func 53) #[] #[.pointer (some ⟨b1, 0, none⟩), .pointer (some ⟨b2, 0, none⟩), .pointer (some ⟨b3, 0, none⟩)]] w fun e w' => ∃ v, e = .returned (.tuple #[v, .int .i64 0]) ∧ Q v w' := by
  have e1 : ¬ (512 : Int) < (n : Int) := by omega
  have e2 : ¬ (a : Int) < 0 := by omega
  have e4 : ¬ (n : Int) < (a : Int) := by omega
  have e5 : ¬ (n : Int) - (a : Int) < 0 := by omega
  have e6 : (a : Int) ≤ (n : Int) := by omega
  have e7 : (n : Int) ≤ (c : Int) := by omega
  have HF := Lib.hid hf; clear hf
  go_enter Try.func51, Try.ntmps51
  go_wp2_with fail
  refine HF.out.mono ?_
  rintro e w1 ⟨v, rfl, hq⟩
  have HQ := Lib.hid hq; clear hq
  go_wp2
  refine bodyPost_ret (v := .tuple #[v, .int .i64 0]) (by simp [results, Try.results51, go_sem]) rfl ⟨v, rfl, HQ.out⟩
set_option maxHeartbeats 1000000 in
theorem withinW_pos (Q : Value → World → Prop) (b off a q n c : Nat) (hn : n ≤ 512) (hc : n ≤ c) (h : a + q ≤ n) (h0 : ¬ q = 0) (b1 b2 b3 : Nat) (w : World) (hf : Calls Try.prog 53 #[.slice (some ⟨b, off + a, none⟩) q q, .pointer (some ⟨b1, 0, none⟩), .pointer (some ⟨b2, 0, none⟩), .pointer (some ⟨b3, 0, none⟩)] w fun e w' => ∃ v, e = .returned v ∧ Q v w') :
    Calls Try.prog 51 #[.slice (some ⟨b, off, none⟩) n c, .int .i64 a, .int .i64 q, .func (.func 53) #[] #[.pointer (some ⟨b1, 0, none⟩), .pointer (some ⟨b2, 0, none⟩), .pointer (some ⟨b3, 0, none⟩)]] w fun e w' => ∃ v, e = .returned (.tuple #[v, .int .i64 0]) ∧ Q v w' := by
  have e1 : ¬ (512 : Int) < (n : Int) := by omega
  have e2 : ¬ (a : Int) < 0 := by omega
  have e3 : ¬ (q : Int) < 0 := by omega
  have e4 : ¬ (n : Int) < (a : Int) := by omega
  have e5 : ¬ (n : Int) - (a : Int) < (q : Int) := by omega
  have e6 : (a : Int) + (q : Int) ≤ (n : Int) := by omega
  have e7 : (n : Int) ≤ (c : Int) := by omega
  have e8 : ¬ ((a : Int) + (q : Int)).toNat = (a : Int).toNat := by omega
  have e9 : ((a : Int) + (q : Int)).toNat - (a : Int).toNat = q := by omega
  have HF := Lib.hid hf; clear hf
  go_enter Try.func51, Try.ntmps51
  go_wp2_with fail
  refine HF.out.mono ?_
  rintro e w1 ⟨v, rfl, hq⟩
  have HQ := Lib.hid hq; clear hq
  go_wp2
  refine bodyPost_ret (v := .tuple #[v, .int .i64 0]) (by simp [results, Try.results51, go_sem]) rfl ⟨v, rfl, HQ.out⟩
end Go.Proofs.Ythkkmnckidfmkaa.mem
namespace Go.Proofs.Ythkkmnckidfmkaa.mem
open Go Go.ChangeShapes Go.WideShapes Go.ChangeAt Go.RowKit
/-- The memory with the bytes b written from place i on; nothing where they do not fit. -/
def written (l b : List UInt8) (i : Int) : List UInt8 := if thereE l.length i b.length = 0 then l.take i.toNat ++ b ++ l.drop (i.toNat + b.length) else []
theorem copy_eq {l l' : List UInt8} {w w' : World} {v : Value} (h : CopyOf l w v w') (e : l = l') : CopyOf l' w v w' := e ▸ h
theorem bcs_take (l : List UInt8) (k : Nat) : (bcs l).take k = bcs (l.take k) := by simp [bcs, Lib.byteCells, List.map_take]
theorem bcs_drop (l : List UInt8) (k : Nat) : (bcs l).drop k = bcs (l.drop k) := by simp [bcs, Lib.byteCells, List.map_drop]
theorem tell_in (l b : List UInt8) (s0 : Value) (bb off c d a b1 b2 b3 : Nat) (A2 : Option Addr) (hn0 : 0 < l.length) (hn : l.length ≤ 512) (hc : l.length ≤ c) (ha : a + b.length ≤ l.length) (w : World) (h : Rd w (some ⟨bb, off, none⟩) (bcs l)) (h2 : Rd w A2 (bcs b))
    (k1 : w.cell? ⟨b1, 0, none⟩ = some (.slice (some ⟨bb, off, none⟩) l.length c)) (k2 : w.cell? ⟨b2, 0, none⟩ = some (.int .i64 a)) (k3 : w.cell? ⟨b3, 0, none⟩ = some (.slice A2 b.length d)) :
    Calls Try.prog 53 #[s0, .pointer (some ⟨b1, 0, none⟩), .pointer (some ⟨b2, 0, none⟩), .pointer (some ⟨b3, 0, none⟩)] w fun e w' => ∃ v, e = .returned v ∧ CopyOf (l.take a ++ b ++ l.drop (a + b.length)) w v w' := by
  have r1 : Rd w (some ⟨bb, off, none⟩) (bcs (l.take a)) := by rw [← bcs_take]; exact h.take a
  by_cases hne : c = a + b.length
  · have hd : l.drop (a + b.length) = [] := List.drop_eq_nil_of_le (by omega)
    rw [hd]
    have hcl : c = l.length := by omega
    refine wtell_end (l.take a) b s0 b1 b2 b3 bb off a b.length c d A2 (by simp; omega) rfl hne.symm (by omega) (by omega) w ?_ k2 k3 h2 r1
    rw [k1, hcl]
  · refine wtell (l.take a) b (l.drop (a + b.length)) s0 b1 b2 b3 bb off a l.length c b.length d A2 (by simp; omega) (by simp; omega) rfl (by omega) hc hne w k1 k2 k3 r1 h2 ?_
    rw [← bcs_drop]; exact h.dropAt _
theorem within_write (l b : List UInt8) (A A2 : Option Addr) (c d : Nat) (hA : A = none → c = 0) (hc : l.length ≤ c) (i : Int) (b1 b2 b3 : Nat) (w : World) (h : Rd w A (bcs l)) (h2 : Rd w A2 (bcs b))
    (k1 : w.cell? ⟨b1, 0, none⟩ = some (.slice A l.length c)) (k2 : w.cell? ⟨b2, 0, none⟩ = some (.int .i64 i)) (k3 : w.cell? ⟨b3, 0, none⟩ = some (.slice A2 b.length d)) :
    Calls Try.prog 51 #[.slice A l.length c, .int .i64 i, .int .i64 b.length, .func (.func 53) #[] #[.pointer (some ⟨b1, 0, none⟩), .pointer (some ⟨b2, 0, none⟩), .pointer (some ⟨b3, 0, none⟩)]] w fun e w' =>
      ∃ v, e = .returned (.tuple #[v, .int .i64 (thereE l.length i b.length)]) ∧ CopyOf (written l b i) w v w' := by
  have hempty : CopyOf [] w (.slice none 0 0) w := ⟨none, 0, rfl, World.ownsRow_nil _ _ _ _, Below.refl _ _⟩
  by_cases h1 : 512 < l.length
  · have e := there_long h1 i b.length
    rw [show written l b i = [] by unfold written; rw [e]; rfl, e]
    exact (withinB_long _ _ _ _ _ _ h1 w).mono fun e w' ⟨he, hw⟩ => ⟨_, he, hw ▸ hempty⟩
  · by_cases h3 : 0 ≤ i ∧ 0 ≤ (b.length : Int) ∧ i + b.length ≤ l.length
    · have e := there_in (by omega) h3
      obtain ⟨a, rfl⟩ := Int.eq_ofNat_of_zero_le h3.1
      rw [show written l b a = l.take a ++ b ++ l.drop (a + b.length) by unfold written; rw [if_pos e]; simp, e]
      by_cases hn : l.length = 0
      · have hl : l = [] := List.eq_nil_of_length_eq_zero hn
        have hb : b = [] := List.eq_nil_of_length_eq_zero (by omega)
        subst hl; subst hb
        obtain rfl : a = 0 := by simp at h3; omega
        rcases A with _ | ⟨bb, off, f⟩
        · obtain rfl := hA rfl
          exact withinW_none _ b1 b2 b3 w (wtell_none _ b1 b2 b3 d A2 w k1 k2 k3)
        · by_cases hc0 : c = 0
          · subst hc0
            exact withinW_some _ ⟨bb, off, f⟩ 0 0 0 (by omega) (by omega) (by omega) b1 b2 b3 w (wtell_cap0 ⟨bb, off, f⟩ _ b1 b2 b3 d A2 w k1 k2 k3)
          · exact withinW_some _ ⟨bb, off, f⟩ 0 0 c (by omega) (by omega) (by omega) b1 b2 b3 w (wtell_some bb off c f hc0 _ b1 b2 b3 d A2 w k1 k2 k3)
      · obtain ⟨bb, off, rfl, _⟩ := h.addr (by rw [bcs_length]; omega)
        by_cases hq : b.length = 0
        · have T := tell_in l b (.slice (some ⟨bb, off, none⟩) 0 0) bb off c d a b1 b2 b3 A2 (by omega) (by omega) hc (by omega) w h h2 k1 k2 k3
          rw [hq]
          rw [hq] at T
          exact withinW_some _ ⟨bb, off, none⟩ a l.length c (by omega) hc (by omega) b1 b2 b3 w T
        · exact withinW_pos _ bb off a b.length l.length c (by omega) hc (by omega) hq b1 b2 b3 w (tell_in l b _ bb off c d a b1 b2 b3 A2 (by omega) (by omega) hc (by omega) w h h2 k1 k2 k3)
    · have e := there_out (by omega) h3
      rw [show written l b i = [] by unfold written; rw [e]; rfl, e]
      exact (withinB_out _ _ _ _ _ _ (by omega) h3 w).mono fun e w' ⟨he, hw⟩ => ⟨_, he, hw ▸ hempty⟩
theorem got_down {f : FuncId} {args : Array Value} {l : List UInt8} {y : Int} {w X : World} (hX : Below w.heap.size w X)
    (h : Calls Try.prog f args X fun e w' => ∃ v, e = .returned (.tuple #[v, .int .i64 y]) ∧ CopyOf l X v w') : Calls Try.prog f args X fun e w' => ∃ v, e = .returned (.tuple #[v, .int .i64 y]) ∧ CopyOf l w v w' :=
  h.mono fun _ _ ⟨v, he, hv⟩ => ⟨v, he, copy_down hX hv⟩
theorem write (l b : List UInt8) (A A2 : Option Addr) (c d : Nat) (hA : A = none → c = 0) (hc : l.length ≤ c) (i : Int) (w : World) (h : Rd w A (bcs l)) (h2 : Rd w A2 (bcs b)) :
    Calls Try.prog 49 #[.slice A l.length c, .int .i64 i, .slice A2 b.length d] w fun e w' => ∃ v, e = .returned (.tuple #[v, .int .i64 (thereE l.length i b.length)]) ∧ CopyOf (written l b i) w v w' := by
  have g1 : (((w.alloc (.cells #[.slice A l.length c] 24)).alloc (.cells #[.int .i64 i] 3)).alloc (.cells #[.slice A2 b.length d] 24)).heap[w.heap.size]? = some (.cells #[.slice A l.length c] 24 (0, 0)) := blk_alloc (blk_alloc (blk_new w _ _) _) _
  have g2 : (((w.alloc (.cells #[.slice A l.length c] 24)).alloc (.cells #[.int .i64 i] 3)).alloc (.cells #[.slice A2 b.length d] 24)).heap[w.heap.size + 1]? = some (.cells #[.int .i64 i] 3 (0, 0)) := by
    have := blk_alloc (blk_new (w.alloc (.cells #[.slice A l.length c] 24)) #[.int .i64 i] 3) (.cells #[.slice A2 b.length d] 24)
    simpa using this
  have g3 : (((w.alloc (.cells #[.slice A l.length c] 24)).alloc (.cells #[.int .i64 i] 3)).alloc (.cells #[.slice A2 b.length d] 24)).heap[w.heap.size + 1 + 1]? = some (.cells #[.slice A2 b.length d] 24 (0, 0)) := by
    have := blk_new ((w.alloc (.cells #[.slice A l.length c] 24)).alloc (.cells #[.int .i64 i] 3)) #[.slice A2 b.length d] 24
    simpa using this
  have hX : Below w.heap.size w (((w.alloc (.cells #[.slice A l.length c] 24)).alloc (.cells #[.int .i64 i] 3)).alloc (.cells #[.slice A2 b.length d] 24)) := (((Below.refl _ _).alloc (Nat.le_refl _) _).alloc (by simp) _).alloc (by simp; omega) _
  have T := got_down hX <| within_write l b A A2 c d hA hc i w.heap.size (w.heap.size + 1) (w.heap.size + 1 + 1) _ (h.below hX) (h2.below hX) (blk_cell g1 0) (blk_cell g2 0) (blk_cell g3 0)
  have HT := Lib.hid T; clear T g1 g2 g3 hX h h2 hA hc
  generalize written l b i = x at *
  generalize thereE l.length i b.length = y at *
  generalize l.length = n at *
  generalize b.length = m at *
  go_enter Try.func49, Try.ntmps49
  go_wp2_with fail
  refine HT.out.mono ?_
  rintro e w1 ⟨v, rfl, hv⟩
  have HV := Lib.hid hv; clear hv
  go_wp2
  refine bodyPost_ret (v := .tuple #[v, .int .i64 y]) (by simp [results, Try.results49, go_sem]) rfl ⟨_, rfl, HV.out⟩
end Go.Proofs.Ythkkmnckidfmkaa.mem
