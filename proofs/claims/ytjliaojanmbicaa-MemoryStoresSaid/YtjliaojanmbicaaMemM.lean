/- memory.Write's closure at an empty memory; within[[]byte] at that closure. -/
import Derived.Test.YtjliaojanmbicaaRows
import Derived.Test.YtjliaojanmbicaaMemL
import Derived.StillTailTactics
namespace Go.Proofs.Ytjliaojanmbicaa.mem
open Go Go.ChangeShapes Go.WideShapes Go.ChangeAt Go.RowKit
set_option maxHeartbeats 4000000 in
theorem wtell_none  (s0 : Value) (b1 b2 b3 d : Nat) (A2 : Option Addr) (w : World) (k1 : w.cell? ⟨b1, 0, none⟩ = some (.slice none 0 0)) (k2 : w.cell? ⟨b2, 0, none⟩ = some (.int .i64 0)) (k3 : w.cell? ⟨b3, 0, none⟩ = some (.slice A2 0 d)) :
    Calls Try.prog 35 #[s0, .pointer (some ⟨b1, 0, none⟩), .pointer (some ⟨b2, 0, none⟩), .pointer (some ⟨b3, 0, none⟩)] w fun e w' => ∃ v, e = .returned v ∧ CopyOf [] w v w' := by
  have H : Calls Try.prog 36 #[.slice (some ⟨w.heap.size, 0, none⟩) 3 3] (w.alloc (.cells #[.slice none 0 0, .slice A2 0 d, .slice none 0 0] 22)).drew fun e w' => ∃ v, e = .returned v ∧ CopyOf [] w v w' := by
    have hX : Below w.heap.size w (w.alloc (.cells #[.slice none 0 0, .slice A2 0 d, .slice none 0 0] 22)).drew := ((Below.refl _ _).alloc (Nat.le_refl _) _).drew
    have hcat := cat3 [] [] [] w.heap.size none A2 none 0 d 0 (by simp) (by simp) (by simp) (w.alloc (.cells #[.slice none 0 0, .slice A2 0 d, .slice none 0 0] 22)).drew
      (Rd.new w #[.slice none 0 0, .slice A2 0 d, .slice none 0 0] _) Rd.nil Rd.nil Rd.nil
    exact hcat.mono fun e w' ⟨v, he, hv⟩ => ⟨v, he, copy_down hX hv⟩
  have z0 : IntKind.i64.wrap 0 = 0 := by decide
  have HH := Lib.hid H; clear H
  go_enter Try.func35, Try.ntmps35
  go_wp2_with fail
  go_still_tail 10, (by kernel_rfl)
  go_wp2_with fail
  refine HH.out.mono ?_
  rintro e w2 ⟨v, rfl, hv⟩
  have HV := Lib.hid hv; clear hv
  go_wp2
  go_ret
  exact ⟨_, rfl, HV.out⟩
set_option maxHeartbeats 4000000 in
theorem wtell_cap0 (ad : Addr) (s0 : Value) (b1 b2 b3 d : Nat) (A2 : Option Addr) (w : World) (k1 : w.cell? ⟨b1, 0, none⟩ = some (.slice (some ad) 0 0)) (k2 : w.cell? ⟨b2, 0, none⟩ = some (.int .i64 0)) (k3 : w.cell? ⟨b3, 0, none⟩ = some (.slice A2 0 d)) :
    Calls Try.prog 35 #[s0, .pointer (some ⟨b1, 0, none⟩), .pointer (some ⟨b2, 0, none⟩), .pointer (some ⟨b3, 0, none⟩)] w fun e w' => ∃ v, e = .returned v ∧ CopyOf [] w v w' := by
  have H : Calls Try.prog 36 #[.slice (some ⟨w.heap.size, 0, none⟩) 3 3] (w.alloc (.cells #[.slice (some ad) 0 0, .slice A2 0 d, .slice (some ad) 0 0] 22)).drew fun e w' => ∃ v, e = .returned v ∧ CopyOf [] w v w' := by
    have hX : Below w.heap.size w (w.alloc (.cells #[.slice (some ad) 0 0, .slice A2 0 d, .slice (some ad) 0 0] 22)).drew := ((Below.refl _ _).alloc (Nat.le_refl _) _).drew
    have hcat := cat3 [] [] [] w.heap.size (some ad) A2 (some ad) 0 d 0 (by simp) (by simp) (by simp) (w.alloc (.cells #[.slice (some ad) 0 0, .slice A2 0 d, .slice (some ad) 0 0] 22)).drew
      (Rd.new w #[.slice (some ad) 0 0, .slice A2 0 d, .slice (some ad) 0 0] _) Rd.nil Rd.nil Rd.nil
    exact hcat.mono fun e w' ⟨v, he, hv⟩ => ⟨v, he, copy_down hX hv⟩
  have z0 : IntKind.i64.wrap 0 = 0 := by decide
  have HH := Lib.hid H; clear H
  go_enter Try.func35, Try.ntmps35
  go_wp2_with fail
  go_still_tail 10, (by kernel_rfl)
  go_wp2_with fail
  refine HH.out.mono ?_
  rintro e w2 ⟨v, rfl, hv⟩
  have HV := Lib.hid hv; clear hv
  go_wp2
  go_ret
  exact ⟨_, rfl, HV.out⟩
set_option maxHeartbeats 4000000 in
theorem wtell_some (b off c : Nat) (f : Option Nat) (hc : ¬ c = 0) (s0 : Value) (b1 b2 b3 d : Nat) (A2 : Option Addr) (w : World) (k1 : w.cell? ⟨b1, 0, none⟩ = some (.slice (some ⟨b, off, f⟩) 0 c)) (k2 : w.cell? ⟨b2, 0, none⟩ = some (.int .i64 0)) (k3 : w.cell? ⟨b3, 0, none⟩ = some (.slice A2 0 d)) :
    Calls Try.prog 35 #[s0, .pointer (some ⟨b1, 0, none⟩), .pointer (some ⟨b2, 0, none⟩), .pointer (some ⟨b3, 0, none⟩)] w fun e w' => ∃ v, e = .returned v ∧ CopyOf [] w v w' := by
  have H : Calls Try.prog 36 #[.slice (some ⟨w.heap.size, 0, none⟩) 3 3] (w.alloc (.cells #[.slice (some ⟨b, off, f⟩) 0 c, .slice A2 0 d, .slice (some ⟨b, off, f⟩) 0 c] 22)).drew fun e w' => ∃ v, e = .returned v ∧ CopyOf [] w v w' := by
    have hX : Below w.heap.size w (w.alloc (.cells #[.slice (some ⟨b, off, f⟩) 0 c, .slice A2 0 d, .slice (some ⟨b, off, f⟩) 0 c] 22)).drew := ((Below.refl _ _).alloc (Nat.le_refl _) _).drew
    have hcat := cat3 [] [] [] w.heap.size (some ⟨b, off, f⟩) A2 (some ⟨b, off, f⟩) c d c (by simp) (by simp) (by simp) (w.alloc (.cells #[.slice (some ⟨b, off, f⟩) 0 c, .slice A2 0 d, .slice (some ⟨b, off, f⟩) 0 c] 22)).drew
      (Rd.new w #[.slice (some ⟨b, off, f⟩) 0 c, .slice A2 0 d, .slice (some ⟨b, off, f⟩) 0 c] _) Rd.nil Rd.nil Rd.nil
    exact hcat.mono fun e w' ⟨v, he, hv⟩ => ⟨v, he, copy_down hX hv⟩
  have e0 : (0 : Int) ≤ (c : Int) := by omega
  have z0 : IntKind.i64.wrap 0 = 0 := by decide
  have HH := Lib.hid H; clear H
  go_enter Try.func35, Try.ntmps35
  go_wp2_with fail
  go_still_tail 10, (by kernel_rfl)
  go_wp2_with fail
  refine HH.out.mono ?_
  rintro e w2 ⟨v, rfl, hv⟩
  have HV := Lib.hid hv; clear hv
  go_wp2
  go_ret
  exact ⟨_, rfl, HV.out⟩
set_option maxHeartbeats 1000000 in
theorem withinW_none (Q : Value → World → Prop)  (b1 b2 b3 : Nat) (w : World) (hf : Calls Try.prog 35 #[.slice none 0 0, .pointer (some ⟨b1, 0, none⟩), .pointer (some ⟨b2, 0, none⟩), .pointer (some ⟨b3, 0, none⟩)] w fun e w' => ∃ v, e = .returned v ∧ Q v w') :
    Calls Try.prog 33 #[.slice none 0 0, .int .i64 0, .int .i64 0, .func (.func 35) #[] #[.pointer (some ⟨b1, 0, none⟩), .pointer (some ⟨b2, 0, none⟩), .pointer (some ⟨b3, 0, none⟩)]] w fun e w' => ∃ v, e = .returned (.tuple #[v, .int .i64 0]) ∧ Q v w' := by
  have HF := Lib.hid hf; clear hf
  go_enter Try.func33, Try.ntmps33
  go_wp2_with fail
  refine HF.out.mono ?_
  rintro e w1 ⟨v, rfl, hq⟩
  have HQ := Lib.hid hq; clear hq
  go_wp2
  refine bodyPost_ret (v := .tuple #[v, .int .i64 0]) (by simp [results, Try.results33, go_sem]) rfl ⟨v, rfl, HQ.out⟩
set_option maxHeartbeats 1000000 in
theorem withinW_some (Q : Value → World → Prop) (ad : Addr) (a n c : Nat) (hn : n ≤ 512) (hc : n ≤ c) (h : a ≤ n) (b1 b2 b3 : Nat) (w : World) (hf : Calls Try.prog 35 #[.slice (some ad) 0 0, .pointer (some ⟨b1, 0, none⟩), .pointer (some ⟨b2, 0, none⟩), .pointer (some ⟨b3, 0, none⟩)] w fun e w' => ∃ v, e = .returned v ∧ Q v w') :
    Calls Try.prog 33 #[.slice (some ad) n c, .int .i64 a, .int .i64 0, .func (.func 35) #[] #[.pointer (some ⟨b1, 0, none⟩), .pointer (some ⟨b2, 0, none⟩), .pointer (some ⟨b3, 0, none⟩)]] w fun e w' => ∃ v, e = .returned (.tuple #[v, .int .i64 0]) ∧ Q v w' := by
  have e1 : ¬ (512 : Int) < (n : Int) := by omega
  have e2 : ¬ (a : Int) < 0 := by omega
  have e4 : ¬ (n : Int) < (a : Int) := by omega
  have e5 : ¬ (n : Int) - (a : Int) < 0 := by omega
  have e6 : (a : Int) ≤ (n : Int) := by omega
  have e7 : (n : Int) ≤ (c : Int) := by omega
  have HF := Lib.hid hf; clear hf
  go_enter Try.func33, Try.ntmps33
  go_wp2_with fail
  refine HF.out.mono ?_
  rintro e w1 ⟨v, rfl, hq⟩
  have HQ := Lib.hid hq; clear hq
  go_wp2
  refine bodyPost_ret (v := .tuple #[v, .int .i64 0]) (by simp [results, Try.results33, go_sem]) rfl ⟨v, rfl, HQ.out⟩
set_option maxHeartbeats 1000000 in
theorem withinW_pos (Q : Value → World → Prop) (b off a q n c : Nat) (hn : n ≤ 512) (hc : n ≤ c) (h : a + q ≤ n) (h0 : ¬ q = 0) (b1 b2 b3 : Nat) (w : World) (hf : Calls Try.prog 35 #[.slice (some ⟨b, off + a, none⟩) q q, .pointer (some ⟨b1, 0, none⟩), .pointer (some ⟨b2, 0, none⟩), .pointer (some ⟨b3, 0, none⟩)] w fun e w' => ∃ v, e = .returned v ∧ Q v w') :
    Calls Try.prog 33 #[.slice (some ⟨b, off, none⟩) n c, .int .i64 a, .int .i64 q, .func (.func 35) #[] #[.pointer (some ⟨b1, 0, none⟩), .pointer (some ⟨b2, 0, none⟩), .pointer (some ⟨b3, 0, none⟩)]] w fun e w' => ∃ v, e = .returned (.tuple #[v, .int .i64 0]) ∧ Q v w' := by
  have e1 : ¬ (512 : Int) < (n : Int) := by omega
  have e2 : ¬ (a : Int) < 0 := by omega
  have e3 : ¬ (q : Int) < 0 := by omega
  have e4 : ¬ (n : Int) < (a : Int) := by omega
  have e5 : ¬ (n : Int) - (a : Int) < (q : Int) := by omega
  have e6 : (a : Int) + (q : Int) ≤ (n : Int) := by omega
  have e7 : (n : Int) ≤ (c : Int) := by omega
  have e8 : ¬ ((a : Int) + (q : Int)).toNat = (a : Int).toNat := by omega
  have e9 : ((a : Int) + (q : Int)).toNat - (a : Int).toNat = q := by omega
  have HF := Lib.hid hf; clear hf
  go_enter Try.func33, Try.ntmps33
  go_wp2_with fail
  refine HF.out.mono ?_
  rintro e w1 ⟨v, rfl, hq⟩
  have HQ := Lib.hid hq; clear hq
  go_wp2
  refine bodyPost_ret (v := .tuple #[v, .int .i64 0]) (by simp [results, Try.results33, go_sem]) rfl ⟨v, rfl, HQ.out⟩
end Go.Proofs.Ytjliaojanmbicaa.mem
