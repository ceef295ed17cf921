/- memory.within at its three types: what it tells where n bytes are there, and where they are not. -/
import Derived.Test.YtjliaojanmbicaaRows
import Derived.Test.YtjliaojanmbicaaLibOpen
namespace Go.Proofs.Ytjliaojanmbicaa.mem
open Go Go.ChangeShapes Go.WideShapes Go.ChangeAt Go.RowKit
/-- The address of the part that begins at a and has q bytes. -/
def sub (A : Option Addr) (a q : Nat) : Option Addr := if q = 0 then A else A.map (·.add a)
theorem sub_zero (A : Option Addr) (a : Nat) : sub A a 0 = A := rfl
theorem sub_pos (b off a q : Nat) (h : ¬ q = 0) : sub (some ⟨b, off, none⟩) a q = some ⟨b, off + a, none⟩ := by simp [sub, h, Addr.add]
def thereE (n : Nat) (i k : Int) : Int := if 512 < n then 3 else if 0 ≤ i ∧ 0 ≤ k ∧ i + k ≤ n then 0 else 180
theorem within8_long (G : Value) (i k : Int) (n c : Nat) (A : Option Addr) (h : 512 < n) (w : World) : Calls Try.prog 28 #[.slice A n c, .int .i64 i, .int .i64 k, G] w fun e w' => e = .returned (.tuple #[.int .u8 0, .int .i64 3]) ∧ w' = w := by
  have h1 : (512 : Int) < (n : Int) := by omega
  go_enter Try.func28, Try.ntmps28
  go_wp2
  refine bodyPost_ret (v := .tuple #[.int .u8 0, .int .i64 3]) (by simp [results, Try.results28, go_sem]) rfl ⟨rfl, rfl⟩
theorem within8_out0 (G : Value) (i k : Int) (n c : Nat) (A : Option Addr) (hn : n ≤ 512) (h : i < 0) (w : World) : Calls Try.prog 28 #[.slice A n c, .int .i64 i, .int .i64 k, G] w fun e w' => e = .returned (.tuple #[.int .u8 0, .int .i64 180]) ∧ w' = w := by
  have h1 : ¬ (512 : Int) < (n : Int) := by omega
  go_enter Try.func28, Try.ntmps28
  go_wp2
  refine bodyPost_ret (v := .tuple #[.int .u8 0, .int .i64 180]) (by simp [results, Try.results28, go_sem]) rfl ⟨rfl, rfl⟩
theorem within8_out1 (G : Value) (i k : Int) (n c : Nat) (A : Option Addr) (hn : n ≤ 512) (h : ¬ i < 0 ∧ k < 0) (w : World) : Calls Try.prog 28 #[.slice A n c, .int .i64 i, .int .i64 k, G] w fun e w' => e = .returned (.tuple #[.int .u8 0, .int .i64 180]) ∧ w' = w := by
  have h1 : ¬ (512 : Int) < (n : Int) := by omega
  have h2 := h.1; have h3 := h.2; clear h
  go_enter Try.func28, Try.ntmps28
  go_wp2
  refine bodyPost_ret (v := .tuple #[.int .u8 0, .int .i64 180]) (by simp [results, Try.results28, go_sem]) rfl ⟨rfl, rfl⟩
theorem within8_out2 (G : Value) (i k : Int) (n c : Nat) (A : Option Addr) (hn : n ≤ 512) (h : ¬ i < 0 ∧ ¬ k < 0 ∧ (n : Int) < i) (w : World) : Calls Try.prog 28 #[.slice A n c, .int .i64 i, .int .i64 k, G] w fun e w' => e = .returned (.tuple #[.int .u8 0, .int .i64 180]) ∧ w' = w := by
  have h1 : ¬ (512 : Int) < (n : Int) := by omega
  have h2 := h.1; have h3 := h.2.1; have h4 := h.2.2; clear h
  go_enter Try.func28, Try.ntmps28
  go_wp2
  refine bodyPost_ret (v := .tuple #[.int .u8 0, .int .i64 180]) (by simp [results, Try.results28, go_sem]) rfl ⟨rfl, rfl⟩
theorem within8_out3 (G : Value) (i k : Int) (n c : Nat) (A : Option Addr) (hn : n ≤ 512) (h : ¬ i < 0 ∧ ¬ k < 0 ∧ ¬ (n : Int) < i ∧ (n : Int) - i < k) (w : World) : Calls Try.prog 28 #[.slice A n c, .int .i64 i, .int .i64 k, G] w fun e w' => e = .returned (.tuple #[.int .u8 0, .int .i64 180]) ∧ w' = w := by
  have h1 : ¬ (512 : Int) < (n : Int) := by omega
  have h2 := h.1; have h3 := h.2.1; have h4 := h.2.2.1; have h5 := h.2.2.2; clear h
  go_enter Try.func28, Try.ntmps28
  go_wp2
  refine bodyPost_ret (v := .tuple #[.int .u8 0, .int .i64 180]) (by simp [results, Try.results28, go_sem]) rfl ⟨rfl, rfl⟩
theorem within8_out (G : Value) (i k : Int) (n c : Nat) (A : Option Addr) (hn : n ≤ 512) (h : ¬ (0 ≤ i ∧ 0 ≤ k ∧ i + k ≤ n)) (w : World) : Calls Try.prog 28 #[.slice A n c, .int .i64 i, .int .i64 k, G] w fun e w' => e = .returned (.tuple #[.int .u8 0, .int .i64 180]) ∧ w' = w := by
  by_cases g0 : i < 0
  · exact within8_out0 G i k n c A hn g0 w
  by_cases g1 : k < 0
  · exact within8_out1 G i k n c A hn ⟨g0, g1⟩ w
  by_cases g2 : (n : Int) < i
  · exact within8_out2 G i k n c A hn ⟨g0, g1, g2⟩ w
  · exact within8_out3 G i k n c A hn ⟨g0, g1, g2, by omega⟩ w
set_option maxHeartbeats 1000000 in
theorem within8_pos (Q : Value → World → Prop) (b off a q n c : Nat) (hn : n ≤ 512) (hc : n ≤ c) (h : a + q ≤ n) (h0 : ¬ q = 0) (w : World) (hf : Calls Try.prog 29 #[.slice (some ⟨b, off + a, none⟩) q q] w fun e w' => ∃ v, e = .returned v ∧ Q v w') :
    Calls Try.prog 28 #[.slice (some ⟨b, off, none⟩) n c, .int .i64 a, .int .i64 q, .func (.func 29) #[] #[]] w fun e w' => ∃ v, e = .returned (.tuple #[v, .int .i64 0]) ∧ Q v w' := by
  have e1 : ¬ (512 : Int) < (n : Int) := by omega
  have e2 : ¬ (a : Int) < 0 := by omega
  have e3 : ¬ (q : Int) < 0 := by omega
  have e4 : ¬ (n : Int) < (a : Int) := by omega
  have e5 : ¬ (n : Int) - (a : Int) < (q : Int) := by omega
  have e6 : (a : Int) + (q : Int) ≤ (n : Int) := by omega
  have e7 : (n : Int) ≤ (c : Int) := by omega
  have e8 : ¬ ((a : Int) + (q : Int)).toNat = (a : Int).toNat := by omega
  have e9 : ((a : Int) + (q : Int)).toNat - (a : Int).toNat = q := by omega
  have HF := Lib.hid hf; clear hf
  go_enter Try.func28, Try.ntmps28
  go_wp2_with fail
  refine HF.out.mono ?_
  rintro e w1 ⟨v, rfl, hq⟩
  have HQ := Lib.hid hq; clear hq
  go_wp2
  refine bodyPost_ret (v := .tuple #[v, .int .i64 0]) (by simp [results, Try.results28, go_sem]) rfl ⟨v, rfl, HQ.out⟩
theorem within32_long (G : Value) (i k : Int) (n c : Nat) (A : Option Addr) (h : 512 < n) (w : World) : Calls Try.prog 31 #[.slice A n c, .int .i64 i, .int .i64 k, G] w fun e w' => e = .returned (.tuple #[.int .u32 0, .int .i64 3]) ∧ w' = w := by
  have h1 : (512 : Int) < (n : Int) := by omega
  go_enter Try.func31, Try.ntmps31
  go_wp2
  refine bodyPost_ret (v := .tuple #[.int .u32 0, .int .i64 3]) (by simp [results, Try.results31, go_sem]) rfl ⟨rfl, rfl⟩
theorem within32_out0 (G : Value) (i k : Int) (n c : Nat) (A : Option Addr) (hn : n ≤ 512) (h : i < 0) (w : World) : Calls Try.prog 31 #[.slice A n c, .int .i64 i, .int .i64 k, G] w fun e w' => e = .returned (.tuple #[.int .u32 0, .int .i64 180]) ∧ w' = w := by
  have h1 : ¬ (512 : Int) < (n : Int) := by omega
  go_enter Try.func31, Try.ntmps31
  go_wp2
  refine bodyPost_ret (v := .tuple #[.int .u32 0, .int .i64 180]) (by simp [results, Try.results31, go_sem]) rfl ⟨rfl, rfl⟩
theorem within32_out1 (G : Value) (i k : Int) (n c : Nat) (A : Option Addr) (hn : n ≤ 512) (h : ¬ i < 0 ∧ k < 0) (w : World) : Calls Try.prog 31 #[.slice A n c, .int .i64 i, .int .i64 k, G] w fun e w' => e = .returned (.tuple #[.int .u32 0, .int .i64 180]) ∧ w' = w := by
  have h1 : ¬ (512 : Int) < (n : Int) := by omega
  have h2 := h.1; have h3 := h.2; clear h
  go_enter Try.func31, Try.ntmps31
  go_wp2
  refine bodyPost_ret (v := .tuple #[.int .u32 0, .int .i64 180]) (by simp [results, Try.results31, go_sem]) rfl ⟨rfl, rfl⟩
theorem within32_out2 (G : Value) (i k : Int) (n c : Nat) (A : Option Addr) (hn : n ≤ 512) (h : ¬ i < 0 ∧ ¬ k < 0 ∧ (n : Int) < i) (w : World) : Calls Try.prog 31 #[.slice A n c, .int .i64 i, .int .i64 k, G] w fun e w' => e = .returned (.tuple #[.int .u32 0, .int .i64 180]) ∧ w' = w := by
  have h1 : ¬ (512 : Int) < (n : Int) := by omega
  have h2 := h.1; have h3 := h.2.1; have h4 := h.2.2; clear h
  go_enter Try.func31, Try.ntmps31
  go_wp2
  refine bodyPost_ret (v := .tuple #[.int .u32 0, .int .i64 180]) (by simp [results, Try.results31, go_sem]) rfl ⟨rfl, rfl⟩
theorem within32_out3 (G : Value) (i k : Int) (n c : Nat) (A : Option Addr) (hn : n ≤ 512) (h : ¬ i < 0 ∧ ¬ k < 0 ∧ ¬ (n : Int) < i ∧ (n : Int) - i < k) (w : World) : Calls Try.prog 31 #[.slice A n c, .int .i64 i, .int .i64 k, G] w fun e w' => e = .returned (.tuple #[.int .u32 0, .int .i64 180]) ∧ w' = w := by
  have h1 : ¬ (512 : Int) < (n : Int) := by omega
  have h2 := h.1; have h3 := h.2.1; have h4 := h.2.2.1; have h5 := h.2.2.2; clear h
  go_enter Try.func31, Try.ntmps31
  go_wp2
  refine bodyPost_ret (v := .tuple #[.int .u32 0, .int .i64 180]) (by simp [results, Try.results31, go_sem]) rfl ⟨rfl, rfl⟩
theorem within32_out (G : Value) (i k : Int) (n c : Nat) (A : Option Addr) (hn : n ≤ 512) (h : ¬ (0 ≤ i ∧ 0 ≤ k ∧ i + k ≤ n)) (w : World) : Calls Try.prog 31 #[.slice A n c, .int .i64 i, .int .i64 k, G] w fun e w' => e = .returned (.tuple #[.int .u32 0, .int .i64 180]) ∧ w' = w := by
  by_cases g0 : i < 0
  · exact within32_out0 G i k n c A hn g0 w
  by_cases g1 : k < 0
  · exact within32_out1 G i k n c A hn ⟨g0, g1⟩ w
  by_cases g2 : (n : Int) < i
  · exact within32_out2 G i k n c A hn ⟨g0, g1, g2⟩ w
  · exact within32_out3 G i k n c A hn ⟨g0, g1, g2, by omega⟩ w
set_option maxHeartbeats 1000000 in
theorem within32_pos (Q : Value → World → Prop) (b off a q n c : Nat) (hn : n ≤ 512) (hc : n ≤ c) (h : a + q ≤ n) (h0 : ¬ q = 0) (w : World) (hf : Calls Try.prog 32 #[.slice (some ⟨b, off + a, none⟩) q q] w fun e w' => ∃ v, e = .returned v ∧ Q v w') :
    Calls Try.prog 31 #[.slice (some ⟨b, off, none⟩) n c, .int .i64 a, .int .i64 q, .func (.func 32) #[] #[]] w fun e w' => ∃ v, e = .returned (.tuple #[v, .int .i64 0]) ∧ Q v w' := by
  have e1 : ¬ (512 : Int) < (n : Int) := by omega
  have e2 : ¬ (a : Int) < 0 := by omega
  have e3 : ¬ (q : Int) < 0 := by omega
  have e4 : ¬ (n : Int) < (a : Int) := by omega
  have e5 : ¬ (n : Int) - (a : Int) < (q : Int) := by omega
  have e6 : (a : Int) + (q : Int) ≤ (n : Int) := by omega
  have e7 : (n : Int) ≤ (c : Int) := by omega
  have e8 : ¬ ((a : Int) + (q : Int)).toNat = (a : Int).toNat := by omega
  have e9 : ((a : Int) + (q : Int)).toNat - (a : Int).toNat = q := by omega
  have HF := Lib.hid hf; clear hf
  go_enter Try.func31, Try.ntmps31
  go_wp2_with fail
  refine HF.out.mono ?_
  rintro e w1 ⟨v, rfl, hq⟩
  have HQ := Lib.hid hq; clear hq
  go_wp2
  refine bodyPost_ret (v := .tuple #[v, .int .i64 0]) (by simp [results, Try.results31, go_sem]) rfl ⟨v, rfl, HQ.out⟩
theorem withinB_long (G : Value) (i k : Int) (n c : Nat) (A : Option Addr) (h : 512 < n) (w : World) : Calls Try.prog 33 #[.slice A n c, .int .i64 i, .int .i64 k, G] w fun e w' => e = .returned (.tuple #[.slice none 0 0, .int .i64 3]) ∧ w' = w := by
  have h1 : (512 : Int) < (n : Int) := by omega
  go_enter Try.func33, Try.ntmps33
  go_wp2
  refine bodyPost_ret (v := .tuple #[.slice none 0 0, .int .i64 3]) (by simp [results, Try.results33, go_sem]) rfl ⟨rfl, rfl⟩
theorem withinB_out0 (G : Value) (i k : Int) (n c : Nat) (A : Option Addr) (hn : n ≤ 512) (h : i < 0) (w : World) : Calls Try.prog 33 #[.slice A n c, .int .i64 i, .int .i64 k, G] w fun e w' => e = .returned (.tuple #[.slice none 0 0, .int .i64 180]) ∧ w' = w := by
  have h1 : ¬ (512 : Int) < (n : Int) := by omega
  go_enter Try.func33, Try.ntmps33
  go_wp2
  refine bodyPost_ret (v := .tuple #[.slice none 0 0, .int .i64 180]) (by simp [results, Try.results33, go_sem]) rfl ⟨rfl, rfl⟩
theorem withinB_out1 (G : Value) (i k : Int) (n c : Nat) (A : Option Addr) (hn : n ≤ 512) (h : ¬ i < 0 ∧ k < 0) (w : World) : Calls Try.prog 33 #[.slice A n c, .int .i64 i, .int .i64 k, G] w fun e w' => e = .returned (.tuple #[.slice none 0 0, .int .i64 180]) ∧ w' = w := by
  have h1 : ¬ (512 : Int) < (n : Int) := by omega
  have h2 := h.1; have h3 := h.2; clear h
  go_enter Try.func33, Try.ntmps33
  go_wp2
  refine bodyPost_ret (v := .tuple #[.slice none 0 0, .int .i64 180]) (by simp [results, Try.results33, go_sem]) rfl ⟨rfl, rfl⟩
theorem withinB_out2 (G : Value) (i k : Int) (n c : Nat) (A : Option Addr) (hn : n ≤ 512) (h : ¬ i < 0 ∧ ¬ k < 0 ∧ (n : Int) < i) (w : World) : Calls Try.prog 33 #[.slice A n c, .int .i64 i, .int .i64 k, G] w fun e w' => e = .returned (.tuple #[.slice none 0 0, .int .i64 180]) ∧ w' = w := by
  have h1 : ¬ (512 : Int) < (n : Int) := by omega
  have h2 := h.1; have h3 := h.2.1; have h4 := h.2.2; clear h
  go_enter Try.func33, Try.ntmps33
  go_wp2
  refine bodyPost_ret (v := .tuple #[.slice none 0 0, .int .i64 180]) (by simp [results, Try.results33, go_sem]) rfl ⟨rfl, rfl⟩
theorem withinB_out3 (G : Value) (i k : Int) (n c : Nat) (A : Option Addr) (hn : n ≤ 512) (h : ¬ i < 0 ∧ ¬ k < 0 ∧ ¬ (n : Int) < i ∧ (n : Int) - i < k) (w : World) : Calls Try.prog 33 #[.slice A n c, .int .i64 i, .int .i64 k, G] w fun e w' => e = .returned (.tuple #[.slice none 0 0, .int .i64 180]) ∧ w' = w := by
  have h1 : ¬ (512 : Int) < (n : Int) := by omega
  have h2 := h.1; have h3 := h.2.1; have h4 := h.2.2.1; have h5 := h.2.2.2; clear h
  go_enter Try.func33, Try.ntmps33
  go_wp2
  refine bodyPost_ret (v := .tuple #[.slice none 0 0, .int .i64 180]) (by simp [results, Try.results33, go_sem]) rfl ⟨rfl, rfl⟩
theorem withinB_out (G : Value) (i k : Int) (n c : Nat) (A : Option Addr) (hn : n ≤ 512) (h : ¬ (0 ≤ i ∧ 0 ≤ k ∧ i + k ≤ n)) (w : World) : Calls Try.prog 33 #[.slice A n c, .int .i64 i, .int .i64 k, G] w fun e w' => e = .returned (.tuple #[.slice none 0 0, .int .i64 180]) ∧ w' = w := by
  by_cases g0 : i < 0
  · exact withinB_out0 G i k n c A hn g0 w
  by_cases g1 : k < 0
  · exact withinB_out1 G i k n c A hn ⟨g0, g1⟩ w
  by_cases g2 : (n : Int) < i
  · exact withinB_out2 G i k n c A hn ⟨g0, g1, g2⟩ w
  · exact withinB_out3 G i k n c A hn ⟨g0, g1, g2, by omega⟩ w
set_option maxHeartbeats 1000000 in
theorem withinB_none0 (Q : Value → World → Prop) (a q n c : Nat) (hn : n ≤ 512) (hc : n ≤ c) (hz : c = 0) (h : a + q ≤ n) (w : World) (hf : Calls Try.prog 34 #[.slice none 0 0] w fun e w' => ∃ v, e = .returned v ∧ Q v w') :
    Calls Try.prog 33 #[.slice none n c, .int .i64 a, .int .i64 q, .func (.func 34) #[] #[]] w fun e w' => ∃ v, e = .returned (.tuple #[v, .int .i64 0]) ∧ Q v w' := by
  have e1 : ¬ (512 : Int) < (n : Int) := by omega
  have e2 : ¬ (a : Int) < 0 := by omega
  have e3 : ¬ (q : Int) < 0 := by omega
  have e4 : ¬ (n : Int) < (a : Int) := by omega
  have e5 : ¬ (n : Int) - (a : Int) < (q : Int) := by omega
  have e6 : (a : Int) + (q : Int) ≤ (n : Int) := by omega
  have e7 : (n : Int) ≤ (c : Int) := by omega
  obtain rfl : c = 0 := hz
  obtain rfl : n = 0 := by omega
  obtain rfl : a = 0 := by omega
  obtain rfl : q = 0 := by omega
  clear e1 e2 e3 e4 e5 e6 e7
  have HF := Lib.hid hf; clear hf
  go_enter Try.func33, Try.ntmps33
  go_wp2_with fail
  refine HF.out.mono ?_
  rintro e w1 ⟨v, rfl, hq⟩
  have HQ := Lib.hid hq; clear hq
  go_wp2
  refine bodyPost_ret (v := .tuple #[v, .int .i64 0]) (by simp [results, Try.results33, go_sem]) rfl ⟨v, rfl, HQ.out⟩
set_option maxHeartbeats 1000000 in
theorem withinB_some0 (Q : Value → World → Prop) (ad : Addr) (a n c : Nat) (hn : n ≤ 512) (hc : n ≤ c) (h : a ≤ n) (w : World) (hf : Calls Try.prog 34 #[.slice (some ad) 0 0] w fun e w' => ∃ v, e = .returned v ∧ Q v w') :
    Calls Try.prog 33 #[.slice (some ad) n c, .int .i64 a, .int .i64 0, .func (.func 34) #[] #[]] w fun e w' => ∃ v, e = .returned (.tuple #[v, .int .i64 0]) ∧ Q v w' := by
  have e1 : ¬ (512 : Int) < (n : Int) := by omega
  have e2 : ¬ (a : Int) < 0 := by omega
  have e4 : ¬ (n : Int) < (a : Int) := by omega
  have e5 : ¬ (n : Int) - (a : Int) < 0 := by omega
  have e6 : (a : Int) ≤ (n : Int) := by omega
  have e7 : (n : Int) ≤ (c : Int) := by omega
  have HF := Lib.hid hf; clear hf
  go_enter Try.func33, Try.ntmps33
  go_wp2_with fail
  refine HF.out.mono ?_
  rintro e w1 ⟨v, rfl, hq⟩
  have HQ := Lib.hid hq; clear hq
  go_wp2
  refine bodyPost_ret (v := .tuple #[v, .int .i64 0]) (by simp [results, Try.results33, go_sem]) rfl ⟨v, rfl, HQ.out⟩
set_option maxHeartbeats 1000000 in
theorem withinB_pos (Q : Value → World → Prop) (b off a q n c : Nat) (hn : n ≤ 512) (hc : n ≤ c) (h : a + q ≤ n) (h0 : ¬ q = 0) (w : World) (hf : Calls Try.prog 34 #[.slice (some ⟨b, off + a, none⟩) q q] w fun e w' => ∃ v, e = .returned v ∧ Q v w') :
    Calls Try.prog 33 #[.slice (some ⟨b, off, none⟩) n c, .int .i64 a, .int .i64 q, .func (.func 34) #[] #[]] w fun e w' => ∃ v, e = .returned (.tuple #[v, .int .i64 0]) ∧ Q v w' := by
  have e1 : ¬ (512 : Int) < (n : Int) := by omega
  have e2 : ¬ (a : Int) < 0 := by omega
  have e3 : ¬ (q : Int) < 0 := by omega
  have e4 : ¬ (n : Int) < (a : Int) := by omega
  have e5 : ¬ (n : Int) - (a : Int) < (q : Int) := by omega
  have e6 : (a : Int) + (q : Int) ≤ (n : Int) := by omega
  have e7 : (n : Int) ≤ (c : Int) := by omega
  have e8 : ¬ ((a : Int) + (q : Int)).toNat = (a : Int).toNat := by omega
  have e9 : ((a : Int) + (q : Int)).toNat - (a : Int).toNat = q := by omega
  have HF := Lib.hid hf; clear hf
  go_enter Try.func33, Try.ntmps33
  go_wp2_with fail
  refine HF.out.mono ?_
  rintro e w1 ⟨v, rfl, hq⟩
  have HQ := Lib.hid hq; clear hq
  go_wp2
  refine bodyPost_ret (v := .tuple #[v, .int .i64 0]) (by simp [results, Try.results33, go_sem]) rfl ⟨v, rfl, HQ.out⟩
end Go.Proofs.Ytjliaojanmbicaa.mem
