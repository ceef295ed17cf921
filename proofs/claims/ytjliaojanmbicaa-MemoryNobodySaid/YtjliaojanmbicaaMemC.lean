/- A word's bytes; memory.Load32; the reference's There. -/
import Derived.Test.YtjliaojanmbicaaRows
import Derived.Test.YtjliaojanmbicaaMemB
import Derived.Laws.BitsAllLaws
namespace Go.Proofs.Ytjliaojanmbicaa.mem
open Go Go.ChangeShapes Go.WideShapes Go.ChangeAt Go.RowKit
def word4 (a b c d : Nat) : Nat := ((a * 256 + b) * 256 + c) * 256 + d
theorem or_word (a b c d : Nat) (ha : a < 256) (hb : b < 256) (hc : c < 256) (hd : d < 256) :
    bits .or .u32 (bits .or .u32 (bits .or .u32 ((a : Int) % 4294967296 * 16777216 % 4294967296) ((b : Int) % 4294967296 * 65536 % 4294967296)) ((c : Int) % 4294967296 * 256 % 4294967296)) ((d : Int) % 4294967296) = (word4 a b c d : Int) := by
  have e1 : (a : Int) % 4294967296 * 16777216 % 4294967296 = ((2 ^ 24 * a : Nat) : Int) := by omega
  have e2 : (b : Int) % 4294967296 * 65536 % 4294967296 = ((65536 * b : Nat) : Int) := by omega
  have e3 : (c : Int) % 4294967296 * 256 % 4294967296 = ((256 * c : Nat) : Int) := by omega
  have e4 : (d : Int) % 4294967296 = ((d : Nat) : Int) := by omega
  rw [e1, e2, e3, e4, u32_or_nat _ _ (by omega) (by omega), ← Nat.two_pow_add_eq_or_of_lt (i := 24) (by omega) a,
    show 2 ^ 24 * a + 65536 * b = 2 ^ 16 * (256 * a + b) by omega, u32_or_nat _ _ (by omega) (by omega), ← Nat.two_pow_add_eq_or_of_lt (i := 16) (by omega) _,
    show 2 ^ 16 * (256 * a + b) + 256 * c = 2 ^ 8 * ((256 * a + b) * 256 + c) by omega, u32_or_nat _ _ (by omega) (by omega), ← Nat.two_pow_add_eq_or_of_lt (i := 8) (by omega) _]
  unfold word4; congr 1; omega
theorem tell4 (b off : Nat) (x0 x1 x2 x3 : Nat) (g0 : x0 < 256) (g1 : x1 < 256) (g2 : x2 < 256) (g3 : x3 < 256) (w : World) (h0 : w.cell? ⟨b, off, none⟩ = some (.int .u8 x0)) (h1 : w.cell? ⟨b, off + 1, none⟩ = some (.int .u8 x1)) (h2 : w.cell? ⟨b, off + 2, none⟩ = some (.int .u8 x2)) (h3 : w.cell? ⟨b, off + 3, none⟩ = some (.int .u8 x3)) :
    Calls Try.prog 32 #[.slice (some ⟨b, off, none⟩) 4 4] w fun e w' => e = .returned (.int .u32 (word4 x0 x1 x2 x3)) ∧ Below w.heap.size w w' := by
  have E := Lib.hid (or_word x0 x1 x2 x3 g0 g1 g2 g3)
  generalize (word4 x0 x1 x2 x3 : Int) = r at E
  clear g0 g1 g2 g3
  generalize (x0 : Int) = y0 at *
  generalize (x1 : Int) = y1 at *
  generalize (x2 : Int) = y2 at *
  generalize (x3 : Int) = y3 at *
  go_enter Try.func32, Try.ntmps32
  go_wp2
  go_quiet (fail)
  go_wp2
  go_ret
  exact ⟨by rw [← E.out]; rfl, below_drewN (Below.refl _ _) _⟩
def wordAt (l : List UInt8) (i : Int) : Int :=
  if thereE l.length i 4 = 0 then (word4 (l.getD i.toNat 0).toNat (l.getD (i.toNat + 1) 0).toNat (l.getD (i.toNat + 2) 0).toNat (l.getD (i.toNat + 3) 0).toNat : Int) else 0
theorem load32 (l : List UInt8) (A : Option Addr) (c : Nat) (hc : l.length ≤ c) (i : Int) (w : World) (h : Rd w A (bcs l)) :
    Calls Try.prog 12 #[.slice A l.length c, .int .i64 i] w fun e w' => e = .returned (.tuple #[.int .u32 (wordAt l i), .int .i64 (thereE l.length i 4)]) ∧ Below w.heap.size w w' := by
  have H : Calls Try.prog 31 #[.slice A l.length c, .int .i64 i, .int .i64 4, .func (.func 32) #[] #[]] w fun e w' => e = .returned (.tuple #[.int .u32 (wordAt l i), .int .i64 (thereE l.length i 4)]) ∧ Below w.heap.size w w' := by
    by_cases h1 : 512 < l.length
    · have e := there_long h1 i 4
      rw [show wordAt l i = 0 by unfold wordAt; rw [e]; rfl, e]
      exact (within32_long _ _ _ _ _ _ h1 w).mono fun e w' ⟨he, hw⟩ => ⟨he, hw ▸ Below.refl _ _⟩
    · by_cases h2 : 0 ≤ i ∧ 0 ≤ (4 : Int) ∧ i + 4 ≤ l.length
      · have e := there_in (by omega) h2
        obtain ⟨a, rfl⟩ := Int.eq_ofNat_of_zero_le h2.1
        have hx : ∀ j, j < 4 → l[a + j]? = some (l.getD (a + j) 0) := fun j hj => by
          have hlt : a + j < l.length := by omega
          simp [List.getD, List.getElem?_eq_getElem hlt]
        obtain ⟨b, off, rfl, _⟩ := h.addr (by rw [bcs_length]; omega)
        have k0 := h.cell (bcs_at (hx 0 (by decide)))
        have k1 := h.cell (bcs_at (hx 1 (by decide)))
        have k2 := h.cell (bcs_at (hx 2 (by decide)))
        have k3 := h.cell (bcs_at (hx 3 (by decide)))
        rw [← Nat.add_assoc] at k0 k1 k2 k3
        rw [show wordAt l a = (word4 (l.getD (a + 0) 0).toNat (l.getD (a + 1) 0).toNat (l.getD (a + 2) 0).toNat (l.getD (a + 3) 0).toNat : Int) by unfold wordAt; rw [if_pos e]; rfl, e]
        refine (within32_pos (fun v w' => v = .int .u32 (word4 (l.getD (a + 0) 0).toNat (l.getD (a + 1) 0).toNat (l.getD (a + 2) 0).toNat (l.getD (a + 3) 0).toNat : Int) ∧ Below w.heap.size w w') b off a 4 l.length c (by omega) hc (by omega) (by decide) w
          ((tell4 b (off + a) _ _ _ _ (UInt8.toNat_lt _) (UInt8.toNat_lt _) (UInt8.toNat_lt _) (UInt8.toNat_lt _) w k0 k1 k2 k3).mono fun e w' ⟨he, hw⟩ => ⟨_, he, rfl, hw⟩)).mono ?_
        rintro e w' ⟨v, rfl, rfl, hw⟩
        exact ⟨rfl, hw⟩
      · have e := there_out (by omega) h2
        rw [show wordAt l i = 0 by unfold wordAt; rw [e]; rfl, e]
        exact (within32_out _ _ _ _ _ _ (by omega) h2 w).mono fun e w' ⟨he, hw⟩ => ⟨he, hw ▸ Below.refl _ _⟩
  have HH := Lib.hid H; clear H
  generalize wordAt l i = x at *
  generalize thereE l.length i 4 = y at *
  generalize l.length = n at *
  go_enter Try.func12, Try.ntmps12
  go_wp2_with fail
  refine HH.out.mono ?_
  rintro e w1 ⟨rfl, hb⟩
  go_wp2
  refine bodyPost_ret (v := .tuple #[.int .u32 x, .int .i64 y]) (by simp [results, Try.results12, go_sem]) rfl ⟨rfl, hb⟩
theorem rthere_long (A : Option Addr) (c n : Nat) (i k : Int) (h : 512 < n) (w : World) : Calls Try.prog 30 #[.slice A n c, .int .i64 i, .int .i64 k] w fun e w' => e = .returned (.int .i64 3) ∧ w' = w := by
  have e : (512 : Int) < (n : Int) := by omega
  clear h
  go_enter Try.func30, Try.ntmps30
  go_wp2
  go_ret
  exact ⟨rfl, rfl⟩
theorem rthere_o0 (A : Option Addr) (c n : Nat) (i k : Int) (h : n ≤ 512 ∧ i < 0) (w : World) : Calls Try.prog 30 #[.slice A n c, .int .i64 i, .int .i64 k] w fun e w' => e = .returned (.int .i64 180) ∧ w' = w := by
  have e0 := h.1
  have e1 := h.2
  have e9 : ¬ (512 : Int) < (n : Int) := by omega
  clear h
  go_enter Try.func30, Try.ntmps30
  go_wp2
  go_ret
  exact ⟨rfl, rfl⟩
theorem rthere_o1 (A : Option Addr) (c n : Nat) (i k : Int) (h : n ≤ 512 ∧ ¬ i < 0 ∧ k < 0) (w : World) : Calls Try.prog 30 #[.slice A n c, .int .i64 i, .int .i64 k] w fun e w' => e = .returned (.int .i64 180) ∧ w' = w := by
  have e0 := h.1
  have e1 := h.2.1
  have e2 := h.2.2
  have e9 : ¬ (512 : Int) < (n : Int) := by omega
  clear h
  go_enter Try.func30, Try.ntmps30
  go_wp2
  go_ret
  exact ⟨rfl, rfl⟩
theorem rthere_o2 (A : Option Addr) (c n : Nat) (i k : Int) (h : n ≤ 512 ∧ ¬ i < 0 ∧ ¬ k < 0 ∧ 512 < i) (w : World) : Calls Try.prog 30 #[.slice A n c, .int .i64 i, .int .i64 k] w fun e w' => e = .returned (.int .i64 180) ∧ w' = w := by
  have e0 := h.1
  have e1 := h.2.1
  have e2 := h.2.2.1
  have e3 := h.2.2.2
  have e9 : ¬ (512 : Int) < (n : Int) := by omega
  clear h
  go_enter Try.func30, Try.ntmps30
  go_wp2
  go_ret
  exact ⟨rfl, rfl⟩
theorem rthere_o3 (A : Option Addr) (c n : Nat) (i k : Int) (h : n ≤ 512 ∧ ¬ i < 0 ∧ ¬ k < 0 ∧ ¬ 512 < i ∧ 512 < k) (w : World) : Calls Try.prog 30 #[.slice A n c, .int .i64 i, .int .i64 k] w fun e w' => e = .returned (.int .i64 180) ∧ w' = w := by
  have e0 := h.1
  have e1 := h.2.1
  have e2 := h.2.2.1
  have e3 := h.2.2.2.1
  have e4 := h.2.2.2.2
  have e9 : ¬ (512 : Int) < (n : Int) := by omega
  clear h
  go_enter Try.func30, Try.ntmps30
  go_wp2
  go_ret
  exact ⟨rfl, rfl⟩
theorem rthere_o4 (A : Option Addr) (c n : Nat) (i k : Int) (h : n ≤ 512 ∧ ¬ i < 0 ∧ ¬ k < 0 ∧ ¬ 512 < i ∧ ¬ 512 < k ∧ (n : Int) < i + k) (w : World) : Calls Try.prog 30 #[.slice A n c, .int .i64 i, .int .i64 k] w fun e w' => e = .returned (.int .i64 180) ∧ w' = w := by
  have e0 := h.1
  have e1 := h.2.1
  have e2 := h.2.2.1
  have e3 := h.2.2.2.1
  have e4 := h.2.2.2.2.1
  have e5 := h.2.2.2.2.2
  have e9 : ¬ (512 : Int) < (n : Int) := by omega
  clear h
  go_enter Try.func30, Try.ntmps30
  go_wp2
  go_ret
  exact ⟨rfl, rfl⟩
theorem rthere_ok (A : Option Addr) (c n : Nat) (i k : Int) (h : n ≤ 512 ∧ ¬ i < 0 ∧ ¬ k < 0 ∧ ¬ 512 < i ∧ ¬ 512 < k ∧ ¬ (n : Int) < i + k) (w : World) : Calls Try.prog 30 #[.slice A n c, .int .i64 i, .int .i64 k] w fun e w' => e = .returned (.int .i64 0) ∧ w' = w := by
  have e0 := h.1
  have e1 := h.2.1
  have e2 := h.2.2.1
  have e3 := h.2.2.2.1
  have e4 := h.2.2.2.2.1
  have e5 := h.2.2.2.2.2
  have e9 : ¬ (512 : Int) < (n : Int) := by omega
  clear h
  go_enter Try.func30, Try.ntmps30
  go_wp2
  go_ret
  exact ⟨rfl, rfl⟩
theorem rthere (A : Option Addr) (c n : Nat) (i k : Int) (w : World) : Calls Try.prog 30 #[.slice A n c, .int .i64 i, .int .i64 k] w fun e w' => e = .returned (.int .i64 (thereE n i k)) ∧ w' = w := by
  by_cases h1 : 512 < n
  · rw [there_long h1]; exact rthere_long A c n i k h1 w
  by_cases h2 : 0 ≤ i ∧ 0 ≤ k ∧ i + k ≤ n
  · rw [there_in (by omega) h2]; exact rthere_ok A c n i k (by omega) w
  · rw [there_out (by omega) h2]
    by_cases g1 : i < 0
    · exact rthere_o0 A c n i k (by omega) w
    by_cases g2 : k < 0
    · exact rthere_o1 A c n i k (by omega) w
    by_cases g3 : 512 < i
    · exact rthere_o2 A c n i k (by omega) w
    by_cases g4 : 512 < k
    · exact rthere_o3 A c n i k (by omega) w
    · exact rthere_o4 A c n i k (by omega) w
end Go.Proofs.Ytjliaojanmbicaa.mem
