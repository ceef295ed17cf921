/- Channels: what was answered is written over; one row more stays a row of bytes; no condition. -/
import Derived.Test.YtlmecndldclnnaaRows
import Derived.Test.YtlmecndldclnnaaChL
namespace Go.Proofs.Ytlmecndldclnnaa.chan
open Go Go.ChangeShapes Go.WideShapes Go.ChangeAt Go.RowKit Go.Proofs.Ytlmecndldclnnaa.rows
set_option maxRecDepth 100000 in
set_option maxHeartbeats 2000000 in
theorem spoil2_go (i f t cp s : Int) (lo hi n c : Nat) (A : Option Addr) (h63 : n ≤ 1000000) (w : World) (h : Spoily lo hi w A n) (A9 : Option Addr) (n9 : Nat) (h9 : BysIn 5 lo hi w A9 n9) (hhi : hi ≤ w.heap.size) :
    Calls Try.prog 14 #[.agg #[.int .i64 i, .int .i64 f, .int .i64 t, .int .i64 cp, .int .i64 s, .slice (A) n c]] w fun e w' => e = .returned (.tuple #[]) ∧ BysIn 5 lo hi w' A9 n9 ∧ Below (min lo w.heap.size) w w' := by
  have P0 := Lib.hid (blk_new w #[.int .i64 i, .int .i64 f, .int .i64 t, .int .i64 cp, .int .i64 s, .slice (A) n c] 26)
  have hX := Lib.hid ((Below.refl w.heap.size w).alloc (Nat.le_refl _) (.cells #[.int .i64 i, .int .i64 f, .int .i64 t, .int .i64 cp, .int .i64 s, .slice (A) n c] 26))
  have H := Lib.hid (h.below hX.out hhi)
  have h63' : (n : Int) ≤ 1000000 := by omega
  have H9 := Lib.hid (h9.below hX.out hhi)
  clear h h9
  go_enter Try.func14, Try.ntmps14
  go_wp2
  generalize (w.alloc (.cells #[.int .i64 i, .int .i64 f, .int .i64 t, .int .i64 cp, .int .i64 s, .slice (A) n c] 26)) = w0 at *
  go_loopw [2] (fun iv wr => ∃ k : Nat, k ≤ n ∧ iv = .int .i64 k ∧ Spoily lo hi wr A n ∧ BysIn 5 lo hi wr A9 n9 ∧ wr.heap[w.heap.size]? = some (.cells #[.int .i64 i, .int .i64 f, .int .i64 t, .int .i64 cp, .int .i64 s, .slice (A) n c] 26 (0, 0)) ∧ Below lo w0 wr) (fun iv _ => n - (intOf iv).toNat)
  case atStart => exact ⟨0, Nat.zero_le _, rfl, H.out, H9.out, P0.out, Below.refl _ _⟩
  case round =>
    obtain ⟨k, hk, rfl, hs, h9, hp, hb⟩ := hrel
    have a5 := blk_cell hp 5
    have HS := Lib.hid hs; have HP := Lib.hid hp; have HB := Lib.hid hb; have HR := Lib.hid h9
    clear hs hp hb h9
    by_cases hkl : k < n
    · have hki : (k : Int) < (n : Int) := by omega
      have hk0 : (0 : Int) ≤ (k : Int) := by omega
      go_wp2
      go_loopw [3] (fun jv wi => ∃ j : Nat, j ≤ 1000000 ∧ jv = .int .i64 j ∧ Spoily lo hi wi A n ∧ BysIn 5 lo hi wi A9 n9 ∧ wi.heap[w.heap.size]? = some (.cells #[.int .i64 i, .int .i64 f, .int .i64 t, .int .i64 cp, .int .i64 s, .slice (A) n c] 26 (0, 0)) ∧ Below lo w0 wi) (fun jv _ => 1000000 - (intOf jv).toNat)
      case atStart => exact ⟨0, Nat.zero_le _, rfl, HS.out, HR.out, HP.out, HB.out⟩
      case round =>
        obtain ⟨j, hj, rfl, hs, h9, hp, hb⟩ := hrel
        obtain ⟨b, off, A', m, c', rfl, e1, e2, e3⟩ := hs.at hkl
        have a6 := blk_cell hp 5
        have hj0 : (0 : Int) ≤ (j : Int) := by omega
        have HS2 := Lib.hid hs; have HP2 := Lib.hid hp; have HB2 := Lib.hid hb; have HR2 := Lib.hid h9
        clear hs hp hb h9
        by_cases hjm : j < m
        · have hji : (j : Int) < (m : Int) := by omega
          obtain ⟨g, z, rfl, l1, l2, l3, l4⟩ := e3.at hjm
          obtain ⟨cs, hg⟩ : ∃ cs, wr.heap[g]? = some (.cells cs 5 (0, 0)) := by
            rcases e3 with h | ⟨g', cs, e, _, _, hg, _⟩
            · omega
            · injection e with e; injection e with e; subst e; exact ⟨cs, hg⟩
          have HG := Lib.hid hg
          have hne : w.heap.size ≠ g := by omega
          clear hg
          go_wp2
          go_roundw
          case rel => exact ⟨j + 1, by omega, by go_num, HS2.out.set HG.out j _, HR2.out.set _ j _, blk_far HP2.out (p := ⟨g, j, none⟩) hne _, HB2.out.setCell (p := ⟨g, j, none⟩) l1 _⟩
          case measure => simp [intOf]; omega
        · have hji : ¬ (j : Int) < (m : Int) := by omega
          go_wp2
          go_roundw
          case rel => exact ⟨k + 1, by omega, by go_num, HS2.out, HR2.out, HP2.out, HB2.out⟩
          case measure => simp [intOf]; omega
    · obtain rfl : k = n := by omega
      have HF := Lib.hid ((hX.out.mono (Nat.min_le_right lo _)).trans (HB.out.mono (Nat.min_le_left _ _)))
      go_wp2
      first | (refine bodyPost_end (results_none (by rfl) _ _ _) (by rfl) ?_) | skip
      exact ⟨rfl, HR.out, HF.out⟩
theorem spoil2 (x : Ch) (lo hi c : Nat) (A : Option Addr) (ls : List Msg) (h63 : ls.length ≤ 1000000) (hm : ∀ l ∈ ls, l.length ≤ 1000000) (A9 : Option Addr) (n9 : Nat) (w : World) (h : Own2 lo hi w A ls) (h9 : BysIn 5 lo hi w A9 n9) (hlo : lo ≤ w.heap.size) (hhi : hi ≤ w.heap.size) :
    Calls Try.prog 14 #[.agg (qcells x A ls.length c)] w fun e w' => e = .returned (.tuple #[]) ∧ BysIn 5 lo hi w' A9 n9 ∧ Below lo w w' := by
  obtain ⟨i, f, t, cp, s⟩ := x
  have T := spoil2_go i f t cp s lo hi ls.length c A h63 w (Own2.spoily h hm) A9 n9 h9 hhi
  rw [Nat.min_eq_left hlo] at T
  exact T
end Go.Proofs.Ytlmecndldclnnaa.chan
