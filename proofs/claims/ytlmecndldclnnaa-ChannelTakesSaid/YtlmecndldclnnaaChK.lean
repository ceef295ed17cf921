/- Channels: is a queue that was handed in as it was, the room behind it too; no condition. -/
import Derived.Test.YtlmecndldclnnaaRows
import Derived.Test.YtlmecndldclnnaaChI
import Derived.Test.YtlmecndldclnnaaChF
import Derived.BigQuiet
namespace Go.Proofs.Ytlmecndldclnnaa.chan
open Go Go.ChangeShapes Go.WideShapes Go.ChangeAt Go.RowKit Go.Proofs.Ytlmecndldclnnaa.rows
set_option maxRecDepth 100000 in
set_option maxHeartbeats 1000000 in
theorem stays_go (i f t cp s : Int) (g0 lo hi n c d : Nat) (B : Option Addr) (ls : List Msg) (hn : ls.length = n) (h63 : n ≤ 20) (hc : n + 1 ≤ c) (hml : ∀ l ∈ ls, l.length ≤ 1000000) (w : World) (h : Roomy lo hi w g0 ls) (hhi : hi ≤ w.heap.size) (hb : Rms w B ls) :
    Calls Try.prog 15 #[.agg #[.int .i64 i, .int .i64 f, .int .i64 t, .int .i64 cp, .int .i64 s, .slice (some ⟨g0, 0, none⟩) n c], .agg #[.int .i64 i, .int .i64 f, .int .i64 t, .int .i64 cp, .int .i64 s, .slice (B) n d]] w fun e w' => e = .returned (.bool true) ∧ Below w.heap.size w w' := by
  have P0 := Lib.hid (blk_alloc (blk_new w #[.int .i64 i, .int .i64 f, .int .i64 t, .int .i64 cp, .int .i64 s, .slice (some ⟨g0, 0, none⟩) n c] 26) (.cells #[.int .i64 i, .int .i64 f, .int .i64 t, .int .i64 cp, .int .i64 s, .slice (B) n d] 26))
  have Q0 := Lib.hid (show ((w.alloc (.cells #[.int .i64 i, .int .i64 f, .int .i64 t, .int .i64 cp, .int .i64 s, .slice (some ⟨g0, 0, none⟩) n c] 26)).alloc (.cells #[.int .i64 i, .int .i64 f, .int .i64 t, .int .i64 cp, .int .i64 s, .slice (B) n d] 26)).heap[w.heap.size + 1]? = some (.cells #[.int .i64 i, .int .i64 f, .int .i64 t, .int .i64 cp, .int .i64 s, .slice (B) n d] 26 (0, 0)) by have := blk_new (w.alloc (.cells #[.int .i64 i, .int .i64 f, .int .i64 t, .int .i64 cp, .int .i64 s, .slice (some ⟨g0, 0, none⟩) n c] 26)) #[.int .i64 i, .int .i64 f, .int .i64 t, .int .i64 cp, .int .i64 s, .slice (B) n d] 26; simpa using this)
  have hX := Lib.hid (((Below.refl w.heap.size w).alloc (Nat.le_refl _) (.cells #[.int .i64 i, .int .i64 f, .int .i64 t, .int .i64 cp, .int .i64 s, .slice (some ⟨g0, 0, none⟩) n c] 26)).alloc (by simp) (.cells #[.int .i64 i, .int .i64 f, .int .i64 t, .int .i64 cp, .int .i64 s, .slice (B) n d] 26))
  have H := Lib.hid (h.below hX.out hhi)
  have HI := Lib.hid (Nat.le_trans hhi hX.out.size)
  have TS : Hid (∀ w', Below ((w.alloc (.cells #[.int .i64 i, .int .i64 f, .int .i64 t, .int .i64 cp, .int .i64 s, .slice (some ⟨g0, 0, none⟩) n c] 26)).alloc (.cells #[.int .i64 i, .int .i64 f, .int .i64 t, .int .i64 cp, .int .i64 s, .slice (B) n d] 26)).heap.size ((w.alloc (.cells #[.int .i64 i, .int .i64 f, .int .i64 t, .int .i64 cp, .int .i64 s, .slice (some ⟨g0, 0, none⟩) n c] 26)).alloc (.cells #[.int .i64 i, .int .i64 f, .int .i64 t, .int .i64 cp, .int .i64 s, .slice (B) n d] 26)) w' → Calls Try.prog 13 #[.agg #[.int .i64 i, .int .i64 f, .int .i64 t, .int .i64 cp, .int .i64 s, .slice (some ⟨g0, 0, none⟩) n c], .agg #[.int .i64 i, .int .i64 f, .int .i64 t, .int .i64 cp, .int .i64 s, .slice (B) n d]] w' fun e w'' => e = .returned (.bool true) ∧ Below w'.heap.size w' w'') := Lib.hid (fun w' hh => by
    have T := rsame ⟨i, f, t, cp, s⟩ ⟨i, f, t, cp, s⟩ ls ls (some ⟨g0, 0, none⟩) B c d (by omega) w' (H.out.below hh HI.out).own2.rows ((hb.below hX.out).below hh)
    rw [show sameQ ⟨i, f, t, cp, s⟩ ls ⟨i, f, t, cp, s⟩ ls = true by unfold sameQ; simp, hn] at T
    exact T)
  obtain ⟨g9, c9, l1, l2, l3⟩ := H.out.last
  rw [hn] at l1
  have HN := Lib.hid hn; have HML := Lib.hid hml
  have hsum : IntKind.i64.wrap ((n : Int) + 1) = (n : Int) + 1 := IntWalk.i64_in _ (by omega)
  have hc1 : ((n : Int) + 1) ≤ (c : Int) := by omega
  have hc0 : ¬ c = 0 := by omega
  have hn1 : (n : Int) < (n : Int) + 1 := by omega
  have lt9 := World.block_lt_of_cell? _ _ l3
  have L1 := Lib.hid l1; have L3 := Lib.hid l3; have L2 := Lib.hid l2
  clear h hb hn hml
  go_enter Try.func15, Try.ntmps15
  go_wp2
  clear l1 l3
  generalize ((w.alloc (.cells #[.int .i64 i, .int .i64 f, .int .i64 t, .int .i64 cp, .int .i64 s, .slice (some ⟨g0, 0, none⟩) n c] 26)).alloc (.cells #[.int .i64 i, .int .i64 f, .int .i64 t, .int .i64 cp, .int .i64 s, .slice (B) n d] 26)) = w0 at *
  go_loopw [7] (fun iv wr => ∃ k : Nat, k ≤ n ∧ iv = .int .i64 k ∧ Below w0.heap.size w0 wr) (fun iv _ => n - (intOf iv).toNat)
  case atStart => exact ⟨0, Nat.zero_le _, rfl, Below.refl _ _⟩
  case round =>
    obtain ⟨k, hk, rfl, hb⟩ := hrel
    have HB := Lib.hid hb
    have a9 := blk_cell (blk_below P0.out hb (blk_lt P0.out)) 5
    by_cases hkl : k < n
    · have hki : (k : Int) < (n : Int) := by omega
      have hk0 : (0 : Int) ≤ (k : Int) := by omega
      obtain ⟨l, hl⟩ : ∃ l, ls[k]? = some l := ⟨_, List.getElem?_eq_getElem (by rw [HN.out]; exact hkl)⟩
      obtain ⟨g, cap, m1, m2, m3⟩ := (H.out.below hb HI.out).at hl
      have hml := HML.out l (List.mem_of_getElem? hl)
      obtain ⟨m, hm⟩ : ∃ m, l.length = m := ⟨_, rfl⟩
      rw [hm] at m1 m2 m3 hml
      have hs1 : IntKind.i64.wrap ((m : Int) + 1) = (m : Int) + 1 := IntWalk.i64_in _ (by omega)
      have hm1 : ((m : Int) + 1) ≤ (cap : Int) := by omega
      have hm2 : (0 : Int) ≤ (m : Int) + 1 := by omega
      have hm3 : ¬ cap = 0 := by omega
      have hm4 : (m : Int) < (m : Int) + 1 := by omega
      have hm5 : (0 : Int) ≤ (m : Int) := by omega
      clear hm hl hb
      go_wp2_with fail
      go_quiet (fail)
      go_wp2
      go_roundw
      case rel => exact ⟨k + 1, by omega, by go_num, below_drewN HB.out _⟩
      case measure => simp [intOf]; omega
    · obtain rfl : k = n := by omega
      have a0 : wr.cell? ⟨w.heap.size, 0, none⟩ = some (.int .i64 i) := blk_cell (blk_below P0.out hb (blk_lt P0.out)) 0
      have a1 : wr.cell? ⟨w.heap.size, 1, none⟩ = some (.int .i64 f) := blk_cell (blk_below P0.out hb (blk_lt P0.out)) 1
      have a2 : wr.cell? ⟨w.heap.size, 2, none⟩ = some (.int .i64 t) := blk_cell (blk_below P0.out hb (blk_lt P0.out)) 2
      have a3 : wr.cell? ⟨w.heap.size, 3, none⟩ = some (.int .i64 cp) := blk_cell (blk_below P0.out hb (blk_lt P0.out)) 3
      have a4 : wr.cell? ⟨w.heap.size, 4, none⟩ = some (.int .i64 s) := blk_cell (blk_below P0.out hb (blk_lt P0.out)) 4
      have a5 : wr.cell? ⟨w.heap.size, 5, none⟩ = some (.slice (some ⟨g0, 0, none⟩) k c) := blk_cell (blk_below P0.out hb (blk_lt P0.out)) 5
      have b0 : wr.cell? ⟨w.heap.size + 1, 0, none⟩ = some (.int .i64 i) := blk_cell (blk_below Q0.out hb (blk_lt Q0.out)) 0
      have b1 : wr.cell? ⟨w.heap.size + 1, 1, none⟩ = some (.int .i64 f) := blk_cell (blk_below Q0.out hb (blk_lt Q0.out)) 1
      have b2 : wr.cell? ⟨w.heap.size + 1, 2, none⟩ = some (.int .i64 t) := blk_cell (blk_below Q0.out hb (blk_lt Q0.out)) 2
      have b3 : wr.cell? ⟨w.heap.size + 1, 3, none⟩ = some (.int .i64 cp) := blk_cell (blk_below Q0.out hb (blk_lt Q0.out)) 3
      have b4 : wr.cell? ⟨w.heap.size + 1, 4, none⟩ = some (.int .i64 s) := blk_cell (blk_below Q0.out hb (blk_lt Q0.out)) 4
      have b5 : wr.cell? ⟨w.heap.size + 1, 5, none⟩ = some (.slice B k d) := blk_cell (blk_below Q0.out hb (blk_lt Q0.out)) 5
      have lst := (hb.cell (p := ⟨g9, 0, none⟩) lt9).trans L3.out
      clear hb
      go_wp2_with fail
      refine (TS.out _ HB.out).mono ?_
      rintro e w2 ⟨rfl, bb2⟩
      have lst2 := (bb2.cell (p := ⟨g9, 0, none⟩) (Nat.lt_of_lt_of_le lt9 HB.out.size)).trans lst
      have HF := Lib.hid (hX.out.trans ((HB.out.trans (bb2.mono HB.out.size)).mono hX.out.size))
      clear lst bb2 a0 b0 a1 b1 a2 b2 a3 b3 a4 b4 a5 b5
      go_wp2
      go_ret
      exact ⟨rfl, HF.out⟩
theorem stays (x : Ch) (g0 lo hi c d : Nat) (B : Option Addr) (ls : List Msg) (h63 : ls.length ≤ 20) (hc : ls.length + 1 ≤ c) (hml : ∀ l ∈ ls, l.length ≤ 1000000) (w : World) (h : Roomy lo hi w g0 ls) (hhi : hi ≤ w.heap.size) (hb : Rms w B ls) :
    Calls Try.prog 15 #[.agg (qcells x (some ⟨g0, 0, none⟩) ls.length c), .agg (qcells x B ls.length d)] w fun e w' => e = .returned (.bool true) ∧ Below w.heap.size w w' := by
  obtain ⟨i, f, t, cp, s⟩ := x
  exact stays_go i f t cp s g0 lo hi ls.length c d B ls rfl h63 hc hml w h hhi hb
end Go.Proofs.Ytlmecndldclnnaa.chan
