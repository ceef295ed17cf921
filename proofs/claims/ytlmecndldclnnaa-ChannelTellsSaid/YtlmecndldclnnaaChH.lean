/- Channels: is a queue more than is gone through; no condition. -/
import Derived.Test.YtlmecndldclnnaaRows
import Derived.Test.YtlmecndldclnnaaChB
namespace Go.Proofs.Ytlmecndldclnnaa.chan
open Go Go.ChangeShapes Go.WideShapes Go.ChangeAt Go.RowKit Go.Proofs.Ytlmecndldclnnaa.rows
def sumL (ls : List Msg) : Nat := (ls.map fun l => l.length).sum
def greatQ (ls : List Msg) : Bool := decide (20 < ls.length) || decide (400 < ls.length + sumL ls)
theorem greatQ_no {ls : List Msg} (h : greatQ ls = false) : ls.length ≤ 20 ∧ ls.length + sumL ls ≤ 400 := by
  simp [greatQ] at h; omega
theorem sumL_take {ls : List Msg} {k : Nat} {l : Msg} (h : ls[k]? = some l) : sumL (ls.take (k + 1)) = sumL (ls.take k) + l.length := by
  unfold sumL; rw [List.take_add_one, h]; simp
theorem sumL_le (ls : List Msg) (B : Nat) (h : ∀ l ∈ ls, l.length ≤ B) : sumL ls ≤ ls.length * B := by
  unfold sumL
  induction ls with
  | nil => simp
  | cons a r ih =>
    have h1 := h a (by simp)
    have h2 := ih fun l hl => h l (by simp [hl])
    simp only [List.map_cons, List.sum_cons, List.length_cons, Nat.succ_mul]; omega
theorem len_le {ls : List Msg} {l : Msg} (h : l ∈ ls) : l.length ≤ sumL ls := by
  unfold sumL
  induction ls with
  | nil => cases h
  | cons a r ih =>
    simp only [List.map_cons, List.sum_cons]
    cases h with
    | head => omega
    | tail _ h => have := ih h; omega
set_option maxHeartbeats 1000000 in
theorem great_big (i f t cp s : Int) (A : Option Addr) (n c : Nat) (h20 : (20 : Int) < (n : Int)) (w : World) :
    Calls Try.prog 9 #[.agg #[.int .i64 i, .int .i64 f, .int .i64 t, .int .i64 cp, .int .i64 s, .slice A n c]] w fun e w' => e = .returned (.bool true) ∧ Below w.heap.size w w' := by
  go_enter Try.func9, Try.ntmps9
  go_wp2
  go_ret
  exact ⟨rfl, (Below.refl _ _).alloc (Nat.le_refl _) _⟩
set_option maxHeartbeats 2000000 in
theorem great_sum (i f t cp s : Int) (A : Option Addr) (n c : Nat) (ls : List Msg) (hn : ls.length = n) (h20 : (n : Int) ≤ 20) (hL : ∀ l ∈ ls, l.length ≤ 140737488355328) (w : World) (h : Rms w A ls) :
    Calls Try.prog 9 #[.agg #[.int .i64 i, .int .i64 f, .int .i64 t, .int .i64 cp, .int .i64 s, .slice A n c]] w fun e w' => e = .returned (.bool (decide (400 < ls.length + sumL ls))) ∧ Below w.heap.size w w' := by
  have g0 := Lib.hid (blk_new w #[.int .i64 i, .int .i64 f, .int .i64 t, .int .i64 cp, .int .i64 s, .slice A n c] 26)
  have H := Lib.hid (h.below ((Below.refl w.heap.size w).alloc (Nat.le_refl _) (.cells #[.int .i64 i, .int .i64 f, .int .i64 t, .int .i64 cp, .int .i64 s, .slice A n c] 26)))
  have hX := Lib.hid ((Below.refl w.heap.size w).alloc (Nat.le_refl _) (.cells #[.int .i64 i, .int .i64 f, .int .i64 t, .int .i64 cp, .int .i64 s, .slice A n c] 26))
  have HL := Lib.hid hL; have HN := Lib.hid hn
  clear h hL hn
  go_enter Try.func9, Try.ntmps9
  go_wp2
  go_loopw [3, 4] (fun v iv wr => ∃ k : Nat, k ≤ n ∧ iv = .int .i64 k ∧ v = .int .i64 ((n + sumL (ls.take k) : Nat) : Int) ∧ wr = w.alloc (.cells #[.int .i64 i, .int .i64 f, .int .i64 t, .int .i64 cp, .int .i64 s, .slice A n c] 26)) (fun _ iv _ => n - (intOf iv).toNat)
  case atStart => exact ⟨0, Nat.zero_le _, rfl, by simp [sumL], rfl⟩
  case round =>
    obtain ⟨k, hk, rfl, rfl, rfl⟩ := hrel
    by_cases hkl : k < n
    · have hki : (k : Int) < (n : Int) := by omega
      have hk20 : (k : Int) < 20 := by omega
      obtain ⟨b, off, rfl⟩ := H.out.addr (by rw [HN.out]; omega)
      obtain ⟨l, hl⟩ : ∃ l, ls[k]? = some l := ⟨_, List.getElem?_eq_getElem (by rw [HN.out]; exact hkl)⟩
      obtain ⟨A', c', cl, _, _, _⟩ := H.out.at hl
      have HS := Lib.hid (sumL_take hl)
      have hb1 := sumL_le (ls.take k) 140737488355328 (fun l hl => HL.out l (List.mem_of_mem_take hl))
      have hb2 : (ls.take k).length ≤ 20 := by rw [List.length_take, HN.out]; omega
      have hb3 : (ls.take k).length * 140737488355328 ≤ 20 * 140737488355328 := Nat.mul_le_mul_right _ hb2
      have hb4 := HL.out l (List.mem_of_getElem? hl)
      have a5 := blk_cell g0.out 5
      clear hb2 hl
      generalize sumL (ls.take k) = S at *
      generalize l.length = m at *
      have hSn : n + S ≤ 2814749767106580 := by omega
      have hSm : m ≤ 140737488355328 := by omega
      clear hb1 hb3 hb4
      have hsum : IntKind.i64.wrap (((n + S : Nat) : Int) + (m : Int)) = ((n + S + m : Nat) : Int) := by
        rw [IntWalk.i64_in _ (by omega)]; omega
      go_wp2
      go_roundw
      case rel => exact ⟨k + 1, by omega, by go_num, by rw [HS.out]; first | rfl | (congr 1; omega) | (go_num; omega), trivial⟩
      case measure => simp [intOf]; omega
    · obtain rfl : k = n := by omega
      have e : sumL (ls.take k) = sumL ls := by rw [← HN.out, List.take_length]
      rw [e]
      have HD := Lib.hid (show decide ((400 : Int) < ((k + sumL ls : Nat) : Int)) = decide (400 < ls.length + sumL ls) by rw [HN.out]; congr 1; exact propext (by omega))
      have a5 := blk_cell g0.out 5
      go_wp2
      go_ret
      exact ⟨by rw [← HD.out]; first | rfl | (congr 2; simp), hX.out⟩
theorem great (x : Ch) (A : Option Addr) (c : Nat) (ls : List Msg) (hL : ∀ l ∈ ls, l.length ≤ 140737488355328) (w : World) (h : Rms w A ls) :
    Calls Try.prog 9 #[.agg (qcells x A ls.length c)] w fun e w' => e = .returned (.bool (greatQ ls)) ∧ Below w.heap.size w w' := by
  obtain ⟨i, f, t, cp, s⟩ := x
  unfold greatQ
  by_cases h20 : 20 < ls.length
  · rw [decide_eq_true h20, Bool.true_or]
    exact great_big i f t cp s A ls.length c (by omega) w
  · rw [decide_eq_false h20, Bool.false_or]
    exact great_sum i f t cp s A ls.length c ls rfl (by omega) hL w h
end Go.Proofs.Ytlmecndldclnnaa.chan
