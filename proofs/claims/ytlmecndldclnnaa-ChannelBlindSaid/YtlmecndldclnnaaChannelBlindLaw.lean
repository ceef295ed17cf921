/- The law ChannelBlind: what is told of a message does not hang on the queue; no condition. -/
import Derived.Test.YtlmecndldclnnaaRows
import Derived.Test.YtlmecndldclnnaaChG
import Derived.Test.YtlmecndldclnnaaChH
namespace Go.Proofs.Ytlmecndldclnnaa.chan
open Go Go.ChangeShapes Go.WideShapes Go.ChangeAt Go.RowKit Go.Proofs.Ytlmecndldclnnaa.rows
set_option maxHeartbeats 2000000 in
theorem blind1 (i f t cp s i2 f2 t2 cp2 s2 : Int) (A B : Option Addr) (n c k d : Nat) (la lb : List Msg) (hla : la.length = n) (hlb : lb.length = k) (hLa : ∀ l ∈ la, l.length ≤ 140737488355328) (hLb : ∀ l ∈ lb, l.length ≤ 140737488355328) (Am : Option Addr) (r cm : Nat) (h1 : greatQ la = true) (w : World) (ha : Rms w A la) (hb : Rms w B lb) : Calls Try.prog 6 #[.agg #[.int .i64 i, .int .i64 f, .int .i64 t, .int .i64 cp, .int .i64 s, .slice (A) n c], .agg #[.int .i64 i2, .int .i64 f2, .int .i64 t2, .int .i64 cp2, .int .i64 s2, .slice (B) k d], .slice Am r cm] w fun e w' => e = .returned (.bool true) ∧ Below w.heap.size w w' := by
  have _ := hlb; have _ := hLb; have _ := hb
  have P0 := Lib.hid (blk_alloc (blk_new w #[.int .i64 i, .int .i64 f, .int .i64 t, .int .i64 cp, .int .i64 s, .slice (A) n c] 26) (.cells #[.int .i64 i, .int .i64 f, .int .i64 t, .int .i64 cp, .int .i64 s, .slice (B) k d] 26))
  have Q0 := Lib.hid (show ((w.alloc (.cells #[.int .i64 i, .int .i64 f, .int .i64 t, .int .i64 cp, .int .i64 s, .slice (A) n c] 26)).alloc (.cells #[.int .i64 i, .int .i64 f, .int .i64 t, .int .i64 cp, .int .i64 s, .slice (B) k d] 26)).heap[w.heap.size + 1]? = some (.cells #[.int .i64 i, .int .i64 f, .int .i64 t, .int .i64 cp, .int .i64 s, .slice (B) k d] 26 (0, 0)) by have := blk_new (w.alloc (.cells #[.int .i64 i, .int .i64 f, .int .i64 t, .int .i64 cp, .int .i64 s, .slice (A) n c] 26)) #[.int .i64 i, .int .i64 f, .int .i64 t, .int .i64 cp, .int .i64 s, .slice (B) k d] 26; simpa using this)
  have hX := Lib.hid (((Below.refl w.heap.size w).alloc (Nat.le_refl _) (.cells #[.int .i64 i, .int .i64 f, .int .i64 t, .int .i64 cp, .int .i64 s, .slice (A) n c] 26)).alloc (by simp) (.cells #[.int .i64 i, .int .i64 f, .int .i64 t, .int .i64 cp, .int .i64 s, .slice (B) k d] 26))
  have hsz : ((w.alloc (.cells #[.int .i64 i, .int .i64 f, .int .i64 t, .int .i64 cp, .int .i64 s, .slice (A) n c] 26)).alloc (.cells #[.int .i64 i, .int .i64 f, .int .i64 t, .int .i64 cp, .int .i64 s, .slice (B) k d] 26)).heap.size = w.heap.size + 2 := by simp
  have T1 : Hid (∀ w', Below ((w.alloc (.cells #[.int .i64 i, .int .i64 f, .int .i64 t, .int .i64 cp, .int .i64 s, .slice (A) n c] 26)).alloc (.cells #[.int .i64 i, .int .i64 f, .int .i64 t, .int .i64 cp, .int .i64 s, .slice (B) k d] 26)).heap.size ((w.alloc (.cells #[.int .i64 i, .int .i64 f, .int .i64 t, .int .i64 cp, .int .i64 s, .slice (A) n c] 26)).alloc (.cells #[.int .i64 i, .int .i64 f, .int .i64 t, .int .i64 cp, .int .i64 s, .slice (B) k d] 26)) w' → Calls Try.prog 9 #[.agg #[.int .i64 i, .int .i64 f, .int .i64 t, .int .i64 cp, .int .i64 s, .slice (A) n c]] w' fun e w'' => e = .returned (.bool true) ∧ Below w'.heap.size w' w'') := Lib.hid (fun w' hh => by
    have T := great ⟨i, f, t, cp, s⟩ A c la hLa w' ((ha.below hX.out).below hh)
    rw [hla, h1] at T; exact T)
  clear ha hb hLa hLb hla hlb h1
  go_enter Try.func6, Try.ntmps6
  go_wp2_with fail
  refine (T1.out _ (Below.refl _ _)).mono ?_
  rintro e w1 ⟨rfl, b1_⟩
  have D1 := Lib.hid (b1_.mono (Nat.le_refl _)); clear b1_
  have a0 : w1.cell? ⟨w.heap.size, 0, none⟩ = some (.int .i64 i) := blk_cell (blk_below P0.out D1.out (by omega)) 0
  have a1 : w1.cell? ⟨w.heap.size, 1, none⟩ = some (.int .i64 f) := blk_cell (blk_below P0.out D1.out (by omega)) 1
  have a2 : w1.cell? ⟨w.heap.size, 2, none⟩ = some (.int .i64 t) := blk_cell (blk_below P0.out D1.out (by omega)) 2
  have a3 : w1.cell? ⟨w.heap.size, 3, none⟩ = some (.int .i64 cp) := blk_cell (blk_below P0.out D1.out (by omega)) 3
  have a4 : w1.cell? ⟨w.heap.size, 4, none⟩ = some (.int .i64 s) := blk_cell (blk_below P0.out D1.out (by omega)) 4
  have a5 : w1.cell? ⟨w.heap.size, 5, none⟩ = some (.slice A n c) := blk_cell (blk_below P0.out D1.out (by omega)) 5
  have b0 : w1.cell? ⟨w.heap.size + 1, 0, none⟩ = some (.int .i64 i) := blk_cell (blk_below Q0.out D1.out (by omega)) 0
  have b1 : w1.cell? ⟨w.heap.size + 1, 1, none⟩ = some (.int .i64 f) := blk_cell (blk_below Q0.out D1.out (by omega)) 1
  have b2 : w1.cell? ⟨w.heap.size + 1, 2, none⟩ = some (.int .i64 t) := blk_cell (blk_below Q0.out D1.out (by omega)) 2
  have b3 : w1.cell? ⟨w.heap.size + 1, 3, none⟩ = some (.int .i64 cp) := blk_cell (blk_below Q0.out D1.out (by omega)) 3
  have b4 : w1.cell? ⟨w.heap.size + 1, 4, none⟩ = some (.int .i64 s) := blk_cell (blk_below Q0.out D1.out (by omega)) 4
  have b5 : w1.cell? ⟨w.heap.size + 1, 5, none⟩ = some (.slice B k d) := blk_cell (blk_below Q0.out D1.out (by omega)) 5
  go_wp2_with fail
  refine (awake _).mono ?_
  rintro e w2 ⟨rfl, b2_⟩
  have D2 := Lib.hid (D1.out.trans (b2_.mono D1.out.size)); clear b2_ a0 b0 a1 b1 a2 b2 a3 b3 a4 b4 a5 b5
  go_wp2
  go_ret
  exact ⟨rfl, hX.out.trans (D2.out.mono hX.out.size)⟩
set_option maxHeartbeats 2000000 in
theorem blind2 (i f t cp s i2 f2 t2 cp2 s2 : Int) (A B : Option Addr) (n c k d : Nat) (la lb : List Msg) (hla : la.length = n) (hlb : lb.length = k) (hLa : ∀ l ∈ la, l.length ≤ 140737488355328) (hLb : ∀ l ∈ lb, l.length ≤ 140737488355328) (Am : Option Addr) (r cm : Nat) (h1 : greatQ la = false) (h2 : greatQ lb = true) (w : World) (ha : Rms w A la) (hb : Rms w B lb) : Calls Try.prog 6 #[.agg #[.int .i64 i, .int .i64 f, .int .i64 t, .int .i64 cp, .int .i64 s, .slice (A) n c], .agg #[.int .i64 i2, .int .i64 f2, .int .i64 t2, .int .i64 cp2, .int .i64 s2, .slice (B) k d], .slice Am r cm] w fun e w' => e = .returned (.bool true) ∧ Below w.heap.size w w' := by
  have P0 := Lib.hid (blk_alloc (blk_new w #[.int .i64 i, .int .i64 f, .int .i64 t, .int .i64 cp, .int .i64 s, .slice (A) n c] 26) (.cells #[.int .i64 i, .int .i64 f, .int .i64 t, .int .i64 cp, .int .i64 s, .slice (B) k d] 26))
  have Q0 := Lib.hid (show ((w.alloc (.cells #[.int .i64 i, .int .i64 f, .int .i64 t, .int .i64 cp, .int .i64 s, .slice (A) n c] 26)).alloc (.cells #[.int .i64 i, .int .i64 f, .int .i64 t, .int .i64 cp, .int .i64 s, .slice (B) k d] 26)).heap[w.heap.size + 1]? = some (.cells #[.int .i64 i, .int .i64 f, .int .i64 t, .int .i64 cp, .int .i64 s, .slice (B) k d] 26 (0, 0)) by have := blk_new (w.alloc (.cells #[.int .i64 i, .int .i64 f, .int .i64 t, .int .i64 cp, .int .i64 s, .slice (A) n c] 26)) #[.int .i64 i, .int .i64 f, .int .i64 t, .int .i64 cp, .int .i64 s, .slice (B) k d] 26; simpa using this)
  have hX := Lib.hid (((Below.refl w.heap.size w).alloc (Nat.le_refl _) (.cells #[.int .i64 i, .int .i64 f, .int .i64 t, .int .i64 cp, .int .i64 s, .slice (A) n c] 26)).alloc (by simp) (.cells #[.int .i64 i, .int .i64 f, .int .i64 t, .int .i64 cp, .int .i64 s, .slice (B) k d] 26))
  have hsz : ((w.alloc (.cells #[.int .i64 i, .int .i64 f, .int .i64 t, .int .i64 cp, .int .i64 s, .slice (A) n c] 26)).alloc (.cells #[.int .i64 i, .int .i64 f, .int .i64 t, .int .i64 cp, .int .i64 s, .slice (B) k d] 26)).heap.size = w.heap.size + 2 := by simp
  have T1 : Hid (∀ w', Below ((w.alloc (.cells #[.int .i64 i, .int .i64 f, .int .i64 t, .int .i64 cp, .int .i64 s, .slice (A) n c] 26)).alloc (.cells #[.int .i64 i, .int .i64 f, .int .i64 t, .int .i64 cp, .int .i64 s, .slice (B) k d] 26)).heap.size ((w.alloc (.cells #[.int .i64 i, .int .i64 f, .int .i64 t, .int .i64 cp, .int .i64 s, .slice (A) n c] 26)).alloc (.cells #[.int .i64 i, .int .i64 f, .int .i64 t, .int .i64 cp, .int .i64 s, .slice (B) k d] 26)) w' → Calls Try.prog 9 #[.agg #[.int .i64 i, .int .i64 f, .int .i64 t, .int .i64 cp, .int .i64 s, .slice (A) n c]] w' fun e w'' => e = .returned (.bool false) ∧ Below w'.heap.size w' w'') := Lib.hid (fun w' hh => by
    have T := great ⟨i, f, t, cp, s⟩ A c la hLa w' ((ha.below hX.out).below hh)
    rw [hla, h1] at T; exact T)
  have T2 : Hid (∀ w', Below ((w.alloc (.cells #[.int .i64 i, .int .i64 f, .int .i64 t, .int .i64 cp, .int .i64 s, .slice (A) n c] 26)).alloc (.cells #[.int .i64 i, .int .i64 f, .int .i64 t, .int .i64 cp, .int .i64 s, .slice (B) k d] 26)).heap.size ((w.alloc (.cells #[.int .i64 i, .int .i64 f, .int .i64 t, .int .i64 cp, .int .i64 s, .slice (A) n c] 26)).alloc (.cells #[.int .i64 i, .int .i64 f, .int .i64 t, .int .i64 cp, .int .i64 s, .slice (B) k d] 26)) w' → Calls Try.prog 9 #[.agg #[.int .i64 i, .int .i64 f, .int .i64 t, .int .i64 cp, .int .i64 s, .slice (B) k d]] w' fun e w'' => e = .returned (.bool true) ∧ Below w'.heap.size w' w'') := Lib.hid (fun w' hh => by
    have T := great ⟨i, f, t, cp, s⟩ B d lb hLb w' ((hb.below hX.out).below hh)
    rw [hlb, h2] at T; exact T)
  clear ha hb hLa hLb hla hlb h1 h2
  go_enter Try.func6, Try.ntmps6
  go_wp2_with fail
  refine (T1.out _ (Below.refl _ _)).mono ?_
  rintro e w1 ⟨rfl, b1_⟩
  have D1 := Lib.hid (b1_.mono (Nat.le_refl _)); clear b1_
  have a0 : w1.cell? ⟨w.heap.size, 0, none⟩ = some (.int .i64 i) := blk_cell (blk_below P0.out D1.out (by omega)) 0
  have a1 : w1.cell? ⟨w.heap.size, 1, none⟩ = some (.int .i64 f) := blk_cell (blk_below P0.out D1.out (by omega)) 1
  have a2 : w1.cell? ⟨w.heap.size, 2, none⟩ = some (.int .i64 t) := blk_cell (blk_below P0.out D1.out (by omega)) 2
  have a3 : w1.cell? ⟨w.heap.size, 3, none⟩ = some (.int .i64 cp) := blk_cell (blk_below P0.out D1.out (by omega)) 3
  have a4 : w1.cell? ⟨w.heap.size, 4, none⟩ = some (.int .i64 s) := blk_cell (blk_below P0.out D1.out (by omega)) 4
  have a5 : w1.cell? ⟨w.heap.size, 5, none⟩ = some (.slice A n c) := blk_cell (blk_below P0.out D1.out (by omega)) 5
  have b0 : w1.cell? ⟨w.heap.size + 1, 0, none⟩ = some (.int .i64 i) := blk_cell (blk_below Q0.out D1.out (by omega)) 0
  have b1 : w1.cell? ⟨w.heap.size + 1, 1, none⟩ = some (.int .i64 f) := blk_cell (blk_below Q0.out D1.out (by omega)) 1
  have b2 : w1.cell? ⟨w.heap.size + 1, 2, none⟩ = some (.int .i64 t) := blk_cell (blk_below Q0.out D1.out (by omega)) 2
  have b3 : w1.cell? ⟨w.heap.size + 1, 3, none⟩ = some (.int .i64 cp) := blk_cell (blk_below Q0.out D1.out (by omega)) 3
  have b4 : w1.cell? ⟨w.heap.size + 1, 4, none⟩ = some (.int .i64 s) := blk_cell (blk_below Q0.out D1.out (by omega)) 4
  have b5 : w1.cell? ⟨w.heap.size + 1, 5, none⟩ = some (.slice B k d) := blk_cell (blk_below Q0.out D1.out (by omega)) 5
  go_wp2_with fail
  refine (T2.out _ D1.out).mono ?_
  rintro e w2 ⟨rfl, b2_⟩
  have D2 := Lib.hid (D1.out.trans (b2_.mono D1.out.size)); clear b2_
  clear a0 b0 a1 b1 a2 b2 a3 b3 a4 b4 a5 b5
  have a0 : w2.cell? ⟨w.heap.size, 0, none⟩ = some (.int .i64 i) := blk_cell (blk_below P0.out D2.out (by omega)) 0
  have a1 : w2.cell? ⟨w.heap.size, 1, none⟩ = some (.int .i64 f) := blk_cell (blk_below P0.out D2.out (by omega)) 1
  have a2 : w2.cell? ⟨w.heap.size, 2, none⟩ = some (.int .i64 t) := blk_cell (blk_below P0.out D2.out (by omega)) 2
  have a3 : w2.cell? ⟨w.heap.size, 3, none⟩ = some (.int .i64 cp) := blk_cell (blk_below P0.out D2.out (by omega)) 3
  have a4 : w2.cell? ⟨w.heap.size, 4, none⟩ = some (.int .i64 s) := blk_cell (blk_below P0.out D2.out (by omega)) 4
  have a5 : w2.cell? ⟨w.heap.size, 5, none⟩ = some (.slice A n c) := blk_cell (blk_below P0.out D2.out (by omega)) 5
  have b0 : w2.cell? ⟨w.heap.size + 1, 0, none⟩ = some (.int .i64 i) := blk_cell (blk_below Q0.out D2.out (by omega)) 0
  have b1 : w2.cell? ⟨w.heap.size + 1, 1, none⟩ = some (.int .i64 f) := blk_cell (blk_below Q0.out D2.out (by omega)) 1
  have b2 : w2.cell? ⟨w.heap.size + 1, 2, none⟩ = some (.int .i64 t) := blk_cell (blk_below Q0.out D2.out (by omega)) 2
  have b3 : w2.cell? ⟨w.heap.size + 1, 3, none⟩ = some (.int .i64 cp) := blk_cell (blk_below Q0.out D2.out (by omega)) 3
  have b4 : w2.cell? ⟨w.heap.size + 1, 4, none⟩ = some (.int .i64 s) := blk_cell (blk_below Q0.out D2.out (by omega)) 4
  have b5 : w2.cell? ⟨w.heap.size + 1, 5, none⟩ = some (.slice B k d) := blk_cell (blk_below Q0.out D2.out (by omega)) 5
  go_wp2_with fail
  refine (awake _).mono ?_
  rintro e w3 ⟨rfl, b3_⟩
  have D3 := Lib.hid (D2.out.trans (b3_.mono D2.out.size)); clear b3_ a0 b0 a1 b1 a2 b2 a3 b3 a4 b4 a5 b5
  go_wp2
  go_ret
  exact ⟨rfl, hX.out.trans (D3.out.mono hX.out.size)⟩
set_option maxHeartbeats 2000000 in
theorem blind3 (i f t cp s i2 f2 t2 cp2 s2 : Int) (A B : Option Addr) (n c k d : Nat) (la lb : List Msg) (hla : la.length = n) (hlb : lb.length = k) (hLa : ∀ l ∈ la, l.length ≤ 140737488355328) (hLb : ∀ l ∈ lb, l.length ≤ 140737488355328) (Am : Option Addr) (r cm : Nat) (h1 : greatQ la = false) (h2 : greatQ lb = false) (h0 : (100 : Int) < (r : Int)) (w : World) (ha : Rms w A la) (hb : Rms w B lb) : Calls Try.prog 6 #[.agg #[.int .i64 i, .int .i64 f, .int .i64 t, .int .i64 cp, .int .i64 s, .slice (A) n c], .agg #[.int .i64 i2, .int .i64 f2, .int .i64 t2, .int .i64 cp2, .int .i64 s2, .slice (B) k d], .slice Am r cm] w fun e w' => e = .returned (.bool true) ∧ Below w.heap.size w w' := by
  have P0 := Lib.hid (blk_alloc (blk_new w #[.int .i64 i, .int .i64 f, .int .i64 t, .int .i64 cp, .int .i64 s, .slice (A) n c] 26) (.cells #[.int .i64 i, .int .i64 f, .int .i64 t, .int .i64 cp, .int .i64 s, .slice (B) k d] 26))
  have Q0 := Lib.hid (show ((w.alloc (.cells #[.int .i64 i, .int .i64 f, .int .i64 t, .int .i64 cp, .int .i64 s, .slice (A) n c] 26)).alloc (.cells #[.int .i64 i, .int .i64 f, .int .i64 t, .int .i64 cp, .int .i64 s, .slice (B) k d] 26)).heap[w.heap.size + 1]? = some (.cells #[.int .i64 i, .int .i64 f, .int .i64 t, .int .i64 cp, .int .i64 s, .slice (B) k d] 26 (0, 0)) by have := blk_new (w.alloc (.cells #[.int .i64 i, .int .i64 f, .int .i64 t, .int .i64 cp, .int .i64 s, .slice (A) n c] 26)) #[.int .i64 i, .int .i64 f, .int .i64 t, .int .i64 cp, .int .i64 s, .slice (B) k d] 26; simpa using this)
  have hX := Lib.hid (((Below.refl w.heap.size w).alloc (Nat.le_refl _) (.cells #[.int .i64 i, .int .i64 f, .int .i64 t, .int .i64 cp, .int .i64 s, .slice (A) n c] 26)).alloc (by simp) (.cells #[.int .i64 i, .int .i64 f, .int .i64 t, .int .i64 cp, .int .i64 s, .slice (B) k d] 26))
  have hsz : ((w.alloc (.cells #[.int .i64 i, .int .i64 f, .int .i64 t, .int .i64 cp, .int .i64 s, .slice (A) n c] 26)).alloc (.cells #[.int .i64 i, .int .i64 f, .int .i64 t, .int .i64 cp, .int .i64 s, .slice (B) k d] 26)).heap.size = w.heap.size + 2 := by simp
  have T1 : Hid (∀ w', Below ((w.alloc (.cells #[.int .i64 i, .int .i64 f, .int .i64 t, .int .i64 cp, .int .i64 s, .slice (A) n c] 26)).alloc (.cells #[.int .i64 i, .int .i64 f, .int .i64 t, .int .i64 cp, .int .i64 s, .slice (B) k d] 26)).heap.size ((w.alloc (.cells #[.int .i64 i, .int .i64 f, .int .i64 t, .int .i64 cp, .int .i64 s, .slice (A) n c] 26)).alloc (.cells #[.int .i64 i, .int .i64 f, .int .i64 t, .int .i64 cp, .int .i64 s, .slice (B) k d] 26)) w' → Calls Try.prog 9 #[.agg #[.int .i64 i, .int .i64 f, .int .i64 t, .int .i64 cp, .int .i64 s, .slice (A) n c]] w' fun e w'' => e = .returned (.bool false) ∧ Below w'.heap.size w' w'') := Lib.hid (fun w' hh => by
    have T := great ⟨i, f, t, cp, s⟩ A c la hLa w' ((ha.below hX.out).below hh)
    rw [hla, h1] at T; exact T)
  have T2 : Hid (∀ w', Below ((w.alloc (.cells #[.int .i64 i, .int .i64 f, .int .i64 t, .int .i64 cp, .int .i64 s, .slice (A) n c] 26)).alloc (.cells #[.int .i64 i, .int .i64 f, .int .i64 t, .int .i64 cp, .int .i64 s, .slice (B) k d] 26)).heap.size ((w.alloc (.cells #[.int .i64 i, .int .i64 f, .int .i64 t, .int .i64 cp, .int .i64 s, .slice (A) n c] 26)).alloc (.cells #[.int .i64 i, .int .i64 f, .int .i64 t, .int .i64 cp, .int .i64 s, .slice (B) k d] 26)) w' → Calls Try.prog 9 #[.agg #[.int .i64 i, .int .i64 f, .int .i64 t, .int .i64 cp, .int .i64 s, .slice (B) k d]] w' fun e w'' => e = .returned (.bool false) ∧ Below w'.heap.size w' w'') := Lib.hid (fun w' hh => by
    have T := great ⟨i, f, t, cp, s⟩ B d lb hLb w' ((hb.below hX.out).below hh)
    rw [hlb, h2] at T; exact T)
  clear ha hb hLa hLb hla hlb h1 h2
  go_enter Try.func6, Try.ntmps6
  go_wp2_with fail
  refine (T1.out _ (Below.refl _ _)).mono ?_
  rintro e w1 ⟨rfl, b1_⟩
  have D1 := Lib.hid (b1_.mono (Nat.le_refl _)); clear b1_
  have a0 : w1.cell? ⟨w.heap.size, 0, none⟩ = some (.int .i64 i) := blk_cell (blk_below P0.out D1.out (by omega)) 0
  have a1 : w1.cell? ⟨w.heap.size, 1, none⟩ = some (.int .i64 f) := blk_cell (blk_below P0.out D1.out (by omega)) 1
  have a2 : w1.cell? ⟨w.heap.size, 2, none⟩ = some (.int .i64 t) := blk_cell (blk_below P0.out D1.out (by omega)) 2
  have a3 : w1.cell? ⟨w.heap.size, 3, none⟩ = some (.int .i64 cp) := blk_cell (blk_below P0.out D1.out (by omega)) 3
  have a4 : w1.cell? ⟨w.heap.size, 4, none⟩ = some (.int .i64 s) := blk_cell (blk_below P0.out D1.out (by omega)) 4
  have a5 : w1.cell? ⟨w.heap.size, 5, none⟩ = some (.slice A n c) := blk_cell (blk_below P0.out D1.out (by omega)) 5
  have b0 : w1.cell? ⟨w.heap.size + 1, 0, none⟩ = some (.int .i64 i) := blk_cell (blk_below Q0.out D1.out (by omega)) 0
  have b1 : w1.cell? ⟨w.heap.size + 1, 1, none⟩ = some (.int .i64 f) := blk_cell (blk_below Q0.out D1.out (by omega)) 1
  have b2 : w1.cell? ⟨w.heap.size + 1, 2, none⟩ = some (.int .i64 t) := blk_cell (blk_below Q0.out D1.out (by omega)) 2
  have b3 : w1.cell? ⟨w.heap.size + 1, 3, none⟩ = some (.int .i64 cp) := blk_cell (blk_below Q0.out D1.out (by omega)) 3
  have b4 : w1.cell? ⟨w.heap.size + 1, 4, none⟩ = some (.int .i64 s) := blk_cell (blk_below Q0.out D1.out (by omega)) 4
  have b5 : w1.cell? ⟨w.heap.size + 1, 5, none⟩ = some (.slice B k d) := blk_cell (blk_below Q0.out D1.out (by omega)) 5
  go_wp2_with fail
  refine (T2.out _ D1.out).mono ?_
  rintro e w2 ⟨rfl, b2_⟩
  have D2 := Lib.hid (D1.out.trans (b2_.mono D1.out.size)); clear b2_
  clear a0 b0 a1 b1 a2 b2 a3 b3 a4 b4 a5 b5
  have a0 : w2.cell? ⟨w.heap.size, 0, none⟩ = some (.int .i64 i) := blk_cell (blk_below P0.out D2.out (by omega)) 0
  have a1 : w2.cell? ⟨w.heap.size, 1, none⟩ = some (.int .i64 f) := blk_cell (blk_below P0.out D2.out (by omega)) 1
  have a2 : w2.cell? ⟨w.heap.size, 2, none⟩ = some (.int .i64 t) := blk_cell (blk_below P0.out D2.out (by omega)) 2
  have a3 : w2.cell? ⟨w.heap.size, 3, none⟩ = some (.int .i64 cp) := blk_cell (blk_below P0.out D2.out (by omega)) 3
  have a4 : w2.cell? ⟨w.heap.size, 4, none⟩ = some (.int .i64 s) := blk_cell (blk_below P0.out D2.out (by omega)) 4
  have a5 : w2.cell? ⟨w.heap.size, 5, none⟩ = some (.slice A n c) := blk_cell (blk_below P0.out D2.out (by omega)) 5
  have b0 : w2.cell? ⟨w.heap.size + 1, 0, none⟩ = some (.int .i64 i) := blk_cell (blk_below Q0.out D2.out (by omega)) 0
  have b1 : w2.cell? ⟨w.heap.size + 1, 1, none⟩ = some (.int .i64 f) := blk_cell (blk_below Q0.out D2.out (by omega)) 1
  have b2 : w2.cell? ⟨w.heap.size + 1, 2, none⟩ = some (.int .i64 t) := blk_cell (blk_below Q0.out D2.out (by omega)) 2
  have b3 : w2.cell? ⟨w.heap.size + 1, 3, none⟩ = some (.int .i64 cp) := blk_cell (blk_below Q0.out D2.out (by omega)) 3
  have b4 : w2.cell? ⟨w.heap.size + 1, 4, none⟩ = some (.int .i64 s) := blk_cell (blk_below Q0.out D2.out (by omega)) 4
  have b5 : w2.cell? ⟨w.heap.size + 1, 5, none⟩ = some (.slice B k d) := blk_cell (blk_below Q0.out D2.out (by omega)) 5
  go_wp2_with fail
  refine (awake _).mono ?_
  rintro e w3 ⟨rfl, b3_⟩
  have D3 := Lib.hid (D2.out.trans (b3_.mono D2.out.size)); clear b3_ a0 b0 a1 b1 a2 b2 a3 b3 a4 b4 a5 b5
  go_wp2
  go_ret
  exact ⟨rfl, hX.out.trans (D3.out.mono hX.out.size)⟩
set_option maxHeartbeats 2000000 in
theorem blind4 (i f t cp s i2 f2 t2 cp2 s2 : Int) (A B : Option Addr) (n c k d : Nat) (la lb : List Msg) (hla : la.length = n) (hlb : lb.length = k) (hLa : ∀ l ∈ la, l.length ≤ 140737488355328) (hLb : ∀ l ∈ lb, l.length ≤ 140737488355328) (Am : Option Addr) (r cm : Nat) (h1 : greatQ la = false) (h2 : greatQ lb = false) (h3 : mayQ ⟨i, f, t, cp, s⟩ la = false) (h0 : (r : Int) ≤ 100) (w : World) (ha : Rms w A la) (hb : Rms w B lb) : Calls Try.prog 6 #[.agg #[.int .i64 i, .int .i64 f, .int .i64 t, .int .i64 cp, .int .i64 s, .slice (A) n c], .agg #[.int .i64 i2, .int .i64 f2, .int .i64 t2, .int .i64 cp2, .int .i64 s2, .slice (B) k d], .slice Am r cm] w fun e w' => e = .returned (.bool true) ∧ Below w.heap.size w w' := by
  have P0 := Lib.hid (blk_alloc (blk_new w #[.int .i64 i, .int .i64 f, .int .i64 t, .int .i64 cp, .int .i64 s, .slice (A) n c] 26) (.cells #[.int .i64 i, .int .i64 f, .int .i64 t, .int .i64 cp, .int .i64 s, .slice (B) k d] 26))
  have Q0 := Lib.hid (show ((w.alloc (.cells #[.int .i64 i, .int .i64 f, .int .i64 t, .int .i64 cp, .int .i64 s, .slice (A) n c] 26)).alloc (.cells #[.int .i64 i, .int .i64 f, .int .i64 t, .int .i64 cp, .int .i64 s, .slice (B) k d] 26)).heap[w.heap.size + 1]? = some (.cells #[.int .i64 i, .int .i64 f, .int .i64 t, .int .i64 cp, .int .i64 s, .slice (B) k d] 26 (0, 0)) by have := blk_new (w.alloc (.cells #[.int .i64 i, .int .i64 f, .int .i64 t, .int .i64 cp, .int .i64 s, .slice (A) n c] 26)) #[.int .i64 i, .int .i64 f, .int .i64 t, .int .i64 cp, .int .i64 s, .slice (B) k d] 26; simpa using this)
  have hX := Lib.hid (((Below.refl w.heap.size w).alloc (Nat.le_refl _) (.cells #[.int .i64 i, .int .i64 f, .int .i64 t, .int .i64 cp, .int .i64 s, .slice (A) n c] 26)).alloc (by simp) (.cells #[.int .i64 i, .int .i64 f, .int .i64 t, .int .i64 cp, .int .i64 s, .slice (B) k d] 26))
  have hsz : ((w.alloc (.cells #[.int .i64 i, .int .i64 f, .int .i64 t, .int .i64 cp, .int .i64 s, .slice (A) n c] 26)).alloc (.cells #[.int .i64 i, .int .i64 f, .int .i64 t, .int .i64 cp, .int .i64 s, .slice (B) k d] 26)).heap.size = w.heap.size + 2 := by simp
  have T1 : Hid (∀ w', Below ((w.alloc (.cells #[.int .i64 i, .int .i64 f, .int .i64 t, .int .i64 cp, .int .i64 s, .slice (A) n c] 26)).alloc (.cells #[.int .i64 i, .int .i64 f, .int .i64 t, .int .i64 cp, .int .i64 s, .slice (B) k d] 26)).heap.size ((w.alloc (.cells #[.int .i64 i, .int .i64 f, .int .i64 t, .int .i64 cp, .int .i64 s, .slice (A) n c] 26)).alloc (.cells #[.int .i64 i, .int .i64 f, .int .i64 t, .int .i64 cp, .int .i64 s, .slice (B) k d] 26)) w' → Calls Try.prog 9 #[.agg #[.int .i64 i, .int .i64 f, .int .i64 t, .int .i64 cp, .int .i64 s, .slice (A) n c]] w' fun e w'' => e = .returned (.bool false) ∧ Below w'.heap.size w' w'') := Lib.hid (fun w' hh => by
    have T := great ⟨i, f, t, cp, s⟩ A c la hLa w' ((ha.below hX.out).below hh)
    rw [hla, h1] at T; exact T)
  have T2 : Hid (∀ w', Below ((w.alloc (.cells #[.int .i64 i, .int .i64 f, .int .i64 t, .int .i64 cp, .int .i64 s, .slice (A) n c] 26)).alloc (.cells #[.int .i64 i, .int .i64 f, .int .i64 t, .int .i64 cp, .int .i64 s, .slice (B) k d] 26)).heap.size ((w.alloc (.cells #[.int .i64 i, .int .i64 f, .int .i64 t, .int .i64 cp, .int .i64 s, .slice (A) n c] 26)).alloc (.cells #[.int .i64 i, .int .i64 f, .int .i64 t, .int .i64 cp, .int .i64 s, .slice (B) k d] 26)) w' → Calls Try.prog 9 #[.agg #[.int .i64 i, .int .i64 f, .int .i64 t, .int .i64 cp, .int .i64 s, .slice (B) k d]] w' fun e w'' => e = .returned (.bool false) ∧ Below w'.heap.size w' w'') := Lib.hid (fun w' hh => by
    have T := great ⟨i, f, t, cp, s⟩ B d lb hLb w' ((hb.below hX.out).below hh)
    rw [hlb, h2] at T; exact T)
  have T3 : Hid (∀ w', Below ((w.alloc (.cells #[.int .i64 i, .int .i64 f, .int .i64 t, .int .i64 cp, .int .i64 s, .slice (A) n c] 26)).alloc (.cells #[.int .i64 i, .int .i64 f, .int .i64 t, .int .i64 cp, .int .i64 s, .slice (B) k d] 26)).heap.size ((w.alloc (.cells #[.int .i64 i, .int .i64 f, .int .i64 t, .int .i64 cp, .int .i64 s, .slice (A) n c] 26)).alloc (.cells #[.int .i64 i, .int .i64 f, .int .i64 t, .int .i64 cp, .int .i64 s, .slice (B) k d] 26)) w' → Calls Try.prog 20 #[.agg #[.int .i64 i, .int .i64 f, .int .i64 t, .int .i64 cp, .int .i64 s, .slice (A) n c]] w' fun e w'' => e = .returned (.bool false) ∧ Below w'.heap.size w' w'') := Lib.hid (fun w' hh => by
    have T := mayQueue ⟨i, f, t, cp, s⟩ A c la (by have := greatQ_no h1; omega) w' ((ha.below hX.out).below hh)
    rw [hla, h3] at T; exact T)
  clear ha hb hLa hLb hla hlb h1 h2 h3
  go_enter Try.func6, Try.ntmps6
  go_wp2_with fail
  refine (T1.out _ (Below.refl _ _)).mono ?_
  rintro e w1 ⟨rfl, b1_⟩
  have D1 := Lib.hid (b1_.mono (Nat.le_refl _)); clear b1_
  have a0 : w1.cell? ⟨w.heap.size, 0, none⟩ = some (.int .i64 i) := blk_cell (blk_below P0.out D1.out (by omega)) 0
  have a1 : w1.cell? ⟨w.heap.size, 1, none⟩ = some (.int .i64 f) := blk_cell (blk_below P0.out D1.out (by omega)) 1
  have a2 : w1.cell? ⟨w.heap.size, 2, none⟩ = some (.int .i64 t) := blk_cell (blk_below P0.out D1.out (by omega)) 2
  have a3 : w1.cell? ⟨w.heap.size, 3, none⟩ = some (.int .i64 cp) := blk_cell (blk_below P0.out D1.out (by omega)) 3
  have a4 : w1.cell? ⟨w.heap.size, 4, none⟩ = some (.int .i64 s) := blk_cell (blk_below P0.out D1.out (by omega)) 4
  have a5 : w1.cell? ⟨w.heap.size, 5, none⟩ = some (.slice A n c) := blk_cell (blk_below P0.out D1.out (by omega)) 5
  have b0 : w1.cell? ⟨w.heap.size + 1, 0, none⟩ = some (.int .i64 i) := blk_cell (blk_below Q0.out D1.out (by omega)) 0
  have b1 : w1.cell? ⟨w.heap.size + 1, 1, none⟩ = some (.int .i64 f) := blk_cell (blk_below Q0.out D1.out (by omega)) 1
  have b2 : w1.cell? ⟨w.heap.size + 1, 2, none⟩ = some (.int .i64 t) := blk_cell (blk_below Q0.out D1.out (by omega)) 2
  have b3 : w1.cell? ⟨w.heap.size + 1, 3, none⟩ = some (.int .i64 cp) := blk_cell (blk_below Q0.out D1.out (by omega)) 3
  have b4 : w1.cell? ⟨w.heap.size + 1, 4, none⟩ = some (.int .i64 s) := blk_cell (blk_below Q0.out D1.out (by omega)) 4
  have b5 : w1.cell? ⟨w.heap.size + 1, 5, none⟩ = some (.slice B k d) := blk_cell (blk_below Q0.out D1.out (by omega)) 5
  go_wp2_with fail
  refine (T2.out _ D1.out).mono ?_
  rintro e w2 ⟨rfl, b2_⟩
  have D2 := Lib.hid (D1.out.trans (b2_.mono D1.out.size)); clear b2_
  clear a0 b0 a1 b1 a2 b2 a3 b3 a4 b4 a5 b5
  have a0 : w2.cell? ⟨w.heap.size, 0, none⟩ = some (.int .i64 i) := blk_cell (blk_below P0.out D2.out (by omega)) 0
  have a1 : w2.cell? ⟨w.heap.size, 1, none⟩ = some (.int .i64 f) := blk_cell (blk_below P0.out D2.out (by omega)) 1
  have a2 : w2.cell? ⟨w.heap.size, 2, none⟩ = some (.int .i64 t) := blk_cell (blk_below P0.out D2.out (by omega)) 2
  have a3 : w2.cell? ⟨w.heap.size, 3, none⟩ = some (.int .i64 cp) := blk_cell (blk_below P0.out D2.out (by omega)) 3
  have a4 : w2.cell? ⟨w.heap.size, 4, none⟩ = some (.int .i64 s) := blk_cell (blk_below P0.out D2.out (by omega)) 4
  have a5 : w2.cell? ⟨w.heap.size, 5, none⟩ = some (.slice A n c) := blk_cell (blk_below P0.out D2.out (by omega)) 5
  have b0 : w2.cell? ⟨w.heap.size + 1, 0, none⟩ = some (.int .i64 i) := blk_cell (blk_below Q0.out D2.out (by omega)) 0
  have b1 : w2.cell? ⟨w.heap.size + 1, 1, none⟩ = some (.int .i64 f) := blk_cell (blk_below Q0.out D2.out (by omega)) 1
  have b2 : w2.cell? ⟨w.heap.size + 1, 2, none⟩ = some (.int .i64 t) := blk_cell (blk_below Q0.out D2.out (by omega)) 2
  have b3 : w2.cell? ⟨w.heap.size + 1, 3, none⟩ = some (.int .i64 cp) := blk_cell (blk_below Q0.out D2.out (by omega)) 3
  have b4 : w2.cell? ⟨w.heap.size + 1, 4, none⟩ = some (.int .i64 s) := blk_cell (blk_below Q0.out D2.out (by omega)) 4
  have b5 : w2.cell? ⟨w.heap.size + 1, 5, none⟩ = some (.slice B k d) := blk_cell (blk_below Q0.out D2.out (by omega)) 5
  go_wp2_with fail
  refine (T3.out _ D2.out).mono ?_
  rintro e w3 ⟨rfl, b3_⟩
  have D3 := Lib.hid (D2.out.trans (b3_.mono D2.out.size)); clear b3_
  clear a0 b0 a1 b1 a2 b2 a3 b3 a4 b4 a5 b5
  have a0 : w3.cell? ⟨w.heap.size, 0, none⟩ = some (.int .i64 i) := blk_cell (blk_below P0.out D3.out (by omega)) 0
  have a1 : w3.cell? ⟨w.heap.size, 1, none⟩ = some (.int .i64 f) := blk_cell (blk_below P0.out D3.out (by omega)) 1
  have a2 : w3.cell? ⟨w.heap.size, 2, none⟩ = some (.int .i64 t) := blk_cell (blk_below P0.out D3.out (by omega)) 2
  have a3 : w3.cell? ⟨w.heap.size, 3, none⟩ = some (.int .i64 cp) := blk_cell (blk_below P0.out D3.out (by omega)) 3
  have a4 : w3.cell? ⟨w.heap.size, 4, none⟩ = some (.int .i64 s) := blk_cell (blk_below P0.out D3.out (by omega)) 4
  have a5 : w3.cell? ⟨w.heap.size, 5, none⟩ = some (.slice A n c) := blk_cell (blk_below P0.out D3.out (by omega)) 5
  have b0 : w3.cell? ⟨w.heap.size + 1, 0, none⟩ = some (.int .i64 i) := blk_cell (blk_below Q0.out D3.out (by omega)) 0
  have b1 : w3.cell? ⟨w.heap.size + 1, 1, none⟩ = some (.int .i64 f) := blk_cell (blk_below Q0.out D3.out (by omega)) 1
  have b2 : w3.cell? ⟨w.heap.size + 1, 2, none⟩ = some (.int .i64 t) := blk_cell (blk_below Q0.out D3.out (by omega)) 2
  have b3 : w3.cell? ⟨w.heap.size + 1, 3, none⟩ = some (.int .i64 cp) := blk_cell (blk_below Q0.out D3.out (by omega)) 3
  have b4 : w3.cell? ⟨w.heap.size + 1, 4, none⟩ = some (.int .i64 s) := blk_cell (blk_below Q0.out D3.out (by omega)) 4
  have b5 : w3.cell? ⟨w.heap.size + 1, 5, none⟩ = some (.slice B k d) := blk_cell (blk_below Q0.out D3.out (by omega)) 5
  go_wp2_with fail
  refine (awake _).mono ?_
  rintro e w4 ⟨rfl, b4_⟩
  have D4 := Lib.hid (D3.out.trans (b4_.mono D3.out.size)); clear b4_ a0 b0 a1 b1 a2 b2 a3 b3 a4 b4 a5 b5
  go_wp2
  go_ret
  exact ⟨rfl, hX.out.trans (D4.out.mono hX.out.size)⟩
set_option maxHeartbeats 2000000 in
theorem blind5 (i f t cp s i2 f2 t2 cp2 s2 : Int) (A B : Option Addr) (n c k d : Nat) (la lb : List Msg) (hla : la.length = n) (hlb : lb.length = k) (hLa : ∀ l ∈ la, l.length ≤ 140737488355328) (hLb : ∀ l ∈ lb, l.length ≤ 140737488355328) (Am : Option Addr) (r cm : Nat) (h1 : greatQ la = false) (h2 : greatQ lb = false) (h3 : mayQ ⟨i, f, t, cp, s⟩ la = true) (h4 : mayQ ⟨i, f, t, cp, s⟩ lb = false) (h0 : (r : Int) ≤ 100) (w : World) (ha : Rms w A la) (hb : Rms w B lb) : Calls Try.prog 6 #[.agg #[.int .i64 i, .int .i64 f, .int .i64 t, .int .i64 cp, .int .i64 s, .slice (A) n c], .agg #[.int .i64 i2, .int .i64 f2, .int .i64 t2, .int .i64 cp2, .int .i64 s2, .slice (B) k d], .slice Am r cm] w fun e w' => e = .returned (.bool true) ∧ Below w.heap.size w w' := by
  have P0 := Lib.hid (blk_alloc (blk_new w #[.int .i64 i, .int .i64 f, .int .i64 t, .int .i64 cp, .int .i64 s, .slice (A) n c] 26) (.cells #[.int .i64 i, .int .i64 f, .int .i64 t, .int .i64 cp, .int .i64 s, .slice (B) k d] 26))
  have Q0 := Lib.hid (show ((w.alloc (.cells #[.int .i64 i, .int .i64 f, .int .i64 t, .int .i64 cp, .int .i64 s, .slice (A) n c] 26)).alloc (.cells #[.int .i64 i, .int .i64 f, .int .i64 t, .int .i64 cp, .int .i64 s, .slice (B) k d] 26)).heap[w.heap.size + 1]? = some (.cells #[.int .i64 i, .int .i64 f, .int .i64 t, .int .i64 cp, .int .i64 s, .slice (B) k d] 26 (0, 0)) by have := blk_new (w.alloc (.cells #[.int .i64 i, .int .i64 f, .int .i64 t, .int .i64 cp, .int .i64 s, .slice (A) n c] 26)) #[.int .i64 i, .int .i64 f, .int .i64 t, .int .i64 cp, .int .i64 s, .slice (B) k d] 26; simpa using this)
  have hX := Lib.hid (((Below.refl w.heap.size w).alloc (Nat.le_refl _) (.cells #[.int .i64 i, .int .i64 f, .int .i64 t, .int .i64 cp, .int .i64 s, .slice (A) n c] 26)).alloc (by simp) (.cells #[.int .i64 i, .int .i64 f, .int .i64 t, .int .i64 cp, .int .i64 s, .slice (B) k d] 26))
  have hsz : ((w.alloc (.cells #[.int .i64 i, .int .i64 f, .int .i64 t, .int .i64 cp, .int .i64 s, .slice (A) n c] 26)).alloc (.cells #[.int .i64 i, .int .i64 f, .int .i64 t, .int .i64 cp, .int .i64 s, .slice (B) k d] 26)).heap.size = w.heap.size + 2 := by simp
  have T1 : Hid (∀ w', Below ((w.alloc (.cells #[.int .i64 i, .int .i64 f, .int .i64 t, .int .i64 cp, .int .i64 s, .slice (A) n c] 26)).alloc (.cells #[.int .i64 i, .int .i64 f, .int .i64 t, .int .i64 cp, .int .i64 s, .slice (B) k d] 26)).heap.size ((w.alloc (.cells #[.int .i64 i, .int .i64 f, .int .i64 t, .int .i64 cp, .int .i64 s, .slice (A) n c] 26)).alloc (.cells #[.int .i64 i, .int .i64 f, .int .i64 t, .int .i64 cp, .int .i64 s, .slice (B) k d] 26)) w' → Calls Try.prog 9 #[.agg #[.int .i64 i, .int .i64 f, .int .i64 t, .int .i64 cp, .int .i64 s, .slice (A) n c]] w' fun e w'' => e = .returned (.bool false) ∧ Below w'.heap.size w' w'') := Lib.hid (fun w' hh => by
    have T := great ⟨i, f, t, cp, s⟩ A c la hLa w' ((ha.below hX.out).below hh)
    rw [hla, h1] at T; exact T)
  have T2 : Hid (∀ w', Below ((w.alloc (.cells #[.int .i64 i, .int .i64 f, .int .i64 t, .int .i64 cp, .int .i64 s, .slice (A) n c] 26)).alloc (.cells #[.int .i64 i, .int .i64 f, .int .i64 t, .int .i64 cp, .int .i64 s, .slice (B) k d] 26)).heap.size ((w.alloc (.cells #[.int .i64 i, .int .i64 f, .int .i64 t, .int .i64 cp, .int .i64 s, .slice (A) n c] 26)).alloc (.cells #[.int .i64 i, .int .i64 f, .int .i64 t, .int .i64 cp, .int .i64 s, .slice (B) k d] 26)) w' → Calls Try.prog 9 #[.agg #[.int .i64 i, .int .i64 f, .int .i64 t, .int .i64 cp, .int .i64 s, .slice (B) k d]] w' fun e w'' => e = .returned (.bool false) ∧ Below w'.heap.size w' w'') := Lib.hid (fun w' hh => by
    have T := great ⟨i, f, t, cp, s⟩ B d lb hLb w' ((hb.below hX.out).below hh)
    rw [hlb, h2] at T; exact T)
  have T3 : Hid (∀ w', Below ((w.alloc (.cells #[.int .i64 i, .int .i64 f, .int .i64 t, .int .i64 cp, .int .i64 s, .slice (A) n c] 26)).alloc (.cells #[.int .i64 i, .int .i64 f, .int .i64 t, .int .i64 cp, .int .i64 s, .slice (B) k d] 26)).heap.size ((w.alloc (.cells #[.int .i64 i, .int .i64 f, .int .i64 t, .int .i64 cp, .int .i64 s, .slice (A) n c] 26)).alloc (.cells #[.int .i64 i, .int .i64 f, .int .i64 t, .int .i64 cp, .int .i64 s, .slice (B) k d] 26)) w' → Calls Try.prog 20 #[.agg #[.int .i64 i, .int .i64 f, .int .i64 t, .int .i64 cp, .int .i64 s, .slice (A) n c]] w' fun e w'' => e = .returned (.bool true) ∧ Below w'.heap.size w' w'') := Lib.hid (fun w' hh => by
    have T := mayQueue ⟨i, f, t, cp, s⟩ A c la (by have := greatQ_no h1; omega) w' ((ha.below hX.out).below hh)
    rw [hla, h3] at T; exact T)
  have T4 : Hid (∀ w', Below ((w.alloc (.cells #[.int .i64 i, .int .i64 f, .int .i64 t, .int .i64 cp, .int .i64 s, .slice (A) n c] 26)).alloc (.cells #[.int .i64 i, .int .i64 f, .int .i64 t, .int .i64 cp, .int .i64 s, .slice (B) k d] 26)).heap.size ((w.alloc (.cells #[.int .i64 i, .int .i64 f, .int .i64 t, .int .i64 cp, .int .i64 s, .slice (A) n c] 26)).alloc (.cells #[.int .i64 i, .int .i64 f, .int .i64 t, .int .i64 cp, .int .i64 s, .slice (B) k d] 26)) w' → Calls Try.prog 20 #[.agg #[.int .i64 i, .int .i64 f, .int .i64 t, .int .i64 cp, .int .i64 s, .slice (B) k d]] w' fun e w'' => e = .returned (.bool false) ∧ Below w'.heap.size w' w'') := Lib.hid (fun w' hh => by
    have T := mayQueue ⟨i, f, t, cp, s⟩ B d lb (by have := greatQ_no h2; omega) w' ((hb.below hX.out).below hh)
    rw [hlb, h4] at T; exact T)
  clear ha hb hLa hLb hla hlb h1 h2 h3 h4
  go_enter Try.func6, Try.ntmps6
  go_wp2_with fail
  refine (T1.out _ (Below.refl _ _)).mono ?_
  rintro e w1 ⟨rfl, b1_⟩
  have D1 := Lib.hid (b1_.mono (Nat.le_refl _)); clear b1_
  have a0 : w1.cell? ⟨w.heap.size, 0, none⟩ = some (.int .i64 i) := blk_cell (blk_below P0.out D1.out (by omega)) 0
  have a1 : w1.cell? ⟨w.heap.size, 1, none⟩ = some (.int .i64 f) := blk_cell (blk_below P0.out D1.out (by omega)) 1
  have a2 : w1.cell? ⟨w.heap.size, 2, none⟩ = some (.int .i64 t) := blk_cell (blk_below P0.out D1.out (by omega)) 2
  have a3 : w1.cell? ⟨w.heap.size, 3, none⟩ = some (.int .i64 cp) := blk_cell (blk_below P0.out D1.out (by omega)) 3
  have a4 : w1.cell? ⟨w.heap.size, 4, none⟩ = some (.int .i64 s) := blk_cell (blk_below P0.out D1.out (by omega)) 4
  have a5 : w1.cell? ⟨w.heap.size, 5, none⟩ = some (.slice A n c) := blk_cell (blk_below P0.out D1.out (by omega)) 5
  have b0 : w1.cell? ⟨w.heap.size + 1, 0, none⟩ = some (.int .i64 i) := blk_cell (blk_below Q0.out D1.out (by omega)) 0
  have b1 : w1.cell? ⟨w.heap.size + 1, 1, none⟩ = some (.int .i64 f) := blk_cell (blk_below Q0.out D1.out (by omega)) 1
  have b2 : w1.cell? ⟨w.heap.size + 1, 2, none⟩ = some (.int .i64 t) := blk_cell (blk_below Q0.out D1.out (by omega)) 2
  have b3 : w1.cell? ⟨w.heap.size + 1, 3, none⟩ = some (.int .i64 cp) := blk_cell (blk_below Q0.out D1.out (by omega)) 3
  have b4 : w1.cell? ⟨w.heap.size + 1, 4, none⟩ = some (.int .i64 s) := blk_cell (blk_below Q0.out D1.out (by omega)) 4
  have b5 : w1.cell? ⟨w.heap.size + 1, 5, none⟩ = some (.slice B k d) := blk_cell (blk_below Q0.out D1.out (by omega)) 5
  go_wp2_with fail
  refine (T2.out _ D1.out).mono ?_
  rintro e w2 ⟨rfl, b2_⟩
  have D2 := Lib.hid (D1.out.trans (b2_.mono D1.out.size)); clear b2_
  clear a0 b0 a1 b1 a2 b2 a3 b3 a4 b4 a5 b5
  have a0 : w2.cell? ⟨w.heap.size, 0, none⟩ = some (.int .i64 i) := blk_cell (blk_below P0.out D2.out (by omega)) 0
  have a1 : w2.cell? ⟨w.heap.size, 1, none⟩ = some (.int .i64 f) := blk_cell (blk_below P0.out D2.out (by omega)) 1
  have a2 : w2.cell? ⟨w.heap.size, 2, none⟩ = some (.int .i64 t) := blk_cell (blk_below P0.out D2.out (by omega)) 2
  have a3 : w2.cell? ⟨w.heap.size, 3, none⟩ = some (.int .i64 cp) := blk_cell (blk_below P0.out D2.out (by omega)) 3
  have a4 : w2.cell? ⟨w.heap.size, 4, none⟩ = some (.int .i64 s) := blk_cell (blk_below P0.out D2.out (by omega)) 4
  have a5 : w2.cell? ⟨w.heap.size, 5, none⟩ = some (.slice A n c) := blk_cell (blk_below P0.out D2.out (by omega)) 5
  have b0 : w2.cell? ⟨w.heap.size + 1, 0, none⟩ = some (.int .i64 i) := blk_cell (blk_below Q0.out D2.out (by omega)) 0
  have b1 : w2.cell? ⟨w.heap.size + 1, 1, none⟩ = some (.int .i64 f) := blk_cell (blk_below Q0.out D2.out (by omega)) 1
  have b2 : w2.cell? ⟨w.heap.size + 1, 2, none⟩ = some (.int .i64 t) := blk_cell (blk_below Q0.out D2.out (by omega)) 2
  have b3 : w2.cell? ⟨w.heap.size + 1, 3, none⟩ = some (.int .i64 cp) := blk_cell (blk_below Q0.out D2.out (by omega)) 3
  have b4 : w2.cell? ⟨w.heap.size + 1, 4, none⟩ = some (.int .i64 s) := blk_cell (blk_below Q0.out D2.out (by omega)) 4
  have b5 : w2.cell? ⟨w.heap.size + 1, 5, none⟩ = some (.slice B k d) := blk_cell (blk_below Q0.out D2.out (by omega)) 5
  go_wp2_with fail
  refine (T3.out _ D2.out).mono ?_
  rintro e w3 ⟨rfl, b3_⟩
  have D3 := Lib.hid (D2.out.trans (b3_.mono D2.out.size)); clear b3_
  clear a0 b0 a1 b1 a2 b2 a3 b3 a4 b4 a5 b5
  have a0 : w3.cell? ⟨w.heap.size, 0, none⟩ = some (.int .i64 i) := blk_cell (blk_below P0.out D3.out (by omega)) 0
  have a1 : w3.cell? ⟨w.heap.size, 1, none⟩ = some (.int .i64 f) := blk_cell (blk_below P0.out D3.out (by omega)) 1
  have a2 : w3.cell? ⟨w.heap.size, 2, none⟩ = some (.int .i64 t) := blk_cell (blk_below P0.out D3.out (by omega)) 2
  have a3 : w3.cell? ⟨w.heap.size, 3, none⟩ = some (.int .i64 cp) := blk_cell (blk_below P0.out D3.out (by omega)) 3
  have a4 : w3.cell? ⟨w.heap.size, 4, none⟩ = some (.int .i64 s) := blk_cell (blk_below P0.out D3.out (by omega)) 4
  have a5 : w3.cell? ⟨w.heap.size, 5, none⟩ = some (.slice A n c) := blk_cell (blk_below P0.out D3.out (by omega)) 5
  have b0 : w3.cell? ⟨w.heap.size + 1, 0, none⟩ = some (.int .i64 i) := blk_cell (blk_below Q0.out D3.out (by omega)) 0
  have b1 : w3.cell? ⟨w.heap.size + 1, 1, none⟩ = some (.int .i64 f) := blk_cell (blk_below Q0.out D3.out (by omega)) 1
  have b2 : w3.cell? ⟨w.heap.size + 1, 2, none⟩ = some (.int .i64 t) := blk_cell (blk_below Q0.out D3.out (by omega)) 2
  have b3 : w3.cell? ⟨w.heap.size + 1, 3, none⟩ = some (.int .i64 cp) := blk_cell (blk_below Q0.out D3.out (by omega)) 3
  have b4 : w3.cell? ⟨w.heap.size + 1, 4, none⟩ = some (.int .i64 s) := blk_cell (blk_below Q0.out D3.out (by omega)) 4
  have b5 : w3.cell? ⟨w.heap.size + 1, 5, none⟩ = some (.slice B k d) := blk_cell (blk_below Q0.out D3.out (by omega)) 5
  go_wp2_with fail
  refine (T4.out _ D3.out).mono ?_
  rintro e w4 ⟨rfl, b4_⟩
  have D4 := Lib.hid (D3.out.trans (b4_.mono D3.out.size)); clear b4_
  clear a0 b0 a1 b1 a2 b2 a3 b3 a4 b4 a5 b5
  have a0 : w4.cell? ⟨w.heap.size, 0, none⟩ = some (.int .i64 i) := blk_cell (blk_below P0.out D4.out (by omega)) 0
  have a1 : w4.cell? ⟨w.heap.size, 1, none⟩ = some (.int .i64 f) := blk_cell (blk_below P0.out D4.out (by omega)) 1
  have a2 : w4.cell? ⟨w.heap.size, 2, none⟩ = some (.int .i64 t) := blk_cell (blk_below P0.out D4.out (by omega)) 2
  have a3 : w4.cell? ⟨w.heap.size, 3, none⟩ = some (.int .i64 cp) := blk_cell (blk_below P0.out D4.out (by omega)) 3
  have a4 : w4.cell? ⟨w.heap.size, 4, none⟩ = some (.int .i64 s) := blk_cell (blk_below P0.out D4.out (by omega)) 4
  have a5 : w4.cell? ⟨w.heap.size, 5, none⟩ = some (.slice A n c) := blk_cell (blk_below P0.out D4.out (by omega)) 5
  have b0 : w4.cell? ⟨w.heap.size + 1, 0, none⟩ = some (.int .i64 i) := blk_cell (blk_below Q0.out D4.out (by omega)) 0
  have b1 : w4.cell? ⟨w.heap.size + 1, 1, none⟩ = some (.int .i64 f) := blk_cell (blk_below Q0.out D4.out (by omega)) 1
  have b2 : w4.cell? ⟨w.heap.size + 1, 2, none⟩ = some (.int .i64 t) := blk_cell (blk_below Q0.out D4.out (by omega)) 2
  have b3 : w4.cell? ⟨w.heap.size + 1, 3, none⟩ = some (.int .i64 cp) := blk_cell (blk_below Q0.out D4.out (by omega)) 3
  have b4 : w4.cell? ⟨w.heap.size + 1, 4, none⟩ = some (.int .i64 s) := blk_cell (blk_below Q0.out D4.out (by omega)) 4
  have b5 : w4.cell? ⟨w.heap.size + 1, 5, none⟩ = some (.slice B k d) := blk_cell (blk_below Q0.out D4.out (by omega)) 5
  go_wp2_with fail
  refine (awake _).mono ?_
  rintro e w5 ⟨rfl, b5_⟩
  have D5 := Lib.hid (D4.out.trans (b5_.mono D4.out.size)); clear b5_ a0 b0 a1 b1 a2 b2 a3 b3 a4 b4 a5 b5
  go_wp2
  go_ret
  exact ⟨rfl, hX.out.trans (D5.out.mono hX.out.size)⟩
set_option maxHeartbeats 2000000 in
theorem blind_long (i f t cp s i2 f2 t2 cp2 s2 : Int) (A B : Option Addr) (n c k d : Nat) (la lb : List Msg) (hla : la.length = n) (hlb : lb.length = k) (hLa : ∀ l ∈ la, l.length ≤ 140737488355328) (hLb : ∀ l ∈ lb, l.length ≤ 140737488355328) (hnc : n ≤ c) (hkd : k ≤ d) (hA0 : A = none → c = 0) (hB0 : B = none → d = 0) (m : Msg) (Am : Option Addr) (r cm : Nat) (hr : m.length = r) (hmA : Am = none → cm = 0) (hmc : r ≤ cm) (h1 : greatQ la = false) (h2 : greatQ lb = false) (h3 : mayQ ⟨i, f, t, cp, s⟩ la = true) (h4 : mayQ ⟨i, f, t, cp, s⟩ lb = true) (h0 : (r : Int) ≤ 100) (h5 : s < (r : Int)) (w : World) (ha : Rms w A la) (hb : Rms w B lb) (hm : Rd w Am (bcs m)) : Calls Try.prog 6 #[.agg #[.int .i64 i, .int .i64 f, .int .i64 t, .int .i64 cp, .int .i64 s, .slice (A) n c], .agg #[.int .i64 i2, .int .i64 f2, .int .i64 t2, .int .i64 cp2, .int .i64 s2, .slice (B) k d], .slice Am r cm] w fun e w' => e = .returned (.bool true) ∧ Below w.heap.size w w' := by
  have P0 := Lib.hid (blk_alloc (blk_new w #[.int .i64 i, .int .i64 f, .int .i64 t, .int .i64 cp, .int .i64 s, .slice (A) n c] 26) (.cells #[.int .i64 i, .int .i64 f, .int .i64 t, .int .i64 cp, .int .i64 s, .slice (B) k d] 26))
  have Q0 := Lib.hid (show ((w.alloc (.cells #[.int .i64 i, .int .i64 f, .int .i64 t, .int .i64 cp, .int .i64 s, .slice (A) n c] 26)).alloc (.cells #[.int .i64 i, .int .i64 f, .int .i64 t, .int .i64 cp, .int .i64 s, .slice (B) k d] 26)).heap[w.heap.size + 1]? = some (.cells #[.int .i64 i, .int .i64 f, .int .i64 t, .int .i64 cp, .int .i64 s, .slice (B) k d] 26 (0, 0)) by have := blk_new (w.alloc (.cells #[.int .i64 i, .int .i64 f, .int .i64 t, .int .i64 cp, .int .i64 s, .slice (A) n c] 26)) #[.int .i64 i, .int .i64 f, .int .i64 t, .int .i64 cp, .int .i64 s, .slice (B) k d] 26; simpa using this)
  have hX := Lib.hid (((Below.refl w.heap.size w).alloc (Nat.le_refl _) (.cells #[.int .i64 i, .int .i64 f, .int .i64 t, .int .i64 cp, .int .i64 s, .slice (A) n c] 26)).alloc (by simp) (.cells #[.int .i64 i, .int .i64 f, .int .i64 t, .int .i64 cp, .int .i64 s, .slice (B) k d] 26))
  have hsz : ((w.alloc (.cells #[.int .i64 i, .int .i64 f, .int .i64 t, .int .i64 cp, .int .i64 s, .slice (A) n c] 26)).alloc (.cells #[.int .i64 i, .int .i64 f, .int .i64 t, .int .i64 cp, .int .i64 s, .slice (B) k d] 26)).heap.size = w.heap.size + 2 := by simp
  have T1 : Hid (∀ w', Below ((w.alloc (.cells #[.int .i64 i, .int .i64 f, .int .i64 t, .int .i64 cp, .int .i64 s, .slice (A) n c] 26)).alloc (.cells #[.int .i64 i, .int .i64 f, .int .i64 t, .int .i64 cp, .int .i64 s, .slice (B) k d] 26)).heap.size ((w.alloc (.cells #[.int .i64 i, .int .i64 f, .int .i64 t, .int .i64 cp, .int .i64 s, .slice (A) n c] 26)).alloc (.cells #[.int .i64 i, .int .i64 f, .int .i64 t, .int .i64 cp, .int .i64 s, .slice (B) k d] 26)) w' → Calls Try.prog 9 #[.agg #[.int .i64 i, .int .i64 f, .int .i64 t, .int .i64 cp, .int .i64 s, .slice (A) n c]] w' fun e w'' => e = .returned (.bool false) ∧ Below w'.heap.size w' w'') := Lib.hid (fun w' hh => by
    have T := great ⟨i, f, t, cp, s⟩ A c la hLa w' ((ha.below hX.out).below hh)
    rw [hla, h1] at T; exact T)
  have T2 : Hid (∀ w', Below ((w.alloc (.cells #[.int .i64 i, .int .i64 f, .int .i64 t, .int .i64 cp, .int .i64 s, .slice (A) n c] 26)).alloc (.cells #[.int .i64 i, .int .i64 f, .int .i64 t, .int .i64 cp, .int .i64 s, .slice (B) k d] 26)).heap.size ((w.alloc (.cells #[.int .i64 i, .int .i64 f, .int .i64 t, .int .i64 cp, .int .i64 s, .slice (A) n c] 26)).alloc (.cells #[.int .i64 i, .int .i64 f, .int .i64 t, .int .i64 cp, .int .i64 s, .slice (B) k d] 26)) w' → Calls Try.prog 9 #[.agg #[.int .i64 i, .int .i64 f, .int .i64 t, .int .i64 cp, .int .i64 s, .slice (B) k d]] w' fun e w'' => e = .returned (.bool false) ∧ Below w'.heap.size w' w'') := Lib.hid (fun w' hh => by
    have T := great ⟨i, f, t, cp, s⟩ B d lb hLb w' ((hb.below hX.out).below hh)
    rw [hlb, h2] at T; exact T)
  have T3 : Hid (∀ w', Below ((w.alloc (.cells #[.int .i64 i, .int .i64 f, .int .i64 t, .int .i64 cp, .int .i64 s, .slice (A) n c] 26)).alloc (.cells #[.int .i64 i, .int .i64 f, .int .i64 t, .int .i64 cp, .int .i64 s, .slice (B) k d] 26)).heap.size ((w.alloc (.cells #[.int .i64 i, .int .i64 f, .int .i64 t, .int .i64 cp, .int .i64 s, .slice (A) n c] 26)).alloc (.cells #[.int .i64 i, .int .i64 f, .int .i64 t, .int .i64 cp, .int .i64 s, .slice (B) k d] 26)) w' → Calls Try.prog 20 #[.agg #[.int .i64 i, .int .i64 f, .int .i64 t, .int .i64 cp, .int .i64 s, .slice (A) n c]] w' fun e w'' => e = .returned (.bool true) ∧ Below w'.heap.size w' w'') := Lib.hid (fun w' hh => by
    have T := mayQueue ⟨i, f, t, cp, s⟩ A c la (by have := greatQ_no h1; omega) w' ((ha.below hX.out).below hh)
    rw [hla, h3] at T; exact T)
  have T4 : Hid (∀ w', Below ((w.alloc (.cells #[.int .i64 i, .int .i64 f, .int .i64 t, .int .i64 cp, .int .i64 s, .slice (A) n c] 26)).alloc (.cells #[.int .i64 i, .int .i64 f, .int .i64 t, .int .i64 cp, .int .i64 s, .slice (B) k d] 26)).heap.size ((w.alloc (.cells #[.int .i64 i, .int .i64 f, .int .i64 t, .int .i64 cp, .int .i64 s, .slice (A) n c] 26)).alloc (.cells #[.int .i64 i, .int .i64 f, .int .i64 t, .int .i64 cp, .int .i64 s, .slice (B) k d] 26)) w' → Calls Try.prog 20 #[.agg #[.int .i64 i, .int .i64 f, .int .i64 t, .int .i64 cp, .int .i64 s, .slice (B) k d]] w' fun e w'' => e = .returned (.bool true) ∧ Below w'.heap.size w' w'') := Lib.hid (fun w' hh => by
    have T := mayQueue ⟨i, f, t, cp, s⟩ B d lb (by have := greatQ_no h2; omega) w' ((hb.below hX.out).below hh)
    rw [hlb, h4] at T; exact T)
  have e1 : putR ⟨i, f, t, cp, s⟩ la m = (ch0, [], 3) := by unfold putR; rw [if_pos h3, if_pos (by show s < (m.length : Int); omega)]
  have e2 : putR ⟨i, f, t, cp, s⟩ lb m = (ch0, [], 3) := by unfold putR; rw [if_pos h4, if_pos (by show s < (m.length : Int); omega)]
  have T5 : Hid (∀ w', Below ((w.alloc (.cells #[.int .i64 i, .int .i64 f, .int .i64 t, .int .i64 cp, .int .i64 s, .slice (A) n c] 26)).alloc (.cells #[.int .i64 i, .int .i64 f, .int .i64 t, .int .i64 cp, .int .i64 s, .slice (B) k d] 26)).heap.size ((w.alloc (.cells #[.int .i64 i, .int .i64 f, .int .i64 t, .int .i64 cp, .int .i64 s, .slice (A) n c] 26)).alloc (.cells #[.int .i64 i, .int .i64 f, .int .i64 t, .int .i64 cp, .int .i64 s, .slice (B) k d] 26)) w' → Calls Try.prog 11 #[.agg #[.int .i64 i, .int .i64 f, .int .i64 t, .int .i64 cp, .int .i64 s, .slice (A) n c], .slice Am r cm] w' fun e w'' => ∃ A c, e = .returned (.tuple #[.agg #[.int .i64 0, .int .i64 0, .int .i64 0, .int .i64 0, .int .i64 0, .slice (A) 0 c], .int .i64 3]) ∧ QAt w'.heap.size w''.heap.size w'' A c [] ∧ Below w'.heap.size w' w'') := Lib.hid (fun w' hh => by
    have T := put_to (e1) A c hA0 (by rw [hla]; exact hnc) (by have := greatQ_no h1; omega) Am cm hmA (by rw [hr]; exact hmc) w' ((ha.below hX.out).below hh) ((hm.below hX.out).below hh)
    rw [hla, hr] at T; exact T)
  have T6 : Hid (∀ w', Below ((w.alloc (.cells #[.int .i64 i, .int .i64 f, .int .i64 t, .int .i64 cp, .int .i64 s, .slice (A) n c] 26)).alloc (.cells #[.int .i64 i, .int .i64 f, .int .i64 t, .int .i64 cp, .int .i64 s, .slice (B) k d] 26)).heap.size ((w.alloc (.cells #[.int .i64 i, .int .i64 f, .int .i64 t, .int .i64 cp, .int .i64 s, .slice (A) n c] 26)).alloc (.cells #[.int .i64 i, .int .i64 f, .int .i64 t, .int .i64 cp, .int .i64 s, .slice (B) k d] 26)) w' → Calls Try.prog 11 #[.agg #[.int .i64 i, .int .i64 f, .int .i64 t, .int .i64 cp, .int .i64 s, .slice (B) k d], .slice Am r cm] w' fun e w'' => ∃ A c, e = .returned (.tuple #[.agg #[.int .i64 0, .int .i64 0, .int .i64 0, .int .i64 0, .int .i64 0, .slice (A) 0 c], .int .i64 3]) ∧ QAt w'.heap.size w''.heap.size w'' A c [] ∧ Below w'.heap.size w' w'') := Lib.hid (fun w' hh => by
    have T := put_to (e2) B d hB0 (by rw [hlb]; exact hkd) (by have := greatQ_no h2; omega) Am cm hmA (by rw [hr]; exact hmc) w' ((hb.below hX.out).below hh) ((hm.below hX.out).below hh)
    rw [hlb, hr] at T; exact T)
  clear ha hb hLa hLb hla hlb h1 h2 h3 h4 e1 e2 hm hmA hmc hr hA0 hB0
  go_enter Try.func6, Try.ntmps6
  go_wp2_with fail
  refine (T1.out _ (Below.refl _ _)).mono ?_
  rintro e w1 ⟨rfl, b1_⟩
  have D1 := Lib.hid (b1_.mono (Nat.le_refl _)); clear b1_
  have a0 : w1.cell? ⟨w.heap.size, 0, none⟩ = some (.int .i64 i) := blk_cell (blk_below P0.out D1.out (by omega)) 0
  have a1 : w1.cell? ⟨w.heap.size, 1, none⟩ = some (.int .i64 f) := blk_cell (blk_below P0.out D1.out (by omega)) 1
  have a2 : w1.cell? ⟨w.heap.size, 2, none⟩ = some (.int .i64 t) := blk_cell (blk_below P0.out D1.out (by omega)) 2
  have a3 : w1.cell? ⟨w.heap.size, 3, none⟩ = some (.int .i64 cp) := blk_cell (blk_below P0.out D1.out (by omega)) 3
  have a4 : w1.cell? ⟨w.heap.size, 4, none⟩ = some (.int .i64 s) := blk_cell (blk_below P0.out D1.out (by omega)) 4
  have a5 : w1.cell? ⟨w.heap.size, 5, none⟩ = some (.slice A n c) := blk_cell (blk_below P0.out D1.out (by omega)) 5
  have b0 : w1.cell? ⟨w.heap.size + 1, 0, none⟩ = some (.int .i64 i) := blk_cell (blk_below Q0.out D1.out (by omega)) 0
  have b1 : w1.cell? ⟨w.heap.size + 1, 1, none⟩ = some (.int .i64 f) := blk_cell (blk_below Q0.out D1.out (by omega)) 1
  have b2 : w1.cell? ⟨w.heap.size + 1, 2, none⟩ = some (.int .i64 t) := blk_cell (blk_below Q0.out D1.out (by omega)) 2
  have b3 : w1.cell? ⟨w.heap.size + 1, 3, none⟩ = some (.int .i64 cp) := blk_cell (blk_below Q0.out D1.out (by omega)) 3
  have b4 : w1.cell? ⟨w.heap.size + 1, 4, none⟩ = some (.int .i64 s) := blk_cell (blk_below Q0.out D1.out (by omega)) 4
  have b5 : w1.cell? ⟨w.heap.size + 1, 5, none⟩ = some (.slice B k d) := blk_cell (blk_below Q0.out D1.out (by omega)) 5
  go_wp2_with fail
  refine (T2.out _ D1.out).mono ?_
  rintro e w2 ⟨rfl, b2_⟩
  have D2 := Lib.hid (D1.out.trans (b2_.mono D1.out.size)); clear b2_
  clear a0 b0 a1 b1 a2 b2 a3 b3 a4 b4 a5 b5
  have a0 : w2.cell? ⟨w.heap.size, 0, none⟩ = some (.int .i64 i) := blk_cell (blk_below P0.out D2.out (by omega)) 0
  have a1 : w2.cell? ⟨w.heap.size, 1, none⟩ = some (.int .i64 f) := blk_cell (blk_below P0.out D2.out (by omega)) 1
  have a2 : w2.cell? ⟨w.heap.size, 2, none⟩ = some (.int .i64 t) := blk_cell (blk_below P0.out D2.out (by omega)) 2
  have a3 : w2.cell? ⟨w.heap.size, 3, none⟩ = some (.int .i64 cp) := blk_cell (blk_below P0.out D2.out (by omega)) 3
  have a4 : w2.cell? ⟨w.heap.size, 4, none⟩ = some (.int .i64 s) := blk_cell (blk_below P0.out D2.out (by omega)) 4
  have a5 : w2.cell? ⟨w.heap.size, 5, none⟩ = some (.slice A n c) := blk_cell (blk_below P0.out D2.out (by omega)) 5
  have b0 : w2.cell? ⟨w.heap.size + 1, 0, none⟩ = some (.int .i64 i) := blk_cell (blk_below Q0.out D2.out (by omega)) 0
  have b1 : w2.cell? ⟨w.heap.size + 1, 1, none⟩ = some (.int .i64 f) := blk_cell (blk_below Q0.out D2.out (by omega)) 1
  have b2 : w2.cell? ⟨w.heap.size + 1, 2, none⟩ = some (.int .i64 t) := blk_cell (blk_below Q0.out D2.out (by omega)) 2
  have b3 : w2.cell? ⟨w.heap.size + 1, 3, none⟩ = some (.int .i64 cp) := blk_cell (blk_below Q0.out D2.out (by omega)) 3
  have b4 : w2.cell? ⟨w.heap.size + 1, 4, none⟩ = some (.int .i64 s) := blk_cell (blk_below Q0.out D2.out (by omega)) 4
  have b5 : w2.cell? ⟨w.heap.size + 1, 5, none⟩ = some (.slice B k d) := blk_cell (blk_below Q0.out D2.out (by omega)) 5
  go_wp2_with fail
  refine (T3.out _ D2.out).mono ?_
  rintro e w3 ⟨rfl, b3_⟩
  have D3 := Lib.hid (D2.out.trans (b3_.mono D2.out.size)); clear b3_
  clear a0 b0 a1 b1 a2 b2 a3 b3 a4 b4 a5 b5
  have a0 : w3.cell? ⟨w.heap.size, 0, none⟩ = some (.int .i64 i) := blk_cell (blk_below P0.out D3.out (by omega)) 0
  have a1 : w3.cell? ⟨w.heap.size, 1, none⟩ = some (.int .i64 f) := blk_cell (blk_below P0.out D3.out (by omega)) 1
  have a2 : w3.cell? ⟨w.heap.size, 2, none⟩ = some (.int .i64 t) := blk_cell (blk_below P0.out D3.out (by omega)) 2
  have a3 : w3.cell? ⟨w.heap.size, 3, none⟩ = some (.int .i64 cp) := blk_cell (blk_below P0.out D3.out (by omega)) 3
  have a4 : w3.cell? ⟨w.heap.size, 4, none⟩ = some (.int .i64 s) := blk_cell (blk_below P0.out D3.out (by omega)) 4
  have a5 : w3.cell? ⟨w.heap.size, 5, none⟩ = some (.slice A n c) := blk_cell (blk_below P0.out D3.out (by omega)) 5
  have b0 : w3.cell? ⟨w.heap.size + 1, 0, none⟩ = some (.int .i64 i) := blk_cell (blk_below Q0.out D3.out (by omega)) 0
  have b1 : w3.cell? ⟨w.heap.size + 1, 1, none⟩ = some (.int .i64 f) := blk_cell (blk_below Q0.out D3.out (by omega)) 1
  have b2 : w3.cell? ⟨w.heap.size + 1, 2, none⟩ = some (.int .i64 t) := blk_cell (blk_below Q0.out D3.out (by omega)) 2
  have b3 : w3.cell? ⟨w.heap.size + 1, 3, none⟩ = some (.int .i64 cp) := blk_cell (blk_below Q0.out D3.out (by omega)) 3
  have b4 : w3.cell? ⟨w.heap.size + 1, 4, none⟩ = some (.int .i64 s) := blk_cell (blk_below Q0.out D3.out (by omega)) 4
  have b5 : w3.cell? ⟨w.heap.size + 1, 5, none⟩ = some (.slice B k d) := blk_cell (blk_below Q0.out D3.out (by omega)) 5
  go_wp2_with fail
  refine (T4.out _ D3.out).mono ?_
  rintro e w4 ⟨rfl, b4_⟩
  have D4 := Lib.hid (D3.out.trans (b4_.mono D3.out.size)); clear b4_
  clear a0 b0 a1 b1 a2 b2 a3 b3 a4 b4 a5 b5
  have a0 : w4.cell? ⟨w.heap.size, 0, none⟩ = some (.int .i64 i) := blk_cell (blk_below P0.out D4.out (by omega)) 0
  have a1 : w4.cell? ⟨w.heap.size, 1, none⟩ = some (.int .i64 f) := blk_cell (blk_below P0.out D4.out (by omega)) 1
  have a2 : w4.cell? ⟨w.heap.size, 2, none⟩ = some (.int .i64 t) := blk_cell (blk_below P0.out D4.out (by omega)) 2
  have a3 : w4.cell? ⟨w.heap.size, 3, none⟩ = some (.int .i64 cp) := blk_cell (blk_below P0.out D4.out (by omega)) 3
  have a4 : w4.cell? ⟨w.heap.size, 4, none⟩ = some (.int .i64 s) := blk_cell (blk_below P0.out D4.out (by omega)) 4
  have a5 : w4.cell? ⟨w.heap.size, 5, none⟩ = some (.slice A n c) := blk_cell (blk_below P0.out D4.out (by omega)) 5
  have b0 : w4.cell? ⟨w.heap.size + 1, 0, none⟩ = some (.int .i64 i) := blk_cell (blk_below Q0.out D4.out (by omega)) 0
  have b1 : w4.cell? ⟨w.heap.size + 1, 1, none⟩ = some (.int .i64 f) := blk_cell (blk_below Q0.out D4.out (by omega)) 1
  have b2 : w4.cell? ⟨w.heap.size + 1, 2, none⟩ = some (.int .i64 t) := blk_cell (blk_below Q0.out D4.out (by omega)) 2
  have b3 : w4.cell? ⟨w.heap.size + 1, 3, none⟩ = some (.int .i64 cp) := blk_cell (blk_below Q0.out D4.out (by omega)) 3
  have b4 : w4.cell? ⟨w.heap.size + 1, 4, none⟩ = some (.int .i64 s) := blk_cell (blk_below Q0.out D4.out (by omega)) 4
  have b5 : w4.cell? ⟨w.heap.size + 1, 5, none⟩ = some (.slice B k d) := blk_cell (blk_below Q0.out D4.out (by omega)) 5
  go_wp2_with fail
  refine (T5.out _ D4.out).mono ?_
  rintro e w5 ⟨A5, c5, rfl, hq5, b5_⟩
  have s5 := D4.out.size
  have D5 := Lib.hid (D4.out.trans (b5_.mono D4.out.size)); clear b5_ a0 b0 a1 b1 a2 b2 a3 b3 a4 b4 a5 b5
  have t5 := D5.out.size
  have D5a := Lib.hid (D5.out.alloc t5 (.cells #[.int .i64 0, .int .i64 0, .int .i64 0, .int .i64 0, .int .i64 0, .slice (A5) 0 c5] 26))
  have a0 : ∀ o, (w5.alloc o).cell? ⟨w.heap.size, 0, none⟩ = some (.int .i64 i) := fun o => Lib.cell?_alloc_marked o (blk_cell (blk_below P0.out D5.out (by omega)) 0)
  have a1 : ∀ o, (w5.alloc o).cell? ⟨w.heap.size, 1, none⟩ = some (.int .i64 f) := fun o => Lib.cell?_alloc_marked o (blk_cell (blk_below P0.out D5.out (by omega)) 1)
  have a2 : ∀ o, (w5.alloc o).cell? ⟨w.heap.size, 2, none⟩ = some (.int .i64 t) := fun o => Lib.cell?_alloc_marked o (blk_cell (blk_below P0.out D5.out (by omega)) 2)
  have a3 : ∀ o, (w5.alloc o).cell? ⟨w.heap.size, 3, none⟩ = some (.int .i64 cp) := fun o => Lib.cell?_alloc_marked o (blk_cell (blk_below P0.out D5.out (by omega)) 3)
  have a4 : ∀ o, (w5.alloc o).cell? ⟨w.heap.size, 4, none⟩ = some (.int .i64 s) := fun o => Lib.cell?_alloc_marked o (blk_cell (blk_below P0.out D5.out (by omega)) 4)
  have a5 : ∀ o, (w5.alloc o).cell? ⟨w.heap.size, 5, none⟩ = some (.slice A n c) := fun o => Lib.cell?_alloc_marked o (blk_cell (blk_below P0.out D5.out (by omega)) 5)
  have b0 : ∀ o, (w5.alloc o).cell? ⟨w.heap.size + 1, 0, none⟩ = some (.int .i64 i) := fun o => Lib.cell?_alloc_marked o (blk_cell (blk_below Q0.out D5.out (by omega)) 0)
  have b1 : ∀ o, (w5.alloc o).cell? ⟨w.heap.size + 1, 1, none⟩ = some (.int .i64 f) := fun o => Lib.cell?_alloc_marked o (blk_cell (blk_below Q0.out D5.out (by omega)) 1)
  have b2 : ∀ o, (w5.alloc o).cell? ⟨w.heap.size + 1, 2, none⟩ = some (.int .i64 t) := fun o => Lib.cell?_alloc_marked o (blk_cell (blk_below Q0.out D5.out (by omega)) 2)
  have b3 : ∀ o, (w5.alloc o).cell? ⟨w.heap.size + 1, 3, none⟩ = some (.int .i64 cp) := fun o => Lib.cell?_alloc_marked o (blk_cell (blk_below Q0.out D5.out (by omega)) 3)
  have b4 : ∀ o, (w5.alloc o).cell? ⟨w.heap.size + 1, 4, none⟩ = some (.int .i64 s) := fun o => Lib.cell?_alloc_marked o (blk_cell (blk_below Q0.out D5.out (by omega)) 4)
  have b5 : ∀ o, (w5.alloc o).cell? ⟨w.heap.size + 1, 5, none⟩ = some (.slice B k d) := fun o => Lib.cell?_alloc_marked o (blk_cell (blk_below Q0.out D5.out (by omega)) 5)
  have HQ5 := Lib.hid hq5; have N5 := Lib.hid (blk_new w5 #[.int .i64 0, .int .i64 0, .int .i64 0, .int .i64 0, .int .i64 0, .slice (A5) 0 c5] 26)
  clear hq5
  go_wp2_with fail
  refine (T6.out _ D5a.out).mono ?_
  rintro e w6 ⟨A6, c6, rfl, hq6, b6_⟩
  have s6 := b6_.size
  have z6 : w5.heap.size + 1 ≤ w6.heap.size := by simpa using s6
  have D6 := Lib.hid (D5a.out.trans (b6_.mono (by simp; omega)))
  have M5 := Lib.hid (blk_below N5.out b6_ (by simp))
  have B6 := Lib.hid b6_
  clear b6_ a0 b0 a1 b1 a2 b2 a3 b3 a4 b4 a5 b5 s6
  have t6 := D6.out.size
  have D6a := Lib.hid (D6.out.alloc t6 (.cells #[.int .i64 0, .int .i64 0, .int .i64 0, .int .i64 0, .int .i64 0, .slice (A6) 0 c6] 26))
  have a0 : ∀ o, (w6.alloc o).cell? ⟨w.heap.size, 0, none⟩ = some (.int .i64 i) := fun o => Lib.cell?_alloc_marked o (blk_cell (blk_below P0.out D6.out (by omega)) 0)
  have a1 : ∀ o, (w6.alloc o).cell? ⟨w.heap.size, 1, none⟩ = some (.int .i64 f) := fun o => Lib.cell?_alloc_marked o (blk_cell (blk_below P0.out D6.out (by omega)) 1)
  have a2 : ∀ o, (w6.alloc o).cell? ⟨w.heap.size, 2, none⟩ = some (.int .i64 t) := fun o => Lib.cell?_alloc_marked o (blk_cell (blk_below P0.out D6.out (by omega)) 2)
  have a3 : ∀ o, (w6.alloc o).cell? ⟨w.heap.size, 3, none⟩ = some (.int .i64 cp) := fun o => Lib.cell?_alloc_marked o (blk_cell (blk_below P0.out D6.out (by omega)) 3)
  have a4 : ∀ o, (w6.alloc o).cell? ⟨w.heap.size, 4, none⟩ = some (.int .i64 s) := fun o => Lib.cell?_alloc_marked o (blk_cell (blk_below P0.out D6.out (by omega)) 4)
  have a5 : ∀ o, (w6.alloc o).cell? ⟨w.heap.size, 5, none⟩ = some (.slice A n c) := fun o => Lib.cell?_alloc_marked o (blk_cell (blk_below P0.out D6.out (by omega)) 5)
  have b0 : ∀ o, (w6.alloc o).cell? ⟨w5.heap.size, 0, none⟩ = some (.int .i64 0) := fun o => Lib.cell?_alloc_marked o (blk_cell M5.out 0)
  have b1 : ∀ o, (w6.alloc o).cell? ⟨w5.heap.size, 1, none⟩ = some (.int .i64 0) := fun o => Lib.cell?_alloc_marked o (blk_cell M5.out 1)
  have b2 : ∀ o, (w6.alloc o).cell? ⟨w5.heap.size, 2, none⟩ = some (.int .i64 0) := fun o => Lib.cell?_alloc_marked o (blk_cell M5.out 2)
  have b3 : ∀ o, (w6.alloc o).cell? ⟨w5.heap.size, 3, none⟩ = some (.int .i64 0) := fun o => Lib.cell?_alloc_marked o (blk_cell M5.out 3)
  have b4 : ∀ o, (w6.alloc o).cell? ⟨w5.heap.size, 4, none⟩ = some (.int .i64 0) := fun o => Lib.cell?_alloc_marked o (blk_cell M5.out 4)
  have b5 : ∀ o, (w6.alloc o).cell? ⟨w5.heap.size, 5, none⟩ = some (.slice A5 0 c5) := fun o => Lib.cell?_alloc_marked o (blk_cell M5.out 5)
  have HQ6 := Lib.hid hq6; have N6 := Lib.hid (blk_new w6 #[.int .i64 0, .int .i64 0, .int .i64 0, .int .i64 0, .int .i64 0, .slice (A6) 0 c6] 26)
  have S6 := Lib.hid (show (w6.alloc (.cells #[.int .i64 0, .int .i64 0, .int .i64 0, .int .i64 0, .int .i64 0, .slice (A6) 0 c6] 26)).heap.size = w6.heap.size + 1 by simp)
  clear hq6
  go_wp2_with fail
  refine (awake _).mono ?_
  rintro e w7 ⟨rfl, b7_⟩
  have D7 := Lib.hid (D6a.out.trans (b7_.mono (by have := D6a.out.size; omega))); clear b7_ a0 b0 a1 b1 a2 b2 a3 b3 a4 b4 a5 b5
  go_wp2
  go_ret
  exact ⟨rfl, hX.out.trans (D7.out.mono hX.out.size)⟩
theorem last_at (l : List Msg) (m : Msg) : (l ++ [m])[l.length]? = some m := by simp
theorem room_len (x : Ch) (ls : List Msg) (h : (ls.length : Int) ≤ x.cap) (hc : 1 ≤ x.cap) : ((room x ls).length : Int) + 1 ≤ x.cap := by
  unfold room; split
  · rename_i e; rw [List.length_drop]; omega
  · omega
theorem room_mem {x : Ch} {ls : List Msg} {l : Msg} (h : l ∈ room x ls) : l ∈ ls := by
  unfold room at h; split at h
  · exact List.mem_of_mem_drop h
  · exact h
theorem may_put {x : Ch} {ls : List Msg} {m : Msg} (h : mayQ x ls = true) (hm : (m.length : Int) ≤ x.sz) : mayQ x (room x ls ++ [m]) = true := by
  obtain ⟨h1, h2, h3⟩ := mayQ_yes h
  have hc := mayC_iff.1 h1
  refine mayQ_good h1 ?_ fun k l _ hl => ?_
  · have := room_len x ls h2 (by omega); simp; omega
  · rcases List.mem_append.1 (List.mem_of_getElem? hl) with h | h
    · exact h3 l (room_mem h)
    · simp at h; subst h; exact hm
set_option maxRecDepth 100000 in
set_option maxHeartbeats 4000000 in
theorem blind_ok (i f t cp s i2 f2 t2 cp2 s2 : Int) (A B : Option Addr) (n c k d : Nat) (la lb : List Msg) (hla : la.length = n) (hlb : lb.length = k) (hLa : ∀ l ∈ la, l.length ≤ 140737488355328) (hLb : ∀ l ∈ lb, l.length ≤ 140737488355328) (hnc : n ≤ c) (hkd : k ≤ d) (hA0 : A = none → c = 0) (hB0 : B = none → d = 0) (m : Msg) (Am : Option Addr) (r cm : Nat) (hr : m.length = r) (hmA : Am = none → cm = 0) (hmc : r ≤ cm) (h1 : greatQ la = false) (h2 : greatQ lb = false) (h3 : mayQ ⟨i, f, t, cp, s⟩ la = true) (h4 : mayQ ⟨i, f, t, cp, s⟩ lb = true) (h0 : (r : Int) ≤ 100) (h5 : (r : Int) ≤ s) (w : World) (ha : Rms w A la) (hb : Rms w B lb) (hm : Rd w Am (bcs m)) : Calls Try.prog 6 #[.agg #[.int .i64 i, .int .i64 f, .int .i64 t, .int .i64 cp, .int .i64 s, .slice (A) n c], .agg #[.int .i64 i2, .int .i64 f2, .int .i64 t2, .int .i64 cp2, .int .i64 s2, .slice (B) k d], .slice Am r cm] w fun e w' => e = .returned (.bool true) ∧ Below w.heap.size w w' := by
  have P0 := Lib.hid (blk_alloc (blk_new w #[.int .i64 i, .int .i64 f, .int .i64 t, .int .i64 cp, .int .i64 s, .slice (A) n c] 26) (.cells #[.int .i64 i, .int .i64 f, .int .i64 t, .int .i64 cp, .int .i64 s, .slice (B) k d] 26))
  have Q0 := Lib.hid (show ((w.alloc (.cells #[.int .i64 i, .int .i64 f, .int .i64 t, .int .i64 cp, .int .i64 s, .slice (A) n c] 26)).alloc (.cells #[.int .i64 i, .int .i64 f, .int .i64 t, .int .i64 cp, .int .i64 s, .slice (B) k d] 26)).heap[w.heap.size + 1]? = some (.cells #[.int .i64 i, .int .i64 f, .int .i64 t, .int .i64 cp, .int .i64 s, .slice (B) k d] 26 (0, 0)) by have := blk_new (w.alloc (.cells #[.int .i64 i, .int .i64 f, .int .i64 t, .int .i64 cp, .int .i64 s, .slice (A) n c] 26)) #[.int .i64 i, .int .i64 f, .int .i64 t, .int .i64 cp, .int .i64 s, .slice (B) k d] 26; simpa using this)
  have hX := Lib.hid (((Below.refl w.heap.size w).alloc (Nat.le_refl _) (.cells #[.int .i64 i, .int .i64 f, .int .i64 t, .int .i64 cp, .int .i64 s, .slice (A) n c] 26)).alloc (by simp) (.cells #[.int .i64 i, .int .i64 f, .int .i64 t, .int .i64 cp, .int .i64 s, .slice (B) k d] 26))
  have hsz : ((w.alloc (.cells #[.int .i64 i, .int .i64 f, .int .i64 t, .int .i64 cp, .int .i64 s, .slice (A) n c] 26)).alloc (.cells #[.int .i64 i, .int .i64 f, .int .i64 t, .int .i64 cp, .int .i64 s, .slice (B) k d] 26)).heap.size = w.heap.size + 2 := by simp
  have T1 : Hid (∀ w', Below ((w.alloc (.cells #[.int .i64 i, .int .i64 f, .int .i64 t, .int .i64 cp, .int .i64 s, .slice (A) n c] 26)).alloc (.cells #[.int .i64 i, .int .i64 f, .int .i64 t, .int .i64 cp, .int .i64 s, .slice (B) k d] 26)).heap.size ((w.alloc (.cells #[.int .i64 i, .int .i64 f, .int .i64 t, .int .i64 cp, .int .i64 s, .slice (A) n c] 26)).alloc (.cells #[.int .i64 i, .int .i64 f, .int .i64 t, .int .i64 cp, .int .i64 s, .slice (B) k d] 26)) w' → Calls Try.prog 9 #[.agg #[.int .i64 i, .int .i64 f, .int .i64 t, .int .i64 cp, .int .i64 s, .slice (A) n c]] w' fun e w'' => e = .returned (.bool false) ∧ Below w'.heap.size w' w'') := Lib.hid (fun w' hh => by
    have T := great ⟨i, f, t, cp, s⟩ A c la hLa w' ((ha.below hX.out).below hh)
    rw [hla, h1] at T; exact T)
  have T2 : Hid (∀ w', Below ((w.alloc (.cells #[.int .i64 i, .int .i64 f, .int .i64 t, .int .i64 cp, .int .i64 s, .slice (A) n c] 26)).alloc (.cells #[.int .i64 i, .int .i64 f, .int .i64 t, .int .i64 cp, .int .i64 s, .slice (B) k d] 26)).heap.size ((w.alloc (.cells #[.int .i64 i, .int .i64 f, .int .i64 t, .int .i64 cp, .int .i64 s, .slice (A) n c] 26)).alloc (.cells #[.int .i64 i, .int .i64 f, .int .i64 t, .int .i64 cp, .int .i64 s, .slice (B) k d] 26)) w' → Calls Try.prog 9 #[.agg #[.int .i64 i, .int .i64 f, .int .i64 t, .int .i64 cp, .int .i64 s, .slice (B) k d]] w' fun e w'' => e = .returned (.bool false) ∧ Below w'.heap.size w' w'') := Lib.hid (fun w' hh => by
    have T := great ⟨i, f, t, cp, s⟩ B d lb hLb w' ((hb.below hX.out).below hh)
    rw [hlb, h2] at T; exact T)
  have T3 : Hid (∀ w', Below ((w.alloc (.cells #[.int .i64 i, .int .i64 f, .int .i64 t, .int .i64 cp, .int .i64 s, .slice (A) n c] 26)).alloc (.cells #[.int .i64 i, .int .i64 f, .int .i64 t, .int .i64 cp, .int .i64 s, .slice (B) k d] 26)).heap.size ((w.alloc (.cells #[.int .i64 i, .int .i64 f, .int .i64 t, .int .i64 cp, .int .i64 s, .slice (A) n c] 26)).alloc (.cells #[.int .i64 i, .int .i64 f, .int .i64 t, .int .i64 cp, .int .i64 s, .slice (B) k d] 26)) w' → Calls Try.prog 20 #[.agg #[.int .i64 i, .int .i64 f, .int .i64 t, .int .i64 cp, .int .i64 s, .slice (A) n c]] w' fun e w'' => e = .returned (.bool true) ∧ Below w'.heap.size w' w'') := Lib.hid (fun w' hh => by
    have T := mayQueue ⟨i, f, t, cp, s⟩ A c la (by have := greatQ_no h1; omega) w' ((ha.below hX.out).below hh)
    rw [hla, h3] at T; exact T)
  have T4 : Hid (∀ w', Below ((w.alloc (.cells #[.int .i64 i, .int .i64 f, .int .i64 t, .int .i64 cp, .int .i64 s, .slice (A) n c] 26)).alloc (.cells #[.int .i64 i, .int .i64 f, .int .i64 t, .int .i64 cp, .int .i64 s, .slice (B) k d] 26)).heap.size ((w.alloc (.cells #[.int .i64 i, .int .i64 f, .int .i64 t, .int .i64 cp, .int .i64 s, .slice (A) n c] 26)).alloc (.cells #[.int .i64 i, .int .i64 f, .int .i64 t, .int .i64 cp, .int .i64 s, .slice (B) k d] 26)) w' → Calls Try.prog 20 #[.agg #[.int .i64 i, .int .i64 f, .int .i64 t, .int .i64 cp, .int .i64 s, .slice (B) k d]] w' fun e w'' => e = .returned (.bool true) ∧ Below w'.heap.size w' w'') := Lib.hid (fun w' hh => by
    have T := mayQueue ⟨i, f, t, cp, s⟩ B d lb (by have := greatQ_no h2; omega) w' ((hb.below hX.out).below hh)
    rw [hlb, h4] at T; exact T)
  have e1 : putR ⟨i, f, t, cp, s⟩ la m = (⟨i, f, t, cp, s⟩, room ⟨i, f, t, cp, s⟩ la ++ [m], 0) := by unfold putR; rw [if_pos h3, if_neg (by show ¬ s < (m.length : Int); omega)]
  have e2 : putR ⟨i, f, t, cp, s⟩ lb m = (⟨i, f, t, cp, s⟩, room ⟨i, f, t, cp, s⟩ lb ++ [m], 0) := by unfold putR; rw [if_pos h4, if_neg (by show ¬ s < (m.length : Int); omega)]
  have HMY := Lib.hid (may_put (m := m) h3 (by show (m.length : Int) ≤ s; omega))
  have HL20 := Lib.hid (show (room ⟨i, f, t, cp, s⟩ la).length ≤ 20 by have := room_len ⟨i, f, t, cp, s⟩ la (mayQ_yes h3).2.1 (by have := mayC_iff.1 (mayQ_yes h3).1; omega); have := mayC_iff.1 (mayQ_yes h3).1; dsimp only at *; omega)
  have HZ20 := Lib.hid (show (room ⟨i, f, t, cp, s⟩ lb).length ≤ 20 by have := room_len ⟨i, f, t, cp, s⟩ lb (mayQ_yes h4).2.1 (by have := mayC_iff.1 (mayQ_yes h4).1; omega); have := mayC_iff.1 (mayQ_yes h4).1; dsimp only at *; omega)
  obtain ⟨ra, hra⟩ : ∃ ra, room ⟨i, f, t, cp, s⟩ la = ra := ⟨_, rfl⟩
  obtain ⟨rb, hrb⟩ : ∃ rb, room ⟨i, f, t, cp, s⟩ lb = rb := ⟨_, rfl⟩
  obtain ⟨p, hp⟩ : ∃ p, ra.length = p := ⟨_, rfl⟩
  obtain ⟨z, hz⟩ : ∃ z, rb.length = z := ⟨_, rfl⟩
  rw [hra] at e1 HMY HL20
  rw [hrb] at e2 HZ20
  rw [hp] at HL20
  rw [hz] at HZ20
  have l1 : (ra ++ [m]).length = p + 1 := by simp [hp]
  have l2 : (rb ++ [m]).length = z + 1 := by simp [hz]
  have T5 : Hid (∀ w', Below ((w.alloc (.cells #[.int .i64 i, .int .i64 f, .int .i64 t, .int .i64 cp, .int .i64 s, .slice (A) n c] 26)).alloc (.cells #[.int .i64 i, .int .i64 f, .int .i64 t, .int .i64 cp, .int .i64 s, .slice (B) k d] 26)).heap.size ((w.alloc (.cells #[.int .i64 i, .int .i64 f, .int .i64 t, .int .i64 cp, .int .i64 s, .slice (A) n c] 26)).alloc (.cells #[.int .i64 i, .int .i64 f, .int .i64 t, .int .i64 cp, .int .i64 s, .slice (B) k d] 26)) w' → Calls Try.prog 11 #[.agg #[.int .i64 i, .int .i64 f, .int .i64 t, .int .i64 cp, .int .i64 s, .slice (A) n c], .slice Am r cm] w' fun e w'' => ∃ A c, e = .returned (.tuple #[.agg #[.int .i64 i, .int .i64 f, .int .i64 t, .int .i64 cp, .int .i64 s, .slice (A) (p + 1) c], .int .i64 0]) ∧ QAt w'.heap.size w''.heap.size w'' A c (ra ++ [m]) ∧ Below w'.heap.size w' w'') := Lib.hid (fun w' hh => by
    have T := put_to (e1) A c hA0 (by rw [hla]; exact hnc) (by have := greatQ_no h1; omega) Am cm hmA (by rw [hr]; exact hmc) w' ((ha.below hX.out).below hh) ((hm.below hX.out).below hh)
    rw [hla, hr, l1] at T; exact T)
  have T6 : Hid (∀ w', Below ((w.alloc (.cells #[.int .i64 i, .int .i64 f, .int .i64 t, .int .i64 cp, .int .i64 s, .slice (A) n c] 26)).alloc (.cells #[.int .i64 i, .int .i64 f, .int .i64 t, .int .i64 cp, .int .i64 s, .slice (B) k d] 26)).heap.size ((w.alloc (.cells #[.int .i64 i, .int .i64 f, .int .i64 t, .int .i64 cp, .int .i64 s, .slice (A) n c] 26)).alloc (.cells #[.int .i64 i, .int .i64 f, .int .i64 t, .int .i64 cp, .int .i64 s, .slice (B) k d] 26)) w' → Calls Try.prog 11 #[.agg #[.int .i64 i, .int .i64 f, .int .i64 t, .int .i64 cp, .int .i64 s, .slice (B) k d], .slice Am r cm] w' fun e w'' => ∃ A c, e = .returned (.tuple #[.agg #[.int .i64 i, .int .i64 f, .int .i64 t, .int .i64 cp, .int .i64 s, .slice (A) (z + 1) c], .int .i64 0]) ∧ QAt w'.heap.size w''.heap.size w'' A c (rb ++ [m]) ∧ Below w'.heap.size w' w'') := Lib.hid (fun w' hh => by
    have T := put_to (e2) B d hB0 (by rw [hlb]; exact hkd) (by have := greatQ_no h2; omega) Am cm hmA (by rw [hr]; exact hmc) w' ((hb.below hX.out).below hh) ((hm.below hX.out).below hh)
    rw [hlb, hr, l2] at T; exact T)
  have HL1 := Lib.hid l1; have HLA := Lib.hid (show (ra ++ [m])[p]? = some m by rw [← hp]; exact last_at ra m); have HLB := Lib.hid (show (rb ++ [m])[z]? = some m by rw [← hz]; exact last_at rb m)
  have HR := Lib.hid hr; have HM := Lib.hid (hm.below hX.out)
  have np1 : ¬ (p : Int) + 1 = 0 := by omega
  have np2 : (((p : Int) + 1) == 0) = false := by rw [beq_eq_false_iff_ne]; exact np1
  have nz1 : ¬ (z : Int) + 1 = 0 := by omega
  have nz2 : (((z : Int) + 1) == 0) = false := by rw [beq_eq_false_iff_ne]; exact nz1
  clear ha hb hLa hLb hla hlb h1 h2 h3 h4 e1 e2 hm hmA hmc hr hA0 hB0 hra hrb hp hz l1 l2
  go_enter Try.func6, Try.ntmps6
  go_wp2_with fail
  refine (T1.out _ (Below.refl _ _)).mono ?_
  rintro e w1 ⟨rfl, b1_⟩
  have D1 := Lib.hid (b1_.mono (Nat.le_refl _)); clear b1_
  have a0 : w1.cell? ⟨w.heap.size, 0, none⟩ = some (.int .i64 i) := blk_cell (blk_below P0.out D1.out (by omega)) 0
  have a1 : w1.cell? ⟨w.heap.size, 1, none⟩ = some (.int .i64 f) := blk_cell (blk_below P0.out D1.out (by omega)) 1
  have a2 : w1.cell? ⟨w.heap.size, 2, none⟩ = some (.int .i64 t) := blk_cell (blk_below P0.out D1.out (by omega)) 2
  have a3 : w1.cell? ⟨w.heap.size, 3, none⟩ = some (.int .i64 cp) := blk_cell (blk_below P0.out D1.out (by omega)) 3
  have a4 : w1.cell? ⟨w.heap.size, 4, none⟩ = some (.int .i64 s) := blk_cell (blk_below P0.out D1.out (by omega)) 4
  have a5 : w1.cell? ⟨w.heap.size, 5, none⟩ = some (.slice A n c) := blk_cell (blk_below P0.out D1.out (by omega)) 5
  have b0 : w1.cell? ⟨w.heap.size + 1, 0, none⟩ = some (.int .i64 i) := blk_cell (blk_below Q0.out D1.out (by omega)) 0
  have b1 : w1.cell? ⟨w.heap.size + 1, 1, none⟩ = some (.int .i64 f) := blk_cell (blk_below Q0.out D1.out (by omega)) 1
  have b2 : w1.cell? ⟨w.heap.size + 1, 2, none⟩ = some (.int .i64 t) := blk_cell (blk_below Q0.out D1.out (by omega)) 2
  have b3 : w1.cell? ⟨w.heap.size + 1, 3, none⟩ = some (.int .i64 cp) := blk_cell (blk_below Q0.out D1.out (by omega)) 3
  have b4 : w1.cell? ⟨w.heap.size + 1, 4, none⟩ = some (.int .i64 s) := blk_cell (blk_below Q0.out D1.out (by omega)) 4
  have b5 : w1.cell? ⟨w.heap.size + 1, 5, none⟩ = some (.slice B k d) := blk_cell (blk_below Q0.out D1.out (by omega)) 5
  go_wp2_with fail
  refine (T2.out _ D1.out).mono ?_
  rintro e w2 ⟨rfl, b2_⟩
  have D2 := Lib.hid (D1.out.trans (b2_.mono D1.out.size)); clear b2_
  clear a0 b0 a1 b1 a2 b2 a3 b3 a4 b4 a5 b5
  have a0 : w2.cell? ⟨w.heap.size, 0, none⟩ = some (.int .i64 i) := blk_cell (blk_below P0.out D2.out (by omega)) 0
  have a1 : w2.cell? ⟨w.heap.size, 1, none⟩ = some (.int .i64 f) := blk_cell (blk_below P0.out D2.out (by omega)) 1
  have a2 : w2.cell? ⟨w.heap.size, 2, none⟩ = some (.int .i64 t) := blk_cell (blk_below P0.out D2.out (by omega)) 2
  have a3 : w2.cell? ⟨w.heap.size, 3, none⟩ = some (.int .i64 cp) := blk_cell (blk_below P0.out D2.out (by omega)) 3
  have a4 : w2.cell? ⟨w.heap.size, 4, none⟩ = some (.int .i64 s) := blk_cell (blk_below P0.out D2.out (by omega)) 4
  have a5 : w2.cell? ⟨w.heap.size, 5, none⟩ = some (.slice A n c) := blk_cell (blk_below P0.out D2.out (by omega)) 5
  have b0 : w2.cell? ⟨w.heap.size + 1, 0, none⟩ = some (.int .i64 i) := blk_cell (blk_below Q0.out D2.out (by omega)) 0
  have b1 : w2.cell? ⟨w.heap.size + 1, 1, none⟩ = some (.int .i64 f) := blk_cell (blk_below Q0.out D2.out (by omega)) 1
  have b2 : w2.cell? ⟨w.heap.size + 1, 2, none⟩ = some (.int .i64 t) := blk_cell (blk_below Q0.out D2.out (by omega)) 2
  have b3 : w2.cell? ⟨w.heap.size + 1, 3, none⟩ = some (.int .i64 cp) := blk_cell (blk_below Q0.out D2.out (by omega)) 3
  have b4 : w2.cell? ⟨w.heap.size + 1, 4, none⟩ = some (.int .i64 s) := blk_cell (blk_below Q0.out D2.out (by omega)) 4
  have b5 : w2.cell? ⟨w.heap.size + 1, 5, none⟩ = some (.slice B k d) := blk_cell (blk_below Q0.out D2.out (by omega)) 5
  go_wp2_with fail
  refine (T3.out _ D2.out).mono ?_
  rintro e w3 ⟨rfl, b3_⟩
  have D3 := Lib.hid (D2.out.trans (b3_.mono D2.out.size)); clear b3_
  clear a0 b0 a1 b1 a2 b2 a3 b3 a4 b4 a5 b5
  have a0 : w3.cell? ⟨w.heap.size, 0, none⟩ = some (.int .i64 i) := blk_cell (blk_below P0.out D3.out (by omega)) 0
  have a1 : w3.cell? ⟨w.heap.size, 1, none⟩ = some (.int .i64 f) := blk_cell (blk_below P0.out D3.out (by omega)) 1
  have a2 : w3.cell? ⟨w.heap.size, 2, none⟩ = some (.int .i64 t) := blk_cell (blk_below P0.out D3.out (by omega)) 2
  have a3 : w3.cell? ⟨w.heap.size, 3, none⟩ = some (.int .i64 cp) := blk_cell (blk_below P0.out D3.out (by omega)) 3
  have a4 : w3.cell? ⟨w.heap.size, 4, none⟩ = some (.int .i64 s) := blk_cell (blk_below P0.out D3.out (by omega)) 4
  have a5 : w3.cell? ⟨w.heap.size, 5, none⟩ = some (.slice A n c) := blk_cell (blk_below P0.out D3.out (by omega)) 5
  have b0 : w3.cell? ⟨w.heap.size + 1, 0, none⟩ = some (.int .i64 i) := blk_cell (blk_below Q0.out D3.out (by omega)) 0
  have b1 : w3.cell? ⟨w.heap.size + 1, 1, none⟩ = some (.int .i64 f) := blk_cell (blk_below Q0.out D3.out (by omega)) 1
  have b2 : w3.cell? ⟨w.heap.size + 1, 2, none⟩ = some (.int .i64 t) := blk_cell (blk_below Q0.out D3.out (by omega)) 2
  have b3 : w3.cell? ⟨w.heap.size + 1, 3, none⟩ = some (.int .i64 cp) := blk_cell (blk_below Q0.out D3.out (by omega)) 3
  have b4 : w3.cell? ⟨w.heap.size + 1, 4, none⟩ = some (.int .i64 s) := blk_cell (blk_below Q0.out D3.out (by omega)) 4
  have b5 : w3.cell? ⟨w.heap.size + 1, 5, none⟩ = some (.slice B k d) := blk_cell (blk_below Q0.out D3.out (by omega)) 5
  go_wp2_with fail
  refine (T4.out _ D3.out).mono ?_
  rintro e w4 ⟨rfl, b4_⟩
  have D4 := Lib.hid (D3.out.trans (b4_.mono D3.out.size)); clear b4_
  clear a0 b0 a1 b1 a2 b2 a3 b3 a4 b4 a5 b5
  have a0 : w4.cell? ⟨w.heap.size, 0, none⟩ = some (.int .i64 i) := blk_cell (blk_below P0.out D4.out (by omega)) 0
  have a1 : w4.cell? ⟨w.heap.size, 1, none⟩ = some (.int .i64 f) := blk_cell (blk_below P0.out D4.out (by omega)) 1
  have a2 : w4.cell? ⟨w.heap.size, 2, none⟩ = some (.int .i64 t) := blk_cell (blk_below P0.out D4.out (by omega)) 2
  have a3 : w4.cell? ⟨w.heap.size, 3, none⟩ = some (.int .i64 cp) := blk_cell (blk_below P0.out D4.out (by omega)) 3
  have a4 : w4.cell? ⟨w.heap.size, 4, none⟩ = some (.int .i64 s) := blk_cell (blk_below P0.out D4.out (by omega)) 4
  have a5 : w4.cell? ⟨w.heap.size, 5, none⟩ = some (.slice A n c) := blk_cell (blk_below P0.out D4.out (by omega)) 5
  have b0 : w4.cell? ⟨w.heap.size + 1, 0, none⟩ = some (.int .i64 i) := blk_cell (blk_below Q0.out D4.out (by omega)) 0
  have b1 : w4.cell? ⟨w.heap.size + 1, 1, none⟩ = some (.int .i64 f) := blk_cell (blk_below Q0.out D4.out (by omega)) 1
  have b2 : w4.cell? ⟨w.heap.size + 1, 2, none⟩ = some (.int .i64 t) := blk_cell (blk_below Q0.out D4.out (by omega)) 2
  have b3 : w4.cell? ⟨w.heap.size + 1, 3, none⟩ = some (.int .i64 cp) := blk_cell (blk_below Q0.out D4.out (by omega)) 3
  have b4 : w4.cell? ⟨w.heap.size + 1, 4, none⟩ = some (.int .i64 s) := blk_cell (blk_below Q0.out D4.out (by omega)) 4
  have b5 : w4.cell? ⟨w.heap.size + 1, 5, none⟩ = some (.slice B k d) := blk_cell (blk_below Q0.out D4.out (by omega)) 5
  go_wp2_with fail
  refine (T5.out _ D4.out).mono ?_
  rintro e w5 ⟨A5, c5, rfl, hq5, b5_⟩
  have s5 := D4.out.size
  have D5 := Lib.hid (D4.out.trans (b5_.mono D4.out.size)); clear b5_ a0 b0 a1 b1 a2 b2 a3 b3 a4 b4 a5 b5
  have t5 := D5.out.size
  have D5a := Lib.hid (D5.out.alloc t5 (.cells #[.int .i64 i, .int .i64 f, .int .i64 t, .int .i64 cp, .int .i64 s, .slice (A5) (p + 1) c5] 26))
  have a0 : ∀ o, (w5.alloc o).cell? ⟨w.heap.size, 0, none⟩ = some (.int .i64 i) := fun o => Lib.cell?_alloc_marked o (blk_cell (blk_below P0.out D5.out (by omega)) 0)
  have a1 : ∀ o, (w5.alloc o).cell? ⟨w.heap.size, 1, none⟩ = some (.int .i64 f) := fun o => Lib.cell?_alloc_marked o (blk_cell (blk_below P0.out D5.out (by omega)) 1)
  have a2 : ∀ o, (w5.alloc o).cell? ⟨w.heap.size, 2, none⟩ = some (.int .i64 t) := fun o => Lib.cell?_alloc_marked o (blk_cell (blk_below P0.out D5.out (by omega)) 2)
  have a3 : ∀ o, (w5.alloc o).cell? ⟨w.heap.size, 3, none⟩ = some (.int .i64 cp) := fun o => Lib.cell?_alloc_marked o (blk_cell (blk_below P0.out D5.out (by omega)) 3)
  have a4 : ∀ o, (w5.alloc o).cell? ⟨w.heap.size, 4, none⟩ = some (.int .i64 s) := fun o => Lib.cell?_alloc_marked o (blk_cell (blk_below P0.out D5.out (by omega)) 4)
  have a5 : ∀ o, (w5.alloc o).cell? ⟨w.heap.size, 5, none⟩ = some (.slice A n c) := fun o => Lib.cell?_alloc_marked o (blk_cell (blk_below P0.out D5.out (by omega)) 5)
  have b0 : ∀ o, (w5.alloc o).cell? ⟨w.heap.size + 1, 0, none⟩ = some (.int .i64 i) := fun o => Lib.cell?_alloc_marked o (blk_cell (blk_below Q0.out D5.out (by omega)) 0)
  have b1 : ∀ o, (w5.alloc o).cell? ⟨w.heap.size + 1, 1, none⟩ = some (.int .i64 f) := fun o => Lib.cell?_alloc_marked o (blk_cell (blk_below Q0.out D5.out (by omega)) 1)
  have b2 : ∀ o, (w5.alloc o).cell? ⟨w.heap.size + 1, 2, none⟩ = some (.int .i64 t) := fun o => Lib.cell?_alloc_marked o (blk_cell (blk_below Q0.out D5.out (by omega)) 2)
  have b3 : ∀ o, (w5.alloc o).cell? ⟨w.heap.size + 1, 3, none⟩ = some (.int .i64 cp) := fun o => Lib.cell?_alloc_marked o (blk_cell (blk_below Q0.out D5.out (by omega)) 3)
  have b4 : ∀ o, (w5.alloc o).cell? ⟨w.heap.size + 1, 4, none⟩ = some (.int .i64 s) := fun o => Lib.cell?_alloc_marked o (blk_cell (blk_below Q0.out D5.out (by omega)) 4)
  have b5 : ∀ o, (w5.alloc o).cell? ⟨w.heap.size + 1, 5, none⟩ = some (.slice B k d) := fun o => Lib.cell?_alloc_marked o (blk_cell (blk_below Q0.out D5.out (by omega)) 5)
  have HQ5 := Lib.hid hq5; have N5 := Lib.hid (blk_new w5 #[.int .i64 i, .int .i64 f, .int .i64 t, .int .i64 cp, .int .i64 s, .slice (A5) (p + 1) c5] 26)
  clear hq5
  go_wp2_with fail
  refine (T6.out _ D5a.out).mono ?_
  rintro e w6 ⟨A6, c6, rfl, hq6, b6_⟩
  have s6 := b6_.size
  have z6 : w5.heap.size + 1 ≤ w6.heap.size := by simpa using s6
  have D6 := Lib.hid (D5a.out.trans (b6_.mono (by simp; omega)))
  have M5 := Lib.hid (blk_below N5.out b6_ (by simp))
  have B6 := Lib.hid b6_
  clear b6_ a0 b0 a1 b1 a2 b2 a3 b3 a4 b4 a5 b5 s6
  have t6 := D6.out.size
  have D6a := Lib.hid (D6.out.alloc t6 (.cells #[.int .i64 i, .int .i64 f, .int .i64 t, .int .i64 cp, .int .i64 s, .slice (A6) (z + 1) c6] 26))
  have a0 : ∀ o, (w6.alloc o).cell? ⟨w.heap.size, 0, none⟩ = some (.int .i64 i) := fun o => Lib.cell?_alloc_marked o (blk_cell (blk_below P0.out D6.out (by omega)) 0)
  have a1 : ∀ o, (w6.alloc o).cell? ⟨w.heap.size, 1, none⟩ = some (.int .i64 f) := fun o => Lib.cell?_alloc_marked o (blk_cell (blk_below P0.out D6.out (by omega)) 1)
  have a2 : ∀ o, (w6.alloc o).cell? ⟨w.heap.size, 2, none⟩ = some (.int .i64 t) := fun o => Lib.cell?_alloc_marked o (blk_cell (blk_below P0.out D6.out (by omega)) 2)
  have a3 : ∀ o, (w6.alloc o).cell? ⟨w.heap.size, 3, none⟩ = some (.int .i64 cp) := fun o => Lib.cell?_alloc_marked o (blk_cell (blk_below P0.out D6.out (by omega)) 3)
  have a4 : ∀ o, (w6.alloc o).cell? ⟨w.heap.size, 4, none⟩ = some (.int .i64 s) := fun o => Lib.cell?_alloc_marked o (blk_cell (blk_below P0.out D6.out (by omega)) 4)
  have a5 : ∀ o, (w6.alloc o).cell? ⟨w.heap.size, 5, none⟩ = some (.slice A n c) := fun o => Lib.cell?_alloc_marked o (blk_cell (blk_below P0.out D6.out (by omega)) 5)
  have b0 : ∀ o, (w6.alloc o).cell? ⟨w5.heap.size, 0, none⟩ = some (.int .i64 i) := fun o => Lib.cell?_alloc_marked o (blk_cell M5.out 0)
  have b1 : ∀ o, (w6.alloc o).cell? ⟨w5.heap.size, 1, none⟩ = some (.int .i64 f) := fun o => Lib.cell?_alloc_marked o (blk_cell M5.out 1)
  have b2 : ∀ o, (w6.alloc o).cell? ⟨w5.heap.size, 2, none⟩ = some (.int .i64 t) := fun o => Lib.cell?_alloc_marked o (blk_cell M5.out 2)
  have b3 : ∀ o, (w6.alloc o).cell? ⟨w5.heap.size, 3, none⟩ = some (.int .i64 cp) := fun o => Lib.cell?_alloc_marked o (blk_cell M5.out 3)
  have b4 : ∀ o, (w6.alloc o).cell? ⟨w5.heap.size, 4, none⟩ = some (.int .i64 s) := fun o => Lib.cell?_alloc_marked o (blk_cell M5.out 4)
  have b5 : ∀ o, (w6.alloc o).cell? ⟨w5.heap.size, 5, none⟩ = some (.slice A5 (p + 1) c5) := fun o => Lib.cell?_alloc_marked o (blk_cell M5.out 5)
  have HQ6 := Lib.hid hq6; have N6 := Lib.hid (blk_new w6 #[.int .i64 i, .int .i64 f, .int .i64 t, .int .i64 cp, .int .i64 s, .slice (A6) (z + 1) c6] 26)
  have S6 := Lib.hid (show (w6.alloc (.cells #[.int .i64 i, .int .i64 f, .int .i64 t, .int .i64 cp, .int .i64 s, .slice (A6) (z + 1) c6] 26)).heap.size = w6.heap.size + 1 by simp)
  clear hq6
  go_wp2_with fail
  have G5 := Lib.hid (blk_alloc M5.out (.cells #[.int .i64 i, .int .i64 f, .int .i64 t, .int .i64 cp, .int .i64 s, .slice (A6) (z + 1) c6] 26))
  have ra5 := ((HQ5.out.2.2.below ((Below.refl w5.heap.size w5).alloc (Nat.le_refl _) (.cells #[.int .i64 i, .int .i64 f, .int .i64 t, .int .i64 cp, .int .i64 s, .slice (A5) (p + 1) c5] 26)) (Nat.le_refl _)).below B6.out (by simp)).rows.below ((Below.refl w6.heap.size w6).alloc (Nat.le_refl _) (.cells #[.int .i64 i, .int .i64 f, .int .i64 t, .int .i64 cp, .int .i64 s, .slice (A6) (z + 1) c6] 26))
  have rb6 := HQ6.out.2.2.rows.below ((Below.refl w6.heap.size w6).alloc (Nat.le_refl _) (.cells #[.int .i64 i, .int .i64 f, .int .i64 t, .int .i64 cp, .int .i64 s, .slice (A6) (z + 1) c6] 26))
  have c5l := HQ5.out.1
  rw [HL1.out] at c5l
  clear a0 b0 a1 b1 a2 b2 a3 b3 a4 b4 a5 b5
  generalize (w6.alloc (.cells #[.int .i64 i, .int .i64 f, .int .i64 t, .int .i64 cp, .int .i64 s, .slice (A6) (z + 1) c6] 26)) = w7 at *
  obtain ⟨g5, o5, rfl⟩ := ra5.addr (by simp)
  obtain ⟨g6, o6, rfl⟩ := rb6.addr (by simp)
  obtain ⟨M1, n1, k1, _, _, r1⟩ := ra5.at HLA.out
  obtain ⟨M2, n2, k2, _, _, r2⟩ := rb6.at HLB.out
  rw [HR.out] at k1 k2
  have lt1 := World.block_lt_of_cell? w7 _ k1
  have lt2 := World.block_lt_of_cell? w7 _ k2
  have y0 : ∀ x : Ext w7.heap.size w7, x.world.cell? ⟨w5.heap.size, 0, none⟩ = some (.int .i64 i) := fun x => (x.cell _ _ (blk_lt G5.out)).trans (blk_cell G5.out 0)
  have y1 : ∀ x : Ext w7.heap.size w7, x.world.cell? ⟨w5.heap.size, 1, none⟩ = some (.int .i64 f) := fun x => (x.cell _ _ (blk_lt G5.out)).trans (blk_cell G5.out 1)
  have y2 : ∀ x : Ext w7.heap.size w7, x.world.cell? ⟨w5.heap.size, 2, none⟩ = some (.int .i64 t) := fun x => (x.cell _ _ (blk_lt G5.out)).trans (blk_cell G5.out 2)
  have y3 : ∀ x : Ext w7.heap.size w7, x.world.cell? ⟨w5.heap.size, 3, none⟩ = some (.int .i64 cp) := fun x => (x.cell _ _ (blk_lt G5.out)).trans (blk_cell G5.out 3)
  have y4 : ∀ x : Ext w7.heap.size w7, x.world.cell? ⟨w5.heap.size, 4, none⟩ = some (.int .i64 s) := fun x => (x.cell _ _ (blk_lt G5.out)).trans (blk_cell G5.out 4)
  have y5 : ∀ x : Ext w7.heap.size w7, x.world.cell? ⟨w5.heap.size, 5, none⟩ = some (.slice (some ⟨g5, o5, none⟩) (p + 1) c5) := fun x => (x.cell _ _ (blk_lt G5.out)).trans (blk_cell G5.out 5)
  have yb : ∀ x : Ext w7.heap.size w7, x.world.cell? ⟨w6.heap.size, 5, none⟩ = some (.slice (some ⟨g6, o6, none⟩) (z + 1) c6) := fun x => (x.cell _ _ (blk_lt N6.out)).trans (blk_cell N6.out 5)
  have ya5 : ∀ x : Ext w7.heap.size w7, x.world.cell? ⟨g5, o5 + p, none⟩ = some (.slice M1 r n1) := fun x => (x.cell _ _ lt1).trans k1
  have yb6 : ∀ x : Ext w7.heap.size w7, x.world.cell? ⟨g6, o6 + z, none⟩ = some (.slice M2 r n2) := fun x => (x.cell _ _ lt2).trans k2
  have D7 := Lib.hid D6a.out
  have hm7 := HM.out.below D6a.out
  have za : ∀ x : Ext w7.heap.size w7, Sem.run Try.prog (convert 27 9 (.slice M1 r n1)) x.world = .ok (.string ⟨m.toArray⟩) x.world := fun x => str_rd m M1 r n1 HR.out _ (r1.below x.below)
  have zb : ∀ x : Ext w7.heap.size w7, Sem.run Try.prog (convert 27 9 (.slice M2 r n2)) x.world = .ok (.string ⟨m.toArray⟩) x.world := fun x => str_rd m M2 r n2 HR.out _ (r2.below x.below)
  have zm : ∀ x : Ext w7.heap.size w7, Sem.run Try.prog (convert 27 9 (.slice Am r cm)) x.world = .ok (.string ⟨m.toArray⟩) x.world := fun x => str_rd m Am r cm HR.out _ (hm7.below x.below)
  have TM : ∀ x : Ext w7.heap.size w7, Calls Try.prog 20 #[.agg #[.int .i64 i, .int .i64 f, .int .i64 t, .int .i64 cp, .int .i64 s, .slice (some ⟨g5, o5, none⟩) (p + 1) c5]] x.world fun e w'' => e = .returned (.bool true) ∧ Below x.world.heap.size x.world w'' := fun x => by
    have T := mayQueue ⟨i, f, t, cp, s⟩ (some ⟨g5, o5, none⟩) c5 (ra ++ [m]) (by rw [HL1.out]; have := HL20.out; omega) x.world (ra5.below x.below)
    rw [HMY.out, HL1.out] at T; exact T
  have TA := awake
  have hp1 : IntKind.i64.wrap ((p : Int) + 1 - 1) = (p : Int) := by have := HL20.out; rw [IntWalk.i64_in _ (by omega)]; omega
  have hp2 : IntKind.i64.wrap (p : Int) = (p : Int) := by have := HL20.out; rw [IntWalk.i64_in _ (by omega)]
  have hz1 : IntKind.i64.wrap ((z : Int) + 1 - 1) = (z : Int) := by have := HZ20.out; rw [IntWalk.i64_in _ (by omega)]; omega
  have hz2 : IntKind.i64.wrap (z : Int) = (z : Int) := by have := HZ20.out; rw [IntWalk.i64_in _ (by omega)]
  have hp3 : (0 : Int) ≤ (p : Int) := by omega
  have hp4 : (p : Int) < (p : Int) + 1 := by omega
  have hz3 : (0 : Int) ≤ (z : Int) := by omega
  have hz4 : (z : Int) < (z : Int) + 1 := by omega
  obtain ⟨S, hS⟩ : ∃ S, ByteArray.mk m.toArray = S := ⟨_, rfl⟩
  rw [hS] at za zb zm
  refine region_ext (by kernel_rfl) (by kernel_rfl) ?_
  try simp only [List.append_eq, List.cons_append, List.nil_append]
  repeat (go_big_quiet_step (first | (with_reducible exact calls_ext (Nat.le_refl _) (TM _)) | (with_reducible exact calls_ext (Nat.le_refl _) (TA _))))
  refine wpQuiet_nil ?_
  intro v
  go_wp2
  go_ret
  exact ⟨rfl, hX.out.trans ((D7.out.trans (v.below.mono D7.out.size)).mono hX.out.size)⟩
theorem blind (x y : Ch) (la lb : List Msg) (m : Msg) (A : Option Addr) (c : Nat) (B : Option Addr) (d : Nat) (Am : Option Addr) (cm : Nat) (hA0 : A = none → c = 0) (hnc : la.length ≤ c) (hB0 : B = none → d = 0) (hkd : lb.length ≤ d) (hmA : Am = none → cm = 0) (hmc : m.length ≤ cm)
    (hLa : ∀ l ∈ la, l.length ≤ 140737488355328) (hLb : ∀ l ∈ lb, l.length ≤ 140737488355328) (w : World) (ha : Rms w A la) (hb : Rms w B lb) (hm : Rd w Am (bcs m)) :
    Calls Try.prog 6 #[.agg (qcells x A la.length c), .agg (qcells y B lb.length d), .slice Am m.length cm] w fun e w' => e = .returned (.bool true) ∧ Below w.heap.size w w' := by
  obtain ⟨i, f, t, cp, s⟩ := x
  obtain ⟨i2, f2, t2, cp2, s2⟩ := y
  cases h1 : greatQ la with
  | true => exact blind1 i f t cp s i2 f2 t2 cp2 s2 A B la.length c lb.length d la lb rfl rfl hLa hLb Am m.length cm h1 w ha hb
  | false =>
    cases h2 : greatQ lb with
    | true => exact blind2 i f t cp s i2 f2 t2 cp2 s2 A B la.length c lb.length d la lb rfl rfl hLa hLb Am m.length cm h1 h2 w ha hb
    | false =>
      by_cases h0 : (100 : Int) < (m.length : Int)
      · exact blind3 i f t cp s i2 f2 t2 cp2 s2 A B la.length c lb.length d la lb rfl rfl hLa hLb Am m.length cm h1 h2 h0 w ha hb
      · cases h3 : mayQ ⟨i, f, t, cp, s⟩ la with
        | false => exact blind4 i f t cp s i2 f2 t2 cp2 s2 A B la.length c lb.length d la lb rfl rfl hLa hLb Am m.length cm h1 h2 h3 (by omega) w ha hb
        | true =>
          cases h4 : mayQ ⟨i, f, t, cp, s⟩ lb with
          | false => exact blind5 i f t cp s i2 f2 t2 cp2 s2 A B la.length c lb.length d la lb rfl rfl hLa hLb Am m.length cm h1 h2 h3 h4 (by omega) w ha hb
          | true =>
            by_cases h5 : s < (m.length : Int)
            · exact blind_long i f t cp s i2 f2 t2 cp2 s2 A B la.length c lb.length d la lb rfl rfl hLa hLb hnc hkd hA0 hB0 m Am m.length cm rfl hmA hmc h1 h2 h3 h4 (by omega) h5 w ha hb hm
            · exact blind_ok i f t cp s i2 f2 t2 cp2 s2 A B la.length c lb.length d la lb rfl rfl hLa hLb hnc hkd hA0 hB0 m Am m.length cm rfl hmA hmc h1 h2 h3 h4 (by omega) (by omega) w ha hb hm
end Go.Proofs.Ytlmecndldclnnaa.chan
