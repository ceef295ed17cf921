/- The law ChannelTells: whether channels and queues may be, and whether two are the same, is as the document says; no condition. -/
import Derived.Test.YtlmecndldclnnaaRows
import Derived.Test.YtlmecndldclnnaaChF
import Derived.Test.YtlmecndldclnnaaChG
import Derived.Test.YtlmecndldclnnaaChH
import Derived.Test.YtlmecndldclnnaaChJ
import Derived.Test.YtlmecndldclnnaaChS
import Derived.Deep.RegionHeld3
import Derived.Lib.SmallJoins
namespace Go.Proofs.Ytlmecndldclnnaa.chan
open Go Go.ChangeShapes Go.WideShapes Go.ChangeAt Go.RowKit Go.Proofs.Ytlmecndldclnnaa.rows
set_option maxHeartbeats 2000000 in
theorem tells1 (i f t cp s i2 f2 t2 cp2 s2 : Int) (A B : Option Addr) (n c k d : Nat) (la lb : List Msg) (hla : la.length = n) (hlb : lb.length = k) (hLa : ∀ l ∈ la, l.length ≤ 140737488355328) (hLb : ∀ l ∈ lb, l.length ≤ 140737488355328) (Al : Option Addr) (ln cl : Nat) (h1 : greatQ la = true) (w : World) (ha : Rms w A la) (hb : Rms w B lb) : Calls Try.prog 8 #[.slice Al ln cl, .agg #[.int .i64 i, .int .i64 f, .int .i64 t, .int .i64 cp, .int .i64 s, .slice (A) n c], .agg #[.int .i64 i2, .int .i64 f2, .int .i64 t2, .int .i64 cp2, .int .i64 s2, .slice (B) k d]] w fun e w' => e = .returned (.bool true) ∧ Below w.heap.size w w' := by
  have _ := hlb; have _ := hLb; have _ := hb
  have P0 := Lib.hid (blk_alloc (blk_new w #[.int .i64 i, .int .i64 f, .int .i64 t, .int .i64 cp, .int .i64 s, .slice (A) n c] 26) (.cells #[.int .i64 i2, .int .i64 f2, .int .i64 t2, .int .i64 cp2, .int .i64 s2, .slice (B) k d] 26))
  have Q0 := Lib.hid (show ((w.alloc (.cells #[.int .i64 i, .int .i64 f, .int .i64 t, .int .i64 cp, .int .i64 s, .slice (A) n c] 26)).alloc (.cells #[.int .i64 i2, .int .i64 f2, .int .i64 t2, .int .i64 cp2, .int .i64 s2, .slice (B) k d] 26)).heap[w.heap.size + 1]? = some (.cells #[.int .i64 i2, .int .i64 f2, .int .i64 t2, .int .i64 cp2, .int .i64 s2, .slice (B) k d] 26 (0, 0)) by have := blk_new (w.alloc (.cells #[.int .i64 i, .int .i64 f, .int .i64 t, .int .i64 cp, .int .i64 s, .slice (A) n c] 26)) #[.int .i64 i2, .int .i64 f2, .int .i64 t2, .int .i64 cp2, .int .i64 s2, .slice (B) k d] 26; simpa using this)
  have hX := Lib.hid (((Below.refl w.heap.size w).alloc (Nat.le_refl _) (.cells #[.int .i64 i, .int .i64 f, .int .i64 t, .int .i64 cp, .int .i64 s, .slice (A) n c] 26)).alloc (by simp) (.cells #[.int .i64 i2, .int .i64 f2, .int .i64 t2, .int .i64 cp2, .int .i64 s2, .slice (B) k d] 26))
  have hsz : ((w.alloc (.cells #[.int .i64 i, .int .i64 f, .int .i64 t, .int .i64 cp, .int .i64 s, .slice (A) n c] 26)).alloc (.cells #[.int .i64 i2, .int .i64 f2, .int .i64 t2, .int .i64 cp2, .int .i64 s2, .slice (B) k d] 26)).heap.size = w.heap.size + 2 := by simp
  have T1 : Hid (∀ w', Below ((w.alloc (.cells #[.int .i64 i, .int .i64 f, .int .i64 t, .int .i64 cp, .int .i64 s, .slice (A) n c] 26)).alloc (.cells #[.int .i64 i2, .int .i64 f2, .int .i64 t2, .int .i64 cp2, .int .i64 s2, .slice (B) k d] 26)).heap.size ((w.alloc (.cells #[.int .i64 i, .int .i64 f, .int .i64 t, .int .i64 cp, .int .i64 s, .slice (A) n c] 26)).alloc (.cells #[.int .i64 i2, .int .i64 f2, .int .i64 t2, .int .i64 cp2, .int .i64 s2, .slice (B) k d] 26)) w' → Calls Try.prog 9 #[.agg #[.int .i64 i, .int .i64 f, .int .i64 t, .int .i64 cp, .int .i64 s, .slice (A) n c]] w' fun e w'' => e = .returned (.bool true) ∧ Below w'.heap.size w' w'') := Lib.hid (fun w' hh => by
    have T := great ⟨i, f, t, cp, s⟩ A c la hLa w' ((ha.below hX.out).below hh)
    rw [hla, h1] at T; exact T)
  clear ha hb hLa hLb hla hlb h1
  go_enter Try.func8, Try.ntmps8
  go_wp2_with fail
  refine (T1.out _ (Below.refl _ _)).mono ?_
  rintro e w1 ⟨rfl, b1_⟩
  have D1 := Lib.hid (b1_.mono (Nat.le_refl _)); clear b1_
  have a0 : w1.cell? ⟨w.heap.size, 0, none⟩ = some (.int .i64 i) := blk_cell (blk_below P0.out D1.out (by omega)) 0
  have a1 : w1.cell? ⟨w.heap.size, 1, none⟩ = some (.int .i64 f) := blk_cell (blk_below P0.out D1.out (by omega)) 1
  have a2 : w1.cell? ⟨w.heap.size, 2, none⟩ = some (.int .i64 t) := blk_cell (blk_below P0.out D1.out (by omega)) 2
  have a3 : w1.cell? ⟨w.heap.size, 3, none⟩ = some (.int .i64 cp) := blk_cell (blk_below P0.out D1.out (by omega)) 3
  have a4 : w1.cell? ⟨w.heap.size, 4, none⟩ = some (.int .i64 s) := blk_cell (blk_below P0.out D1.out (by omega)) 4
  have a5 : w1.cell? ⟨w.heap.size, 5, none⟩ = some (.slice A n c) := blk_cell (blk_below P0.out D1.out (by omega)) 5
  have b0 : w1.cell? ⟨w.heap.size + 1, 0, none⟩ = some (.int .i64 i2) := blk_cell (blk_below Q0.out D1.out (by omega)) 0
  have b1 : w1.cell? ⟨w.heap.size + 1, 1, none⟩ = some (.int .i64 f2) := blk_cell (blk_below Q0.out D1.out (by omega)) 1
  have b2 : w1.cell? ⟨w.heap.size + 1, 2, none⟩ = some (.int .i64 t2) := blk_cell (blk_below Q0.out D1.out (by omega)) 2
  have b3 : w1.cell? ⟨w.heap.size + 1, 3, none⟩ = some (.int .i64 cp2) := blk_cell (blk_below Q0.out D1.out (by omega)) 3
  have b4 : w1.cell? ⟨w.heap.size + 1, 4, none⟩ = some (.int .i64 s2) := blk_cell (blk_below Q0.out D1.out (by omega)) 4
  have b5 : w1.cell? ⟨w.heap.size + 1, 5, none⟩ = some (.slice B k d) := blk_cell (blk_below Q0.out D1.out (by omega)) 5
  go_wp2_with fail
  go_ret
  exact ⟨rfl, hX.out.trans (D1.out.mono hX.out.size)⟩
set_option maxHeartbeats 2000000 in
theorem tells2 (i f t cp s i2 f2 t2 cp2 s2 : Int) (A B : Option Addr) (n c k d : Nat) (la lb : List Msg) (hla : la.length = n) (hlb : lb.length = k) (hLa : ∀ l ∈ la, l.length ≤ 140737488355328) (hLb : ∀ l ∈ lb, l.length ≤ 140737488355328) (Al : Option Addr) (ln cl : Nat) (h1 : greatQ la = false) (h2 : greatQ lb = true) (w : World) (ha : Rms w A la) (hb : Rms w B lb) : Calls Try.prog 8 #[.slice Al ln cl, .agg #[.int .i64 i, .int .i64 f, .int .i64 t, .int .i64 cp, .int .i64 s, .slice (A) n c], .agg #[.int .i64 i2, .int .i64 f2, .int .i64 t2, .int .i64 cp2, .int .i64 s2, .slice (B) k d]] w fun e w' => e = .returned (.bool true) ∧ Below w.heap.size w w' := by
  have P0 := Lib.hid (blk_alloc (blk_new w #[.int .i64 i, .int .i64 f, .int .i64 t, .int .i64 cp, .int .i64 s, .slice (A) n c] 26) (.cells #[.int .i64 i2, .int .i64 f2, .int .i64 t2, .int .i64 cp2, .int .i64 s2, .slice (B) k d] 26))
  have Q0 := Lib.hid (show ((w.alloc (.cells #[.int .i64 i, .int .i64 f, .int .i64 t, .int .i64 cp, .int .i64 s, .slice (A) n c] 26)).alloc (.cells #[.int .i64 i2, .int .i64 f2, .int .i64 t2, .int .i64 cp2, .int .i64 s2, .slice (B) k d] 26)).heap[w.heap.size + 1]? = some (.cells #[.int .i64 i2, .int .i64 f2, .int .i64 t2, .int .i64 cp2, .int .i64 s2, .slice (B) k d] 26 (0, 0)) by have := blk_new (w.alloc (.cells #[.int .i64 i, .int .i64 f, .int .i64 t, .int .i64 cp, .int .i64 s, .slice (A) n c] 26)) #[.int .i64 i2, .int .i64 f2, .int .i64 t2, .int .i64 cp2, .int .i64 s2, .slice (B) k d] 26; simpa using this)
  have hX := Lib.hid (((Below.refl w.heap.size w).alloc (Nat.le_refl _) (.cells #[.int .i64 i, .int .i64 f, .int .i64 t, .int .i64 cp, .int .i64 s, .slice (A) n c] 26)).alloc (by simp) (.cells #[.int .i64 i2, .int .i64 f2, .int .i64 t2, .int .i64 cp2, .int .i64 s2, .slice (B) k d] 26))
  have hsz : ((w.alloc (.cells #[.int .i64 i, .int .i64 f, .int .i64 t, .int .i64 cp, .int .i64 s, .slice (A) n c] 26)).alloc (.cells #[.int .i64 i2, .int .i64 f2, .int .i64 t2, .int .i64 cp2, .int .i64 s2, .slice (B) k d] 26)).heap.size = w.heap.size + 2 := by simp
  have T1 : Hid (∀ w', Below ((w.alloc (.cells #[.int .i64 i, .int .i64 f, .int .i64 t, .int .i64 cp, .int .i64 s, .slice (A) n c] 26)).alloc (.cells #[.int .i64 i2, .int .i64 f2, .int .i64 t2, .int .i64 cp2, .int .i64 s2, .slice (B) k d] 26)).heap.size ((w.alloc (.cells #[.int .i64 i, .int .i64 f, .int .i64 t, .int .i64 cp, .int .i64 s, .slice (A) n c] 26)).alloc (.cells #[.int .i64 i2, .int .i64 f2, .int .i64 t2, .int .i64 cp2, .int .i64 s2, .slice (B) k d] 26)) w' → Calls Try.prog 9 #[.agg #[.int .i64 i, .int .i64 f, .int .i64 t, .int .i64 cp, .int .i64 s, .slice (A) n c]] w' fun e w'' => e = .returned (.bool false) ∧ Below w'.heap.size w' w'') := Lib.hid (fun w' hh => by
    have T := great ⟨i, f, t, cp, s⟩ A c la hLa w' ((ha.below hX.out).below hh)
    rw [hla, h1] at T; exact T)
  have T2 : Hid (∀ w', Below ((w.alloc (.cells #[.int .i64 i, .int .i64 f, .int .i64 t, .int .i64 cp, .int .i64 s, .slice (A) n c] 26)).alloc (.cells #[.int .i64 i2, .int .i64 f2, .int .i64 t2, .int .i64 cp2, .int .i64 s2, .slice (B) k d] 26)).heap.size ((w.alloc (.cells #[.int .i64 i, .int .i64 f, .int .i64 t, .int .i64 cp, .int .i64 s, .slice (A) n c] 26)).alloc (.cells #[.int .i64 i2, .int .i64 f2, .int .i64 t2, .int .i64 cp2, .int .i64 s2, .slice (B) k d] 26)) w' → Calls Try.prog 9 #[.agg #[.int .i64 i2, .int .i64 f2, .int .i64 t2, .int .i64 cp2, .int .i64 s2, .slice (B) k d]] w' fun e w'' => e = .returned (.bool true) ∧ Below w'.heap.size w' w'') := Lib.hid (fun w' hh => by
    have T := great ⟨i2, f2, t2, cp2, s2⟩ B d lb hLb w' ((hb.below hX.out).below hh)
    rw [hlb, h2] at T; exact T)
  clear ha hb hLa hLb hla hlb h1 h2
  go_enter Try.func8, Try.ntmps8
  go_wp2_with fail
  refine (T1.out _ (Below.refl _ _)).mono ?_
  rintro e w1 ⟨rfl, b1_⟩
  have D1 := Lib.hid (b1_.mono (Nat.le_refl _)); clear b1_
  have a0 : w1.cell? ⟨w.heap.size, 0, none⟩ = some (.int .i64 i) := blk_cell (blk_below P0.out D1.out (by omega)) 0
  have a1 : w1.cell? ⟨w.heap.size, 1, none⟩ = some (.int .i64 f) := blk_cell (blk_below P0.out D1.out (by omega)) 1
  have a2 : w1.cell? ⟨w.heap.size, 2, none⟩ = some (.int .i64 t) := blk_cell (blk_below P0.out D1.out (by omega)) 2
  have a3 : w1.cell? ⟨w.heap.size, 3, none⟩ = some (.int .i64 cp) := blk_cell (blk_below P0.out D1.out (by omega)) 3
  have a4 : w1.cell? ⟨w.heap.size, 4, none⟩ = some (.int .i64 s) := blk_cell (blk_below P0.out D1.out (by omega)) 4
  have a5 : w1.cell? ⟨w.heap.size, 5, none⟩ = some (.slice A n c) := blk_cell (blk_below P0.out D1.out (by omega)) 5
  have b0 : w1.cell? ⟨w.heap.size + 1, 0, none⟩ = some (.int .i64 i2) := blk_cell (blk_below Q0.out D1.out (by omega)) 0
  have b1 : w1.cell? ⟨w.heap.size + 1, 1, none⟩ = some (.int .i64 f2) := blk_cell (blk_below Q0.out D1.out (by omega)) 1
  have b2 : w1.cell? ⟨w.heap.size + 1, 2, none⟩ = some (.int .i64 t2) := blk_cell (blk_below Q0.out D1.out (by omega)) 2
  have b3 : w1.cell? ⟨w.heap.size + 1, 3, none⟩ = some (.int .i64 cp2) := blk_cell (blk_below Q0.out D1.out (by omega)) 3
  have b4 : w1.cell? ⟨w.heap.size + 1, 4, none⟩ = some (.int .i64 s2) := blk_cell (blk_below Q0.out D1.out (by omega)) 4
  have b5 : w1.cell? ⟨w.heap.size + 1, 5, none⟩ = some (.slice B k d) := blk_cell (blk_below Q0.out D1.out (by omega)) 5
  go_wp2_with fail
  refine (T2.out _ D1.out).mono ?_
  rintro e w2 ⟨rfl, b2_⟩
  have D2 := Lib.hid (D1.out.trans (b2_.mono D1.out.size)); clear b2_
  clear a0 b0 a1 b1 a2 b2 a3 b3 a4 b4 a5 b5
  have a0 : w2.cell? ⟨w.heap.size, 0, none⟩ = some (.int .i64 i) := blk_cell (blk_below P0.out D2.out (by omega)) 0
  have a1 : w2.cell? ⟨w.heap.size, 1, none⟩ = some (.int .i64 f) := blk_cell (blk_below P0.out D2.out (by omega)) 1
  have a2 : w2.cell? ⟨w.heap.size, 2, none⟩ = some (.int .i64 t) := blk_cell (blk_below P0.out D2.out (by omega)) 2
  have a3 : w2.cell? ⟨w.heap.size, 3, none⟩ = some (.int .i64 cp) := blk_cell (blk_below P0.out D2.out (by omega)) 3
  have a4 : w2.cell? ⟨w.heap.size, 4, none⟩ = some (.int .i64 s) := blk_cell (blk_below P0.out D2.out (by omega)) 4
  have a5 : w2.cell? ⟨w.heap.size, 5, none⟩ = some (.slice A n c) := blk_cell (blk_below P0.out D2.out (by omega)) 5
  have b0 : w2.cell? ⟨w.heap.size + 1, 0, none⟩ = some (.int .i64 i2) := blk_cell (blk_below Q0.out D2.out (by omega)) 0
  have b1 : w2.cell? ⟨w.heap.size + 1, 1, none⟩ = some (.int .i64 f2) := blk_cell (blk_below Q0.out D2.out (by omega)) 1
  have b2 : w2.cell? ⟨w.heap.size + 1, 2, none⟩ = some (.int .i64 t2) := blk_cell (blk_below Q0.out D2.out (by omega)) 2
  have b3 : w2.cell? ⟨w.heap.size + 1, 3, none⟩ = some (.int .i64 cp2) := blk_cell (blk_below Q0.out D2.out (by omega)) 3
  have b4 : w2.cell? ⟨w.heap.size + 1, 4, none⟩ = some (.int .i64 s2) := blk_cell (blk_below Q0.out D2.out (by omega)) 4
  have b5 : w2.cell? ⟨w.heap.size + 1, 5, none⟩ = some (.slice B k d) := blk_cell (blk_below Q0.out D2.out (by omega)) 5
  go_wp2_with fail
  go_ret
  exact ⟨rfl, hX.out.trans (D2.out.mono hX.out.size)⟩
set_option maxHeartbeats 2000000 in
theorem tells3 (i f t cp s i2 f2 t2 cp2 s2 : Int) (A B : Option Addr) (n c k d : Nat) (la lb : List Msg) (hla : la.length = n) (hlb : lb.length = k) (hLa : ∀ l ∈ la, l.length ≤ 140737488355328) (hLb : ∀ l ∈ lb, l.length ≤ 140737488355328) (Al : Option Addr) (ln cl : Nat) (h1 : greatQ la = false) (h2 : greatQ lb = false) (h0 : (20 : Int) < (ln : Int)) (w : World) (ha : Rms w A la) (hb : Rms w B lb) : Calls Try.prog 8 #[.slice Al ln cl, .agg #[.int .i64 i, .int .i64 f, .int .i64 t, .int .i64 cp, .int .i64 s, .slice (A) n c], .agg #[.int .i64 i2, .int .i64 f2, .int .i64 t2, .int .i64 cp2, .int .i64 s2, .slice (B) k d]] w fun e w' => e = .returned (.bool true) ∧ Below w.heap.size w w' := by
  have P0 := Lib.hid (blk_alloc (blk_new w #[.int .i64 i, .int .i64 f, .int .i64 t, .int .i64 cp, .int .i64 s, .slice (A) n c] 26) (.cells #[.int .i64 i2, .int .i64 f2, .int .i64 t2, .int .i64 cp2, .int .i64 s2, .slice (B) k d] 26))
  have Q0 := Lib.hid (show ((w.alloc (.cells #[.int .i64 i, .int .i64 f, .int .i64 t, .int .i64 cp, .int .i64 s, .slice (A) n c] 26)).alloc (.cells #[.int .i64 i2, .int .i64 f2, .int .i64 t2, .int .i64 cp2, .int .i64 s2, .slice (B) k d] 26)).heap[w.heap.size + 1]? = some (.cells #[.int .i64 i2, .int .i64 f2, .int .i64 t2, .int .i64 cp2, .int .i64 s2, .slice (B) k d] 26 (0, 0)) by have := blk_new (w.alloc (.cells #[.int .i64 i, .int .i64 f, .int .i64 t, .int .i64 cp, .int .i64 s, .slice (A) n c] 26)) #[.int .i64 i2, .int .i64 f2, .int .i64 t2, .int .i64 cp2, .int .i64 s2, .slice (B) k d] 26; simpa using this)
  have hX := Lib.hid (((Below.refl w.heap.size w).alloc (Nat.le_refl _) (.cells #[.int .i64 i, .int .i64 f, .int .i64 t, .int .i64 cp, .int .i64 s, .slice (A) n c] 26)).alloc (by simp) (.cells #[.int .i64 i2, .int .i64 f2, .int .i64 t2, .int .i64 cp2, .int .i64 s2, .slice (B) k d] 26))
  have hsz : ((w.alloc (.cells #[.int .i64 i, .int .i64 f, .int .i64 t, .int .i64 cp, .int .i64 s, .slice (A) n c] 26)).alloc (.cells #[.int .i64 i2, .int .i64 f2, .int .i64 t2, .int .i64 cp2, .int .i64 s2, .slice (B) k d] 26)).heap.size = w.heap.size + 2 := by simp
  have T1 : Hid (∀ w', Below ((w.alloc (.cells #[.int .i64 i, .int .i64 f, .int .i64 t, .int .i64 cp, .int .i64 s, .slice (A) n c] 26)).alloc (.cells #[.int .i64 i2, .int .i64 f2, .int .i64 t2, .int .i64 cp2, .int .i64 s2, .slice (B) k d] 26)).heap.size ((w.alloc (.cells #[.int .i64 i, .int .i64 f, .int .i64 t, .int .i64 cp, .int .i64 s, .slice (A) n c] 26)).alloc (.cells #[.int .i64 i2, .int .i64 f2, .int .i64 t2, .int .i64 cp2, .int .i64 s2, .slice (B) k d] 26)) w' → Calls Try.prog 9 #[.agg #[.int .i64 i, .int .i64 f, .int .i64 t, .int .i64 cp, .int .i64 s, .slice (A) n c]] w' fun e w'' => e = .returned (.bool false) ∧ Below w'.heap.size w' w'') := Lib.hid (fun w' hh => by
    have T := great ⟨i, f, t, cp, s⟩ A c la hLa w' ((ha.below hX.out).below hh)
    rw [hla, h1] at T; exact T)
  have T2 : Hid (∀ w', Below ((w.alloc (.cells #[.int .i64 i, .int .i64 f, .int .i64 t, .int .i64 cp, .int .i64 s, .slice (A) n c] 26)).alloc (.cells #[.int .i64 i2, .int .i64 f2, .int .i64 t2, .int .i64 cp2, .int .i64 s2, .slice (B) k d] 26)).heap.size ((w.alloc (.cells #[.int .i64 i, .int .i64 f, .int .i64 t, .int .i64 cp, .int .i64 s, .slice (A) n c] 26)).alloc (.cells #[.int .i64 i2, .int .i64 f2, .int .i64 t2, .int .i64 cp2, .int .i64 s2, .slice (B) k d] 26)) w' → Calls Try.prog 9 #[.agg #[.int .i64 i2, .int .i64 f2, .int .i64 t2, .int .i64 cp2, .int .i64 s2, .slice (B) k d]] w' fun e w'' => e = .returned (.bool false) ∧ Below w'.heap.size w' w'') := Lib.hid (fun w' hh => by
    have T := great ⟨i2, f2, t2, cp2, s2⟩ B d lb hLb w' ((hb.below hX.out).below hh)
    rw [hlb, h2] at T; exact T)
  clear ha hb hLa hLb hla hlb h1 h2
  go_enter Try.func8, Try.ntmps8
  go_wp2_with fail
  refine (T1.out _ (Below.refl _ _)).mono ?_
  rintro e w1 ⟨rfl, b1_⟩
  have D1 := Lib.hid (b1_.mono (Nat.le_refl _)); clear b1_
  have a0 : w1.cell? ⟨w.heap.size, 0, none⟩ = some (.int .i64 i) := blk_cell (blk_below P0.out D1.out (by omega)) 0
  have a1 : w1.cell? ⟨w.heap.size, 1, none⟩ = some (.int .i64 f) := blk_cell (blk_below P0.out D1.out (by omega)) 1
  have a2 : w1.cell? ⟨w.heap.size, 2, none⟩ = some (.int .i64 t) := blk_cell (blk_below P0.out D1.out (by omega)) 2
  have a3 : w1.cell? ⟨w.heap.size, 3, none⟩ = some (.int .i64 cp) := blk_cell (blk_below P0.out D1.out (by omega)) 3
  have a4 : w1.cell? ⟨w.heap.size, 4, none⟩ = some (.int .i64 s) := blk_cell (blk_below P0.out D1.out (by omega)) 4
  have a5 : w1.cell? ⟨w.heap.size, 5, none⟩ = some (.slice A n c) := blk_cell (blk_below P0.out D1.out (by omega)) 5
  have b0 : w1.cell? ⟨w.heap.size + 1, 0, none⟩ = some (.int .i64 i2) := blk_cell (blk_below Q0.out D1.out (by omega)) 0
  have b1 : w1.cell? ⟨w.heap.size + 1, 1, none⟩ = some (.int .i64 f2) := blk_cell (blk_below Q0.out D1.out (by omega)) 1
  have b2 : w1.cell? ⟨w.heap.size + 1, 2, none⟩ = some (.int .i64 t2) := blk_cell (blk_below Q0.out D1.out (by omega)) 2
  have b3 : w1.cell? ⟨w.heap.size + 1, 3, none⟩ = some (.int .i64 cp2) := blk_cell (blk_below Q0.out D1.out (by omega)) 3
  have b4 : w1.cell? ⟨w.heap.size + 1, 4, none⟩ = some (.int .i64 s2) := blk_cell (blk_below Q0.out D1.out (by omega)) 4
  have b5 : w1.cell? ⟨w.heap.size + 1, 5, none⟩ = some (.slice B k d) := blk_cell (blk_below Q0.out D1.out (by omega)) 5
  go_wp2_with fail
  refine (T2.out _ D1.out).mono ?_
  rintro e w2 ⟨rfl, b2_⟩
  have D2 := Lib.hid (D1.out.trans (b2_.mono D1.out.size)); clear b2_
  clear a0 b0 a1 b1 a2 b2 a3 b3 a4 b4 a5 b5
  have a0 : w2.cell? ⟨w.heap.size, 0, none⟩ = some (.int .i64 i) := blk_cell (blk_below P0.out D2.out (by omega)) 0
  have a1 : w2.cell? ⟨w.heap.size, 1, none⟩ = some (.int .i64 f) := blk_cell (blk_below P0.out D2.out (by omega)) 1
  have a2 : w2.cell? ⟨w.heap.size, 2, none⟩ = some (.int .i64 t) := blk_cell (blk_below P0.out D2.out (by omega)) 2
  have a3 : w2.cell? ⟨w.heap.size, 3, none⟩ = some (.int .i64 cp) := blk_cell (blk_below P0.out D2.out (by omega)) 3
  have a4 : w2.cell? ⟨w.heap.size, 4, none⟩ = some (.int .i64 s) := blk_cell (blk_below P0.out D2.out (by omega)) 4
  have a5 : w2.cell? ⟨w.heap.size, 5, none⟩ = some (.slice A n c) := blk_cell (blk_below P0.out D2.out (by omega)) 5
  have b0 : w2.cell? ⟨w.heap.size + 1, 0, none⟩ = some (.int .i64 i2) := blk_cell (blk_below Q0.out D2.out (by omega)) 0
  have b1 : w2.cell? ⟨w.heap.size + 1, 1, none⟩ = some (.int .i64 f2) := blk_cell (blk_below Q0.out D2.out (by omega)) 1
  have b2 : w2.cell? ⟨w.heap.size + 1, 2, none⟩ = some (.int .i64 t2) := blk_cell (blk_below Q0.out D2.out (by omega)) 2
  have b3 : w2.cell? ⟨w.heap.size + 1, 3, none⟩ = some (.int .i64 cp2) := blk_cell (blk_below Q0.out D2.out (by omega)) 3
  have b4 : w2.cell? ⟨w.heap.size + 1, 4, none⟩ = some (.int .i64 s2) := blk_cell (blk_below Q0.out D2.out (by omega)) 4
  have b5 : w2.cell? ⟨w.heap.size + 1, 5, none⟩ = some (.slice B k d) := blk_cell (blk_below Q0.out D2.out (by omega)) 5
  go_wp2_with fail
  go_ret
  exact ⟨rfl, hX.out.trans (D2.out.mono hX.out.size)⟩
set_option maxRecDepth 100000 in
set_option maxHeartbeats 8000000 in
theorem tells_may (i f t cp s i2 f2 t2 cp2 s2 : Int) (A B : Option Addr) (n c k d : Nat) (la lb : List Msg) (hla : la.length = n) (hlb : lb.length = k) (hLa : ∀ l ∈ la, l.length ≤ 140737488355328) (hLb : ∀ l ∈ lb, l.length ≤ 140737488355328) (l : List Ch) (Al : Option Addr) (ln cl : Nat) (hll : l.length = ln) (h1 : greatQ la = false) (h2 : greatQ lb = false) (h0 : (ln : Int) ≤ 20) (h3 : mayC ⟨i, f, t, cp, s⟩ = true) (w : World) (hl : Rd w Al (chCells l)) (ha : Rms w A la) (hb : Rms w B lb) : Calls Try.prog 8 #[.slice Al ln cl, .agg #[.int .i64 i, .int .i64 f, .int .i64 t, .int .i64 cp, .int .i64 s, .slice (A) n c], .agg #[.int .i64 i2, .int .i64 f2, .int .i64 t2, .int .i64 cp2, .int .i64 s2, .slice (B) k d]] w fun e w' => e = .returned (.bool true) ∧ Below w.heap.size w w' := by
  have P0 := Lib.hid (blk_alloc (blk_new w #[.int .i64 i, .int .i64 f, .int .i64 t, .int .i64 cp, .int .i64 s, .slice (A) n c] 26) (.cells #[.int .i64 i2, .int .i64 f2, .int .i64 t2, .int .i64 cp2, .int .i64 s2, .slice (B) k d] 26))
  have Q0 := Lib.hid (show ((w.alloc (.cells #[.int .i64 i, .int .i64 f, .int .i64 t, .int .i64 cp, .int .i64 s, .slice (A) n c] 26)).alloc (.cells #[.int .i64 i2, .int .i64 f2, .int .i64 t2, .int .i64 cp2, .int .i64 s2, .slice (B) k d] 26)).heap[w.heap.size + 1]? = some (.cells #[.int .i64 i2, .int .i64 f2, .int .i64 t2, .int .i64 cp2, .int .i64 s2, .slice (B) k d] 26 (0, 0)) by have := blk_new (w.alloc (.cells #[.int .i64 i, .int .i64 f, .int .i64 t, .int .i64 cp, .int .i64 s, .slice (A) n c] 26)) #[.int .i64 i2, .int .i64 f2, .int .i64 t2, .int .i64 cp2, .int .i64 s2, .slice (B) k d] 26; simpa using this)
  have hX := Lib.hid (((Below.refl w.heap.size w).alloc (Nat.le_refl _) (.cells #[.int .i64 i, .int .i64 f, .int .i64 t, .int .i64 cp, .int .i64 s, .slice (A) n c] 26)).alloc (by simp) (.cells #[.int .i64 i2, .int .i64 f2, .int .i64 t2, .int .i64 cp2, .int .i64 s2, .slice (B) k d] 26))
  have hsz : ((w.alloc (.cells #[.int .i64 i, .int .i64 f, .int .i64 t, .int .i64 cp, .int .i64 s, .slice (A) n c] 26)).alloc (.cells #[.int .i64 i2, .int .i64 f2, .int .i64 t2, .int .i64 cp2, .int .i64 s2, .slice (B) k d] 26)).heap.size = w.heap.size + 2 := by simp
  have T1 : Hid (∀ w', Below ((w.alloc (.cells #[.int .i64 i, .int .i64 f, .int .i64 t, .int .i64 cp, .int .i64 s, .slice (A) n c] 26)).alloc (.cells #[.int .i64 i2, .int .i64 f2, .int .i64 t2, .int .i64 cp2, .int .i64 s2, .slice (B) k d] 26)).heap.size ((w.alloc (.cells #[.int .i64 i, .int .i64 f, .int .i64 t, .int .i64 cp, .int .i64 s, .slice (A) n c] 26)).alloc (.cells #[.int .i64 i2, .int .i64 f2, .int .i64 t2, .int .i64 cp2, .int .i64 s2, .slice (B) k d] 26)) w' → Calls Try.prog 9 #[.agg #[.int .i64 i, .int .i64 f, .int .i64 t, .int .i64 cp, .int .i64 s, .slice (A) n c]] w' fun e w'' => e = .returned (.bool false) ∧ Below w'.heap.size w' w'') := Lib.hid (fun w' hh => by
    have T := great ⟨i, f, t, cp, s⟩ A c la hLa w' ((ha.below hX.out).below hh)
    rw [hla, h1] at T; exact T)
  have T2 : Hid (∀ w', Below ((w.alloc (.cells #[.int .i64 i, .int .i64 f, .int .i64 t, .int .i64 cp, .int .i64 s, .slice (A) n c] 26)).alloc (.cells #[.int .i64 i2, .int .i64 f2, .int .i64 t2, .int .i64 cp2, .int .i64 s2, .slice (B) k d] 26)).heap.size ((w.alloc (.cells #[.int .i64 i, .int .i64 f, .int .i64 t, .int .i64 cp, .int .i64 s, .slice (A) n c] 26)).alloc (.cells #[.int .i64 i2, .int .i64 f2, .int .i64 t2, .int .i64 cp2, .int .i64 s2, .slice (B) k d] 26)) w' → Calls Try.prog 9 #[.agg #[.int .i64 i2, .int .i64 f2, .int .i64 t2, .int .i64 cp2, .int .i64 s2, .slice (B) k d]] w' fun e w'' => e = .returned (.bool false) ∧ Below w'.heap.size w' w'') := Lib.hid (fun w' hh => by
    have T := great ⟨i2, f2, t2, cp2, s2⟩ B d lb hLb w' ((hb.below hX.out).below hh)
    rw [hlb, h2] at T; exact T)
  have hgn := greatQ_no h1
  have hgm := greatQ_no h2
  have hml : ∀ l ∈ la, l.length ≤ 1000000 := fun l hl => by have := len_le hl; omega
  have TN := fun W => new_any ⟨i, f, t, cp, s⟩ W
  have TR := fun W => rmay ⟨i, f, t, cp, s⟩ W
  have TR2 := fun W => may ⟨i, f, t, cp, s⟩ W
  simp only [h3, Ch.cells, qcells, if_true] at TN TR TR2
  have HTN := Lib.hid TN; have HTR := Lib.hid TR
  have H0 := Lib.hid hX.out.size
  have RA := Lib.hid (ha.below hX.out); have RB := Lib.hid (hb.below hX.out); have RL := Lib.hid (hl.below hX.out)
  -- the contracts in a world that holds all that W holds
  obtain ⟨z0, hz0⟩ : ∃ z, AllIs l z := by
    by_cases h : ∃ x ∈ l, mayC x = false
    · exact ⟨2, Or.inl ⟨h, rfl⟩⟩
    · have hall : ∀ x ∈ l, mayC x = true := fun x hx => by
        cases hm : mayC x with
        | true => rfl
        | false => exact absurd ⟨x, hx, hm⟩ h
      by_cases h2 : ∃ k a b, l[k]? = some a ∧ l[k + 1]? = some b ∧ b.id ≤ a.id
      · exact ⟨100, Or.inr (Or.inl ⟨hall, h2, rfl⟩)⟩
      · exact ⟨0, Or.inr (Or.inr ⟨hall, fun k a b e1 e2 h3 => h2 ⟨k, a, b, e1, e2, h3⟩, rfl⟩)⟩
  have KA := fun W (hh : Below ((w.alloc (.cells #[.int .i64 i, .int .i64 f, .int .i64 t, .int .i64 cp, .int .i64 s, .slice (A) n c] 26)).alloc (.cells #[.int .i64 i2, .int .i64 f2, .int .i64 t2, .int .i64 cp2, .int .i64 s2, .slice (B) k d] 26)).heap.size ((w.alloc (.cells #[.int .i64 i, .int .i64 f, .int .i64 t, .int .i64 cp, .int .i64 s, .slice (A) n c] 26)).alloc (.cells #[.int .i64 i2, .int .i64 f2, .int .i64 t2, .int .i64 cp2, .int .i64 s2, .slice (B) k d] 26)) W) => (all l Al ln cl hll (by omega) W (RL.out.below hh)).mono (R' := fun e w' => e = .returned (.int .i64 z0) ∧ Below ((w.alloc (.cells #[.int .i64 i, .int .i64 f, .int .i64 t, .int .i64 cp, .int .i64 s, .slice (A) n c] 26)).alloc (.cells #[.int .i64 i2, .int .i64 f2, .int .i64 t2, .int .i64 cp2, .int .i64 s2, .slice (B) k d] 26)).heap.size ((w.alloc (.cells #[.int .i64 i, .int .i64 f, .int .i64 t, .int .i64 cp, .int .i64 s, .slice (A) n c] 26)).alloc (.cells #[.int .i64 i2, .int .i64 f2, .int .i64 t2, .int .i64 cp2, .int .i64 s2, .slice (B) k d] 26)) w') fun e w' ⟨z, he, hi, hb⟩ => ⟨by rw [he, AllIs.one hi hz0], hh.trans (hb.mono hh.size)⟩
  have KR := fun W (hh : Below ((w.alloc (.cells #[.int .i64 i, .int .i64 f, .int .i64 t, .int .i64 cp, .int .i64 s, .slice (A) n c] 26)).alloc (.cells #[.int .i64 i2, .int .i64 f2, .int .i64 t2, .int .i64 cp2, .int .i64 s2, .slice (B) k d] 26)).heap.size ((w.alloc (.cells #[.int .i64 i, .int .i64 f, .int .i64 t, .int .i64 cp, .int .i64 s, .slice (A) n c] 26)).alloc (.cells #[.int .i64 i2, .int .i64 f2, .int .i64 t2, .int .i64 cp2, .int .i64 s2, .slice (B) k d] 26)) W) => (rall l Al ln cl hll (by omega) W (RL.out.below hh)).mono (R' := fun e w' => e = .returned (.int .i64 z0) ∧ Below ((w.alloc (.cells #[.int .i64 i, .int .i64 f, .int .i64 t, .int .i64 cp, .int .i64 s, .slice (A) n c] 26)).alloc (.cells #[.int .i64 i2, .int .i64 f2, .int .i64 t2, .int .i64 cp2, .int .i64 s2, .slice (B) k d] 26)).heap.size ((w.alloc (.cells #[.int .i64 i, .int .i64 f, .int .i64 t, .int .i64 cp, .int .i64 s, .slice (A) n c] 26)).alloc (.cells #[.int .i64 i2, .int .i64 f2, .int .i64 t2, .int .i64 cp2, .int .i64 s2, .slice (B) k d] 26)) w') fun e w' ⟨z, he, hi, hb⟩ => ⟨by rw [he, AllIs.one hi hz0], hh.trans (hb.mono hh.size)⟩
  have KM := fun W (hh : Below ((w.alloc (.cells #[.int .i64 i, .int .i64 f, .int .i64 t, .int .i64 cp, .int .i64 s, .slice (A) n c] 26)).alloc (.cells #[.int .i64 i2, .int .i64 f2, .int .i64 t2, .int .i64 cp2, .int .i64 s2, .slice (B) k d] 26)).heap.size ((w.alloc (.cells #[.int .i64 i, .int .i64 f, .int .i64 t, .int .i64 cp, .int .i64 s, .slice (A) n c] 26)).alloc (.cells #[.int .i64 i2, .int .i64 f2, .int .i64 t2, .int .i64 cp2, .int .i64 s2, .slice (B) k d] 26)) W) => (TR2 W).mono (R' := fun e w' => e = .returned (.bool true) ∧ Below ((w.alloc (.cells #[.int .i64 i, .int .i64 f, .int .i64 t, .int .i64 cp, .int .i64 s, .slice (A) n c] 26)).alloc (.cells #[.int .i64 i2, .int .i64 f2, .int .i64 t2, .int .i64 cp2, .int .i64 s2, .slice (B) k d] 26)).heap.size ((w.alloc (.cells #[.int .i64 i, .int .i64 f, .int .i64 t, .int .i64 cp, .int .i64 s, .slice (A) n c] 26)).alloc (.cells #[.int .i64 i2, .int .i64 f2, .int .i64 t2, .int .i64 cp2, .int .i64 s2, .slice (B) k d] 26)) w') fun e w' ⟨he, hb⟩ => ⟨he, hh.trans (hb.mono hh.size)⟩
  have KQ := fun W (hh : Below ((w.alloc (.cells #[.int .i64 i, .int .i64 f, .int .i64 t, .int .i64 cp, .int .i64 s, .slice (A) n c] 26)).alloc (.cells #[.int .i64 i2, .int .i64 f2, .int .i64 t2, .int .i64 cp2, .int .i64 s2, .slice (B) k d] 26)).heap.size ((w.alloc (.cells #[.int .i64 i, .int .i64 f, .int .i64 t, .int .i64 cp, .int .i64 s, .slice (A) n c] 26)).alloc (.cells #[.int .i64 i2, .int .i64 f2, .int .i64 t2, .int .i64 cp2, .int .i64 s2, .slice (B) k d] 26)) W) => (mayQueue ⟨i, f, t, cp, s⟩ A c la (by omega) W (RA.out.below hh)).mono (R' := fun e w' => e = .returned (.bool (mayQ ⟨i, f, t, cp, s⟩ la)) ∧ Below ((w.alloc (.cells #[.int .i64 i, .int .i64 f, .int .i64 t, .int .i64 cp, .int .i64 s, .slice (A) n c] 26)).alloc (.cells #[.int .i64 i2, .int .i64 f2, .int .i64 t2, .int .i64 cp2, .int .i64 s2, .slice (B) k d] 26)).heap.size ((w.alloc (.cells #[.int .i64 i, .int .i64 f, .int .i64 t, .int .i64 cp, .int .i64 s, .slice (A) n c] 26)).alloc (.cells #[.int .i64 i2, .int .i64 f2, .int .i64 t2, .int .i64 cp2, .int .i64 s2, .slice (B) k d] 26)) w') fun e w' ⟨he, hb⟩ => ⟨he, hh.trans (hb.mono hh.size)⟩
  have KU := fun W (hh : Below ((w.alloc (.cells #[.int .i64 i, .int .i64 f, .int .i64 t, .int .i64 cp, .int .i64 s, .slice (A) n c] 26)).alloc (.cells #[.int .i64 i2, .int .i64 f2, .int .i64 t2, .int .i64 cp2, .int .i64 s2, .slice (B) k d] 26)).heap.size ((w.alloc (.cells #[.int .i64 i, .int .i64 f, .int .i64 t, .int .i64 cp, .int .i64 s, .slice (A) n c] 26)).alloc (.cells #[.int .i64 i2, .int .i64 f2, .int .i64 t2, .int .i64 cp2, .int .i64 s2, .slice (B) k d] 26)) W) => (rmayQueue ⟨i, f, t, cp, s⟩ A c la (by omega) W (RA.out.below hh)).mono (R' := fun e w' => e = .returned (.bool (mayQ ⟨i, f, t, cp, s⟩ la)) ∧ Below ((w.alloc (.cells #[.int .i64 i, .int .i64 f, .int .i64 t, .int .i64 cp, .int .i64 s, .slice (A) n c] 26)).alloc (.cells #[.int .i64 i2, .int .i64 f2, .int .i64 t2, .int .i64 cp2, .int .i64 s2, .slice (B) k d] 26)).heap.size ((w.alloc (.cells #[.int .i64 i, .int .i64 f, .int .i64 t, .int .i64 cp, .int .i64 s, .slice (A) n c] 26)).alloc (.cells #[.int .i64 i2, .int .i64 f2, .int .i64 t2, .int .i64 cp2, .int .i64 s2, .slice (B) k d] 26)) w') fun e w' ⟨he, hb⟩ => ⟨he, hh.trans (hb.mono hh.size)⟩
  have KS := fun W (hh : Below ((w.alloc (.cells #[.int .i64 i, .int .i64 f, .int .i64 t, .int .i64 cp, .int .i64 s, .slice (A) n c] 26)).alloc (.cells #[.int .i64 i2, .int .i64 f2, .int .i64 t2, .int .i64 cp2, .int .i64 s2, .slice (B) k d] 26)).heap.size ((w.alloc (.cells #[.int .i64 i, .int .i64 f, .int .i64 t, .int .i64 cp, .int .i64 s, .slice (A) n c] 26)).alloc (.cells #[.int .i64 i2, .int .i64 f2, .int .i64 t2, .int .i64 cp2, .int .i64 s2, .slice (B) k d] 26)) W) => (same ⟨i, f, t, cp, s⟩ ⟨i2, f2, t2, cp2, s2⟩ la lb A B c d (by omega) W (RA.out.below hh) (RB.out.below hh)).mono (R' := fun e w' => e = .returned (.bool (sameQ ⟨i, f, t, cp, s⟩ la ⟨i2, f2, t2, cp2, s2⟩ lb)) ∧ Below ((w.alloc (.cells #[.int .i64 i, .int .i64 f, .int .i64 t, .int .i64 cp, .int .i64 s, .slice (A) n c] 26)).alloc (.cells #[.int .i64 i2, .int .i64 f2, .int .i64 t2, .int .i64 cp2, .int .i64 s2, .slice (B) k d] 26)).heap.size ((w.alloc (.cells #[.int .i64 i, .int .i64 f, .int .i64 t, .int .i64 cp, .int .i64 s, .slice (A) n c] 26)).alloc (.cells #[.int .i64 i2, .int .i64 f2, .int .i64 t2, .int .i64 cp2, .int .i64 s2, .slice (B) k d] 26)) w') fun e w' ⟨he, hb⟩ => ⟨he, hh.trans (hb.mono hh.size)⟩
  have KT := fun W (hh : Below ((w.alloc (.cells #[.int .i64 i, .int .i64 f, .int .i64 t, .int .i64 cp, .int .i64 s, .slice (A) n c] 26)).alloc (.cells #[.int .i64 i2, .int .i64 f2, .int .i64 t2, .int .i64 cp2, .int .i64 s2, .slice (B) k d] 26)).heap.size ((w.alloc (.cells #[.int .i64 i, .int .i64 f, .int .i64 t, .int .i64 cp, .int .i64 s, .slice (A) n c] 26)).alloc (.cells #[.int .i64 i2, .int .i64 f2, .int .i64 t2, .int .i64 cp2, .int .i64 s2, .slice (B) k d] 26)) W) => (rsame ⟨i, f, t, cp, s⟩ ⟨i2, f2, t2, cp2, s2⟩ la lb A B c d (by omega) W (RA.out.below hh) (RB.out.below hh)).mono (R' := fun e w' => e = .returned (.bool (sameQ ⟨i, f, t, cp, s⟩ la ⟨i2, f2, t2, cp2, s2⟩ lb)) ∧ Below ((w.alloc (.cells #[.int .i64 i, .int .i64 f, .int .i64 t, .int .i64 cp, .int .i64 s, .slice (A) n c] 26)).alloc (.cells #[.int .i64 i2, .int .i64 f2, .int .i64 t2, .int .i64 cp2, .int .i64 s2, .slice (B) k d] 26)).heap.size ((w.alloc (.cells #[.int .i64 i, .int .i64 f, .int .i64 t, .int .i64 cp, .int .i64 s, .slice (A) n c] 26)).alloc (.cells #[.int .i64 i2, .int .i64 f2, .int .i64 t2, .int .i64 cp2, .int .i64 s2, .slice (B) k d] 26)) w') fun e w' ⟨he, hb⟩ => ⟨he, hh.trans (hb.mono hh.size)⟩
  have KC := fun W (hh : Below ((w.alloc (.cells #[.int .i64 i, .int .i64 f, .int .i64 t, .int .i64 cp, .int .i64 s, .slice (A) n c] 26)).alloc (.cells #[.int .i64 i2, .int .i64 f2, .int .i64 t2, .int .i64 cp2, .int .i64 s2, .slice (B) k d] 26)).heap.size ((w.alloc (.cells #[.int .i64 i, .int .i64 f, .int .i64 t, .int .i64 cp, .int .i64 s, .slice (A) n c] 26)).alloc (.cells #[.int .i64 i2, .int .i64 f2, .int .i64 t2, .int .i64 cp2, .int .i64 s2, .slice (B) k d] 26)) W) => (lcopied ⟨i, f, t, cp, s⟩ A c la (by omega) hml W (RA.out.below hh)).mono (R' := fun e w' => ∃ g c1, e = .returned (.agg (qcells ⟨i, f, t, cp, s⟩ (some ⟨g, 0, none⟩) la.length c1)) ∧ Rms w' (some ⟨g, 0, none⟩) la ∧ Below ((w.alloc (.cells #[.int .i64 i, .int .i64 f, .int .i64 t, .int .i64 cp, .int .i64 s, .slice (A) n c] 26)).alloc (.cells #[.int .i64 i2, .int .i64 f2, .int .i64 t2, .int .i64 cp2, .int .i64 s2, .slice (B) k d] 26)).heap.size ((w.alloc (.cells #[.int .i64 i, .int .i64 f, .int .i64 t, .int .i64 cp, .int .i64 s, .slice (A) n c] 26)).alloc (.cells #[.int .i64 i2, .int .i64 f2, .int .i64 t2, .int .i64 cp2, .int .i64 s2, .slice (B) k d] 26)) w') fun e w' ⟨g, c1, he, _, hro, hb⟩ => ⟨g, c1, he, hro.own2.rows, hh.trans (hb.mono hh.size)⟩
  have KE := fun g c1 W (hr : Rms W (some ⟨g, 0, none⟩) la) (hh : Below ((w.alloc (.cells #[.int .i64 i, .int .i64 f, .int .i64 t, .int .i64 cp, .int .i64 s, .slice (A) n c] 26)).alloc (.cells #[.int .i64 i2, .int .i64 f2, .int .i64 t2, .int .i64 cp2, .int .i64 s2, .slice (B) k d] 26)).heap.size ((w.alloc (.cells #[.int .i64 i, .int .i64 f, .int .i64 t, .int .i64 cp, .int .i64 s, .slice (A) n c] 26)).alloc (.cells #[.int .i64 i2, .int .i64 f2, .int .i64 t2, .int .i64 cp2, .int .i64 s2, .slice (B) k d] 26)) W) => (same ⟨i, f, t, cp, s⟩ ⟨i, f, t, cp, s⟩ la la A (some ⟨g, 0, none⟩) c c1 (by omega) W (RA.out.below hh) hr).mono (R' := fun e w' => e = .returned (.bool true) ∧ Below ((w.alloc (.cells #[.int .i64 i, .int .i64 f, .int .i64 t, .int .i64 cp, .int .i64 s, .slice (A) n c] 26)).alloc (.cells #[.int .i64 i2, .int .i64 f2, .int .i64 t2, .int .i64 cp2, .int .i64 s2, .slice (B) k d] 26)).heap.size ((w.alloc (.cells #[.int .i64 i, .int .i64 f, .int .i64 t, .int .i64 cp, .int .i64 s, .slice (A) n c] 26)).alloc (.cells #[.int .i64 i2, .int .i64 f2, .int .i64 t2, .int .i64 cp2, .int .i64 s2, .slice (B) k d] 26)) w') fun e w' ⟨he, hb⟩ => ⟨by rw [he]; simp [sameQ], hh.trans (hb.mono hh.size)⟩
  have KW := fun W (hh : Below ((w.alloc (.cells #[.int .i64 i, .int .i64 f, .int .i64 t, .int .i64 cp, .int .i64 s, .slice (A) n c] 26)).alloc (.cells #[.int .i64 i2, .int .i64 f2, .int .i64 t2, .int .i64 cp2, .int .i64 s2, .slice (B) k d] 26)).heap.size ((w.alloc (.cells #[.int .i64 i, .int .i64 f, .int .i64 t, .int .i64 cp, .int .i64 s, .slice (A) n c] 26)).alloc (.cells #[.int .i64 i2, .int .i64 f2, .int .i64 t2, .int .i64 cp2, .int .i64 s2, .slice (B) k d] 26)) W) => (awake W).mono (R' := fun e w' => e = .returned (.bool true) ∧ Below ((w.alloc (.cells #[.int .i64 i, .int .i64 f, .int .i64 t, .int .i64 cp, .int .i64 s, .slice (A) n c] 26)).alloc (.cells #[.int .i64 i2, .int .i64 f2, .int .i64 t2, .int .i64 cp2, .int .i64 s2, .slice (B) k d] 26)).heap.size ((w.alloc (.cells #[.int .i64 i, .int .i64 f, .int .i64 t, .int .i64 cp, .int .i64 s, .slice (A) n c] 26)).alloc (.cells #[.int .i64 i2, .int .i64 f2, .int .i64 t2, .int .i64 cp2, .int .i64 s2, .slice (B) k d] 26)) w') fun e w' ⟨he, hb⟩ => ⟨he, hh.trans (hb.mono hh.size)⟩
  obtain ⟨b1, hb1⟩ : ∃ b1, mayQ ⟨i, f, t, cp, s⟩ la = b1 := ⟨_, rfl⟩
  obtain ⟨b2, hb2⟩ : ∃ b2, sameQ ⟨i, f, t, cp, s⟩ la ⟨i2, f2, t2, cp2, s2⟩ lb = b2 := ⟨_, rfl⟩
  simp only [hla, hlb, qcells, hb1, hb2] at KQ KU KS KT KC KE
  have HKA := Lib.hid KA; have HKR := Lib.hid KR; have HKM := Lib.hid KM; have HKQ := Lib.hid KQ; have HKU := Lib.hid KU; have HKS := Lib.hid KS; have HKT := Lib.hid KT; have HKC := Lib.hid KC; have HKE := Lib.hid KE; have HKW := Lib.hid KW
  clear TN TR TR2 KA KR KM KQ KU KS KT KC KE KW hz0 hb1 hb2 hgn hgm hml hl hll
  clear ha hb hLa hLb hla hlb h1 h2 h3
  go_enter Try.func8, Try.ntmps8
  go_wp2_with fail
  refine (T1.out _ (Below.refl _ _)).mono ?_
  rintro e w1 ⟨rfl, b1_⟩
  have D1 := Lib.hid (b1_.mono (Nat.le_refl _)); clear b1_
  have a0 : w1.cell? ⟨w.heap.size, 0, none⟩ = some (.int .i64 i) := blk_cell (blk_below P0.out D1.out (by omega)) 0
  have a1 : w1.cell? ⟨w.heap.size, 1, none⟩ = some (.int .i64 f) := blk_cell (blk_below P0.out D1.out (by omega)) 1
  have a2 : w1.cell? ⟨w.heap.size, 2, none⟩ = some (.int .i64 t) := blk_cell (blk_below P0.out D1.out (by omega)) 2
  have a3 : w1.cell? ⟨w.heap.size, 3, none⟩ = some (.int .i64 cp) := blk_cell (blk_below P0.out D1.out (by omega)) 3
  have a4 : w1.cell? ⟨w.heap.size, 4, none⟩ = some (.int .i64 s) := blk_cell (blk_below P0.out D1.out (by omega)) 4
  have a5 : w1.cell? ⟨w.heap.size, 5, none⟩ = some (.slice A n c) := blk_cell (blk_below P0.out D1.out (by omega)) 5
  have b0 : w1.cell? ⟨w.heap.size + 1, 0, none⟩ = some (.int .i64 i2) := blk_cell (blk_below Q0.out D1.out (by omega)) 0
  have b1 : w1.cell? ⟨w.heap.size + 1, 1, none⟩ = some (.int .i64 f2) := blk_cell (blk_below Q0.out D1.out (by omega)) 1
  have b2 : w1.cell? ⟨w.heap.size + 1, 2, none⟩ = some (.int .i64 t2) := blk_cell (blk_below Q0.out D1.out (by omega)) 2
  have b3 : w1.cell? ⟨w.heap.size + 1, 3, none⟩ = some (.int .i64 cp2) := blk_cell (blk_below Q0.out D1.out (by omega)) 3
  have b4 : w1.cell? ⟨w.heap.size + 1, 4, none⟩ = some (.int .i64 s2) := blk_cell (blk_below Q0.out D1.out (by omega)) 4
  have b5 : w1.cell? ⟨w.heap.size + 1, 5, none⟩ = some (.slice B k d) := blk_cell (blk_below Q0.out D1.out (by omega)) 5
  go_wp2_with fail
  refine (T2.out _ D1.out).mono ?_
  rintro e w2 ⟨rfl, b2_⟩
  have D2 := Lib.hid (D1.out.trans (b2_.mono D1.out.size)); clear b2_
  clear a0 b0 a1 b1 a2 b2 a3 b3 a4 b4 a5 b5
  have a0 : w2.cell? ⟨w.heap.size, 0, none⟩ = some (.int .i64 i) := blk_cell (blk_below P0.out D2.out (by omega)) 0
  have a1 : w2.cell? ⟨w.heap.size, 1, none⟩ = some (.int .i64 f) := blk_cell (blk_below P0.out D2.out (by omega)) 1
  have a2 : w2.cell? ⟨w.heap.size, 2, none⟩ = some (.int .i64 t) := blk_cell (blk_below P0.out D2.out (by omega)) 2
  have a3 : w2.cell? ⟨w.heap.size, 3, none⟩ = some (.int .i64 cp) := blk_cell (blk_below P0.out D2.out (by omega)) 3
  have a4 : w2.cell? ⟨w.heap.size, 4, none⟩ = some (.int .i64 s) := blk_cell (blk_below P0.out D2.out (by omega)) 4
  have a5 : w2.cell? ⟨w.heap.size, 5, none⟩ = some (.slice A n c) := blk_cell (blk_below P0.out D2.out (by omega)) 5
  have b0 : w2.cell? ⟨w.heap.size + 1, 0, none⟩ = some (.int .i64 i2) := blk_cell (blk_below Q0.out D2.out (by omega)) 0
  have b1 : w2.cell? ⟨w.heap.size + 1, 1, none⟩ = some (.int .i64 f2) := blk_cell (blk_below Q0.out D2.out (by omega)) 1
  have b2 : w2.cell? ⟨w.heap.size + 1, 2, none⟩ = some (.int .i64 t2) := blk_cell (blk_below Q0.out D2.out (by omega)) 2
  have b3 : w2.cell? ⟨w.heap.size + 1, 3, none⟩ = some (.int .i64 cp2) := blk_cell (blk_below Q0.out D2.out (by omega)) 3
  have b4 : w2.cell? ⟨w.heap.size + 1, 4, none⟩ = some (.int .i64 s2) := blk_cell (blk_below Q0.out D2.out (by omega)) 4
  have b5 : w2.cell? ⟨w.heap.size + 1, 5, none⟩ = some (.slice B k d) := blk_cell (blk_below Q0.out D2.out (by omega)) 5
  go_wp2_with fail
  refine (HTN.out _).mono ?_
  rintro e w3 ⟨rfl, b3_⟩
  have D3 := Lib.hid (D2.out.trans (b3_.mono D2.out.size))
  have z3 := D3.out.size
  have D3a := Lib.hid (D3.out.alloc z3 (.cells #[.int .i64 i, .int .i64 f, .int .i64 t, .int .i64 cp, .int .i64 s, .slice (none) 0 0] 26))
  have N3 := Lib.hid (blk_new w3 #[.int .i64 i, .int .i64 f, .int .i64 t, .int .i64 cp, .int .i64 s, .slice (none) 0 0] 26)
  have hzn : (w3.alloc (.cells #[.int .i64 i, .int .i64 f, .int .i64 t, .int .i64 cp, .int .i64 s, .slice (none) 0 0] 26)).heap.size = w3.heap.size + 1 := by simp
  have HZN := Lib.hid hzn
  clear b3_ hzn a0 b0 a1 b1 a2 b2 a3 b3 a4 b4 a5 b5
  have a0 : ∀ o, (w3.alloc o).cell? ⟨w.heap.size, 0, none⟩ = some (.int .i64 i) := fun o => Lib.cell?_alloc_marked o (blk_cell (blk_below P0.out D3.out (by omega)) 0)
  have a1 : ∀ o, (w3.alloc o).cell? ⟨w.heap.size, 1, none⟩ = some (.int .i64 f) := fun o => Lib.cell?_alloc_marked o (blk_cell (blk_below P0.out D3.out (by omega)) 1)
  have a2 : ∀ o, (w3.alloc o).cell? ⟨w.heap.size, 2, none⟩ = some (.int .i64 t) := fun o => Lib.cell?_alloc_marked o (blk_cell (blk_below P0.out D3.out (by omega)) 2)
  have a3 : ∀ o, (w3.alloc o).cell? ⟨w.heap.size, 3, none⟩ = some (.int .i64 cp) := fun o => Lib.cell?_alloc_marked o (blk_cell (blk_below P0.out D3.out (by omega)) 3)
  have a4 : ∀ o, (w3.alloc o).cell? ⟨w.heap.size, 4, none⟩ = some (.int .i64 s) := fun o => Lib.cell?_alloc_marked o (blk_cell (blk_below P0.out D3.out (by omega)) 4)
  have a5 : ∀ o, (w3.alloc o).cell? ⟨w.heap.size, 5, none⟩ = some (.slice A n c) := fun o => Lib.cell?_alloc_marked o (blk_cell (blk_below P0.out D3.out (by omega)) 5)
  go_wp2_with fail
  refine (HTR.out _).mono ?_
  rintro e w4 ⟨rfl, b4_⟩
  have D4 := Lib.hid (D3a.out.trans (b4_.mono D3a.out.size))
  have N4 := Lib.hid (blk_below N3.out b4_ (by rw [HZN.out]; omega))
  clear b4_ a0 a1 a2 a3 a4 a5
  have a0 : w4.cell? ⟨w.heap.size, 0, none⟩ = some (.int .i64 i) := blk_cell (blk_below P0.out D4.out (by omega)) 0
  have a1 : w4.cell? ⟨w.heap.size, 1, none⟩ = some (.int .i64 f) := blk_cell (blk_below P0.out D4.out (by omega)) 1
  have a2 : w4.cell? ⟨w.heap.size, 2, none⟩ = some (.int .i64 t) := blk_cell (blk_below P0.out D4.out (by omega)) 2
  have a3 : w4.cell? ⟨w.heap.size, 3, none⟩ = some (.int .i64 cp) := blk_cell (blk_below P0.out D4.out (by omega)) 3
  have a4 : w4.cell? ⟨w.heap.size, 4, none⟩ = some (.int .i64 s) := blk_cell (blk_below P0.out D4.out (by omega)) 4
  have a5 : w4.cell? ⟨w.heap.size, 5, none⟩ = some (.slice A n c) := blk_cell (blk_below P0.out D4.out (by omega)) 5
  have b0 : w4.cell? ⟨w.heap.size + 1, 0, none⟩ = some (.int .i64 i2) := blk_cell (blk_below Q0.out D4.out (by omega)) 0
  have b1 : w4.cell? ⟨w.heap.size + 1, 1, none⟩ = some (.int .i64 f2) := blk_cell (blk_below Q0.out D4.out (by omega)) 1
  have b2 : w4.cell? ⟨w.heap.size + 1, 2, none⟩ = some (.int .i64 t2) := blk_cell (blk_below Q0.out D4.out (by omega)) 2
  have b3 : w4.cell? ⟨w.heap.size + 1, 3, none⟩ = some (.int .i64 cp2) := blk_cell (blk_below Q0.out D4.out (by omega)) 3
  have b4 : w4.cell? ⟨w.heap.size + 1, 4, none⟩ = some (.int .i64 s2) := blk_cell (blk_below Q0.out D4.out (by omega)) 4
  have b5 : w4.cell? ⟨w.heap.size + 1, 5, none⟩ = some (.slice B k d) := blk_cell (blk_below Q0.out D4.out (by omega)) 5
  have r0 : w4.cell? ⟨w3.heap.size, 0, none⟩ = some (.int .i64 i) := blk_cell N4.out 0
  have r1 : w4.cell? ⟨w3.heap.size, 1, none⟩ = some (.int .i64 f) := blk_cell N4.out 1
  have r2 : w4.cell? ⟨w3.heap.size, 2, none⟩ = some (.int .i64 t) := blk_cell N4.out 2
  have r3 : w4.cell? ⟨w3.heap.size, 3, none⟩ = some (.int .i64 cp) := blk_cell N4.out 3
  have r4 : w4.cell? ⟨w3.heap.size, 4, none⟩ = some (.int .i64 s) := blk_cell N4.out 4
  have r5 : w4.cell? ⟨w3.heap.size, 5, none⟩ = some (.slice none 0 0) := blk_cell N4.out 5
  go_wp2_with fail
  have hk4 := D4.out.drew
  have HSALL := Lib.hid (show ∀ W', Below ((w.alloc (.cells #[.int .i64 i, .int .i64 f, .int .i64 t, .int .i64 cp, .int .i64 s, .slice (A) n c] 26)).alloc (.cells #[.int .i64 i2, .int .i64 f2, .int .i64 t2, .int .i64 cp2, .int .i64 s2, .slice (B) k d] 26)).heap.size ((w.alloc (.cells #[.int .i64 i, .int .i64 f, .int .i64 t, .int .i64 cp, .int .i64 s, .slice (A) n c] 26)).alloc (.cells #[.int .i64 i2, .int .i64 f2, .int .i64 t2, .int .i64 cp2, .int .i64 s2, .slice (B) k d] 26)) W' → (Below ((w.alloc (.cells #[.int .i64 i, .int .i64 f, .int .i64 t, .int .i64 cp, .int .i64 s, .slice (A) n c] 26)).alloc (.cells #[.int .i64 i2, .int .i64 f2, .int .i64 t2, .int .i64 cp2, .int .i64 s2, .slice (B) k d] 26)).heap.size ((w.alloc (.cells #[.int .i64 i, .int .i64 f, .int .i64 t, .int .i64 cp, .int .i64 s, .slice (A) n c] 26)).alloc (.cells #[.int .i64 i2, .int .i64 f2, .int .i64 t2, .int .i64 cp2, .int .i64 s2, .slice (B) k d] 26)) W' ∧ W'.cell? ⟨w.heap.size, 0, none⟩ = some (.int .i64 i) ∧ W'.cell? ⟨w.heap.size, 1, none⟩ = some (.int .i64 f) ∧ W'.cell? ⟨w.heap.size, 2, none⟩ = some (.int .i64 t) ∧ W'.cell? ⟨w.heap.size, 3, none⟩ = some (.int .i64 cp) ∧ W'.cell? ⟨w.heap.size, 4, none⟩ = some (.int .i64 s) ∧ W'.cell? ⟨w.heap.size, 5, none⟩ = some (.slice A n c) ∧ W'.cell? ⟨w.heap.size + 1, 0, none⟩ = some (.int .i64 i2) ∧ W'.cell? ⟨w.heap.size + 1, 1, none⟩ = some (.int .i64 f2) ∧ W'.cell? ⟨w.heap.size + 1, 2, none⟩ = some (.int .i64 t2) ∧ W'.cell? ⟨w.heap.size + 1, 3, none⟩ = some (.int .i64 cp2) ∧ W'.cell? ⟨w.heap.size + 1, 4, none⟩ = some (.int .i64 s2) ∧ W'.cell? ⟨w.heap.size + 1, 5, none⟩ = some (.slice B k d)) from fun W' hh => ⟨hh, blk_cell (blk_below P0.out hh (by omega)) 0, blk_cell (blk_below P0.out hh (by omega)) 1, blk_cell (blk_below P0.out hh (by omega)) 2, blk_cell (blk_below P0.out hh (by omega)) 3, blk_cell (blk_below P0.out hh (by omega)) 4, blk_cell (blk_below P0.out hh (by omega)) 5, blk_cell (blk_below Q0.out hh (by omega)) 0, blk_cell (blk_below Q0.out hh (by omega)) 1, blk_cell (blk_below Q0.out hh (by omega)) 2, blk_cell (blk_below Q0.out hh (by omega)) 3, blk_cell (blk_below Q0.out hh (by omega)) 4, blk_cell (blk_below Q0.out hh (by omega)) 5⟩)
  clear a0 b0 a1 b1 a2 b2 a3 b3 a4 b4 a5 b5 r0 r1 r2 r3 r4 r5
  go_region_held3 (fun w' => Below ((w.alloc (.cells #[.int .i64 i, .int .i64 f, .int .i64 t, .int .i64 cp, .int .i64 s, .slice (A) n c] 26)).alloc (.cells #[.int .i64 i2, .int .i64 f2, .int .i64 t2, .int .i64 cp2, .int .i64 s2, .slice (B) k d] 26)).heap.size ((w.alloc (.cells #[.int .i64 i, .int .i64 f, .int .i64 t, .int .i64 cp, .int .i64 s, .slice (A) n c] 26)).alloc (.cells #[.int .i64 i2, .int .i64 f2, .int .i64 t2, .int .i64 cp2, .int .i64 s2, .slice (B) k d] 26)) w' ∧ w'.cell? ⟨w.heap.size, 0, none⟩ = some (.int .i64 i) ∧ w'.cell? ⟨w.heap.size, 1, none⟩ = some (.int .i64 f) ∧ w'.cell? ⟨w.heap.size, 2, none⟩ = some (.int .i64 t) ∧ w'.cell? ⟨w.heap.size, 3, none⟩ = some (.int .i64 cp) ∧ w'.cell? ⟨w.heap.size, 4, none⟩ = some (.int .i64 s) ∧ w'.cell? ⟨w.heap.size, 5, none⟩ = some (.slice A n c) ∧ w'.cell? ⟨w.heap.size + 1, 0, none⟩ = some (.int .i64 i2) ∧ w'.cell? ⟨w.heap.size + 1, 1, none⟩ = some (.int .i64 f2) ∧ w'.cell? ⟨w.heap.size + 1, 2, none⟩ = some (.int .i64 t2) ∧ w'.cell? ⟨w.heap.size + 1, 3, none⟩ = some (.int .i64 cp2) ∧ w'.cell? ⟨w.heap.size + 1, 4, none⟩ = some (.int .i64 s2) ∧ w'.cell? ⟨w.heap.size + 1, 5, none⟩ = some (.slice B k d))
    (with_reducible (first | exact HSALL.out _ hk4 | exact HSALL.out _ (by assumption)))
    (first
      | ((with_reducible refine (HKA.out _ (by assumption)).mono ?_; rintro e w' ⟨rfl, hk⟩))
      | ((with_reducible refine (HKR.out _ (by assumption)).mono ?_; rintro e w' ⟨rfl, hk⟩))
      | ((with_reducible refine (HKM.out _ (by assumption)).mono ?_; rintro e w' ⟨rfl, hk⟩))
      | ((with_reducible refine (HKQ.out _ (by assumption)).mono ?_; rintro e w' ⟨rfl, hk⟩))
      | ((with_reducible refine (HKU.out _ (by assumption)).mono ?_; rintro e w' ⟨rfl, hk⟩))
      | ((with_reducible refine (HKS.out _ (by assumption)).mono ?_; rintro e w' ⟨rfl, hk⟩))
      | ((with_reducible refine (HKT.out _ (by assumption)).mono ?_; rintro e w' ⟨rfl, hk⟩))
      | ((with_reducible refine (HKW.out _ (by assumption)).mono ?_; rintro e w' ⟨rfl, hk⟩))
      | ((with_reducible refine (HKC.out _ (by assumption)).mono ?_; rintro e w' ⟨g9, c9, rfl, hr9, hk⟩))
      | ((with_reducible refine (HKE.out _ _ _ (by assumption) (by assumption)).mono ?_; rintro e w' ⟨rfl, hk⟩)))
  all_goals (go_wp2)
  all_goals (go_ret)
  all_goals exact ⟨rfl, hX.out.trans (Below.mono (by assumption) hX.out.size)⟩
set_option maxRecDepth 100000 in
set_option maxHeartbeats 8000000 in
theorem tells_no (i f t cp s i2 f2 t2 cp2 s2 : Int) (A B : Option Addr) (n c k d : Nat) (la lb : List Msg) (hla : la.length = n) (hlb : lb.length = k) (hLa : ∀ l ∈ la, l.length ≤ 140737488355328) (hLb : ∀ l ∈ lb, l.length ≤ 140737488355328) (l : List Ch) (Al : Option Addr) (ln cl : Nat) (hll : l.length = ln) (h1 : greatQ la = false) (h2 : greatQ lb = false) (h0 : (ln : Int) ≤ 20) (h3 : mayC ⟨i, f, t, cp, s⟩ = false) (w : World) (hl : Rd w Al (chCells l)) (ha : Rms w A la) (hb : Rms w B lb) : Calls Try.prog 8 #[.slice Al ln cl, .agg #[.int .i64 i, .int .i64 f, .int .i64 t, .int .i64 cp, .int .i64 s, .slice (A) n c], .agg #[.int .i64 i2, .int .i64 f2, .int .i64 t2, .int .i64 cp2, .int .i64 s2, .slice (B) k d]] w fun e w' => e = .returned (.bool true) ∧ Below w.heap.size w w' := by
  have P0 := Lib.hid (blk_alloc (blk_new w #[.int .i64 i, .int .i64 f, .int .i64 t, .int .i64 cp, .int .i64 s, .slice (A) n c] 26) (.cells #[.int .i64 i2, .int .i64 f2, .int .i64 t2, .int .i64 cp2, .int .i64 s2, .slice (B) k d] 26))
  have Q0 := Lib.hid (show ((w.alloc (.cells #[.int .i64 i, .int .i64 f, .int .i64 t, .int .i64 cp, .int .i64 s, .slice (A) n c] 26)).alloc (.cells #[.int .i64 i2, .int .i64 f2, .int .i64 t2, .int .i64 cp2, .int .i64 s2, .slice (B) k d] 26)).heap[w.heap.size + 1]? = some (.cells #[.int .i64 i2, .int .i64 f2, .int .i64 t2, .int .i64 cp2, .int .i64 s2, .slice (B) k d] 26 (0, 0)) by have := blk_new (w.alloc (.cells #[.int .i64 i, .int .i64 f, .int .i64 t, .int .i64 cp, .int .i64 s, .slice (A) n c] 26)) #[.int .i64 i2, .int .i64 f2, .int .i64 t2, .int .i64 cp2, .int .i64 s2, .slice (B) k d] 26; simpa using this)
  have hX := Lib.hid (((Below.refl w.heap.size w).alloc (Nat.le_refl _) (.cells #[.int .i64 i, .int .i64 f, .int .i64 t, .int .i64 cp, .int .i64 s, .slice (A) n c] 26)).alloc (by simp) (.cells #[.int .i64 i2, .int .i64 f2, .int .i64 t2, .int .i64 cp2, .int .i64 s2, .slice (B) k d] 26))
  have hsz : ((w.alloc (.cells #[.int .i64 i, .int .i64 f, .int .i64 t, .int .i64 cp, .int .i64 s, .slice (A) n c] 26)).alloc (.cells #[.int .i64 i2, .int .i64 f2, .int .i64 t2, .int .i64 cp2, .int .i64 s2, .slice (B) k d] 26)).heap.size = w.heap.size + 2 := by simp
  have T1 : Hid (∀ w', Below ((w.alloc (.cells #[.int .i64 i, .int .i64 f, .int .i64 t, .int .i64 cp, .int .i64 s, .slice (A) n c] 26)).alloc (.cells #[.int .i64 i2, .int .i64 f2, .int .i64 t2, .int .i64 cp2, .int .i64 s2, .slice (B) k d] 26)).heap.size ((w.alloc (.cells #[.int .i64 i, .int .i64 f, .int .i64 t, .int .i64 cp, .int .i64 s, .slice (A) n c] 26)).alloc (.cells #[.int .i64 i2, .int .i64 f2, .int .i64 t2, .int .i64 cp2, .int .i64 s2, .slice (B) k d] 26)) w' → Calls Try.prog 9 #[.agg #[.int .i64 i, .int .i64 f, .int .i64 t, .int .i64 cp, .int .i64 s, .slice (A) n c]] w' fun e w'' => e = .returned (.bool false) ∧ Below w'.heap.size w' w'') := Lib.hid (fun w' hh => by
    have T := great ⟨i, f, t, cp, s⟩ A c la hLa w' ((ha.below hX.out).below hh)
    rw [hla, h1] at T; exact T)
  have T2 : Hid (∀ w', Below ((w.alloc (.cells #[.int .i64 i, .int .i64 f, .int .i64 t, .int .i64 cp, .int .i64 s, .slice (A) n c] 26)).alloc (.cells #[.int .i64 i2, .int .i64 f2, .int .i64 t2, .int .i64 cp2, .int .i64 s2, .slice (B) k d] 26)).heap.size ((w.alloc (.cells #[.int .i64 i, .int .i64 f, .int .i64 t, .int .i64 cp, .int .i64 s, .slice (A) n c] 26)).alloc (.cells #[.int .i64 i2, .int .i64 f2, .int .i64 t2, .int .i64 cp2, .int .i64 s2, .slice (B) k d] 26)) w' → Calls Try.prog 9 #[.agg #[.int .i64 i2, .int .i64 f2, .int .i64 t2, .int .i64 cp2, .int .i64 s2, .slice (B) k d]] w' fun e w'' => e = .returned (.bool false) ∧ Below w'.heap.size w' w'') := Lib.hid (fun w' hh => by
    have T := great ⟨i2, f2, t2, cp2, s2⟩ B d lb hLb w' ((hb.below hX.out).below hh)
    rw [hlb, h2] at T; exact T)
  have hgn := greatQ_no h1
  have hgm := greatQ_no h2
  have hml : ∀ l ∈ la, l.length ≤ 1000000 := fun l hl => by have := len_le hl; omega
  have TN := fun W => new_any ⟨i, f, t, cp, s⟩ W
  have TR := fun W => rmay ⟨i, f, t, cp, s⟩ W
  have TR2 := fun W => may ⟨i, f, t, cp, s⟩ W
  simp only [h3, Ch.cells, qcells, if_false, Bool.false_eq_true] at TN TR TR2
  have HTN := Lib.hid TN; have HTR := Lib.hid TR
  have H0 := Lib.hid hX.out.size
  have RA := Lib.hid (ha.below hX.out); have RB := Lib.hid (hb.below hX.out); have RL := Lib.hid (hl.below hX.out)
  -- the contracts in a world that holds all that W holds
  obtain ⟨z0, hz0⟩ : ∃ z, AllIs l z := by
    by_cases h : ∃ x ∈ l, mayC x = false
    · exact ⟨2, Or.inl ⟨h, rfl⟩⟩
    · have hall : ∀ x ∈ l, mayC x = true := fun x hx => by
        cases hm : mayC x with
        | true => rfl
        | false => exact absurd ⟨x, hx, hm⟩ h
      by_cases h2 : ∃ k a b, l[k]? = some a ∧ l[k + 1]? = some b ∧ b.id ≤ a.id
      · exact ⟨100, Or.inr (Or.inl ⟨hall, h2, rfl⟩)⟩
      · exact ⟨0, Or.inr (Or.inr ⟨hall, fun k a b e1 e2 h3 => h2 ⟨k, a, b, e1, e2, h3⟩, rfl⟩)⟩
  have KA := fun W (hh : Below ((w.alloc (.cells #[.int .i64 i, .int .i64 f, .int .i64 t, .int .i64 cp, .int .i64 s, .slice (A) n c] 26)).alloc (.cells #[.int .i64 i2, .int .i64 f2, .int .i64 t2, .int .i64 cp2, .int .i64 s2, .slice (B) k d] 26)).heap.size ((w.alloc (.cells #[.int .i64 i, .int .i64 f, .int .i64 t, .int .i64 cp, .int .i64 s, .slice (A) n c] 26)).alloc (.cells #[.int .i64 i2, .int .i64 f2, .int .i64 t2, .int .i64 cp2, .int .i64 s2, .slice (B) k d] 26)) W) => (all l Al ln cl hll (by omega) W (RL.out.below hh)).mono (R' := fun e w' => e = .returned (.int .i64 z0) ∧ Below ((w.alloc (.cells #[.int .i64 i, .int .i64 f, .int .i64 t, .int .i64 cp, .int .i64 s, .slice (A) n c] 26)).alloc (.cells #[.int .i64 i2, .int .i64 f2, .int .i64 t2, .int .i64 cp2, .int .i64 s2, .slice (B) k d] 26)).heap.size ((w.alloc (.cells #[.int .i64 i, .int .i64 f, .int .i64 t, .int .i64 cp, .int .i64 s, .slice (A) n c] 26)).alloc (.cells #[.int .i64 i2, .int .i64 f2, .int .i64 t2, .int .i64 cp2, .int .i64 s2, .slice (B) k d] 26)) w') fun e w' ⟨z, he, hi, hb⟩ => ⟨by rw [he, AllIs.one hi hz0], hh.trans (hb.mono hh.size)⟩
  have KR := fun W (hh : Below ((w.alloc (.cells #[.int .i64 i, .int .i64 f, .int .i64 t, .int .i64 cp, .int .i64 s, .slice (A) n c] 26)).alloc (.cells #[.int .i64 i2, .int .i64 f2, .int .i64 t2, .int .i64 cp2, .int .i64 s2, .slice (B) k d] 26)).heap.size ((w.alloc (.cells #[.int .i64 i, .int .i64 f, .int .i64 t, .int .i64 cp, .int .i64 s, .slice (A) n c] 26)).alloc (.cells #[.int .i64 i2, .int .i64 f2, .int .i64 t2, .int .i64 cp2, .int .i64 s2, .slice (B) k d] 26)) W) => (rall l Al ln cl hll (by omega) W (RL.out.below hh)).mono (R' := fun e w' => e = .returned (.int .i64 z0) ∧ Below ((w.alloc (.cells #[.int .i64 i, .int .i64 f, .int .i64 t, .int .i64 cp, .int .i64 s, .slice (A) n c] 26)).alloc (.cells #[.int .i64 i2, .int .i64 f2, .int .i64 t2, .int .i64 cp2, .int .i64 s2, .slice (B) k d] 26)).heap.size ((w.alloc (.cells #[.int .i64 i, .int .i64 f, .int .i64 t, .int .i64 cp, .int .i64 s, .slice (A) n c] 26)).alloc (.cells #[.int .i64 i2, .int .i64 f2, .int .i64 t2, .int .i64 cp2, .int .i64 s2, .slice (B) k d] 26)) w') fun e w' ⟨z, he, hi, hb⟩ => ⟨by rw [he, AllIs.one hi hz0], hh.trans (hb.mono hh.size)⟩
  have KM := fun W (hh : Below ((w.alloc (.cells #[.int .i64 i, .int .i64 f, .int .i64 t, .int .i64 cp, .int .i64 s, .slice (A) n c] 26)).alloc (.cells #[.int .i64 i2, .int .i64 f2, .int .i64 t2, .int .i64 cp2, .int .i64 s2, .slice (B) k d] 26)).heap.size ((w.alloc (.cells #[.int .i64 i, .int .i64 f, .int .i64 t, .int .i64 cp, .int .i64 s, .slice (A) n c] 26)).alloc (.cells #[.int .i64 i2, .int .i64 f2, .int .i64 t2, .int .i64 cp2, .int .i64 s2, .slice (B) k d] 26)) W) => (TR2 W).mono (R' := fun e w' => e = .returned (.bool false) ∧ Below ((w.alloc (.cells #[.int .i64 i, .int .i64 f, .int .i64 t, .int .i64 cp, .int .i64 s, .slice (A) n c] 26)).alloc (.cells #[.int .i64 i2, .int .i64 f2, .int .i64 t2, .int .i64 cp2, .int .i64 s2, .slice (B) k d] 26)).heap.size ((w.alloc (.cells #[.int .i64 i, .int .i64 f, .int .i64 t, .int .i64 cp, .int .i64 s, .slice (A) n c] 26)).alloc (.cells #[.int .i64 i2, .int .i64 f2, .int .i64 t2, .int .i64 cp2, .int .i64 s2, .slice (B) k d] 26)) w') fun e w' ⟨he, hb⟩ => ⟨he, hh.trans (hb.mono hh.size)⟩
  have KQ := fun W (hh : Below ((w.alloc (.cells #[.int .i64 i, .int .i64 f, .int .i64 t, .int .i64 cp, .int .i64 s, .slice (A) n c] 26)).alloc (.cells #[.int .i64 i2, .int .i64 f2, .int .i64 t2, .int .i64 cp2, .int .i64 s2, .slice (B) k d] 26)).heap.size ((w.alloc (.cells #[.int .i64 i, .int .i64 f, .int .i64 t, .int .i64 cp, .int .i64 s, .slice (A) n c] 26)).alloc (.cells #[.int .i64 i2, .int .i64 f2, .int .i64 t2, .int .i64 cp2, .int .i64 s2, .slice (B) k d] 26)) W) => (mayQueue ⟨i, f, t, cp, s⟩ A c la (by omega) W (RA.out.below hh)).mono (R' := fun e w' => e = .returned (.bool (mayQ ⟨i, f, t, cp, s⟩ la)) ∧ Below ((w.alloc (.cells #[.int .i64 i, .int .i64 f, .int .i64 t, .int .i64 cp, .int .i64 s, .slice (A) n c] 26)).alloc (.cells #[.int .i64 i2, .int .i64 f2, .int .i64 t2, .int .i64 cp2, .int .i64 s2, .slice (B) k d] 26)).heap.size ((w.alloc (.cells #[.int .i64 i, .int .i64 f, .int .i64 t, .int .i64 cp, .int .i64 s, .slice (A) n c] 26)).alloc (.cells #[.int .i64 i2, .int .i64 f2, .int .i64 t2, .int .i64 cp2, .int .i64 s2, .slice (B) k d] 26)) w') fun e w' ⟨he, hb⟩ => ⟨he, hh.trans (hb.mono hh.size)⟩
  have KU := fun W (hh : Below ((w.alloc (.cells #[.int .i64 i, .int .i64 f, .int .i64 t, .int .i64 cp, .int .i64 s, .slice (A) n c] 26)).alloc (.cells #[.int .i64 i2, .int .i64 f2, .int .i64 t2, .int .i64 cp2, .int .i64 s2, .slice (B) k d] 26)).heap.size ((w.alloc (.cells #[.int .i64 i, .int .i64 f, .int .i64 t, .int .i64 cp, .int .i64 s, .slice (A) n c] 26)).alloc (.cells #[.int .i64 i2, .int .i64 f2, .int .i64 t2, .int .i64 cp2, .int .i64 s2, .slice (B) k d] 26)) W) => (rmayQueue ⟨i, f, t, cp, s⟩ A c la (by omega) W (RA.out.below hh)).mono (R' := fun e w' => e = .returned (.bool (mayQ ⟨i, f, t, cp, s⟩ la)) ∧ Below ((w.alloc (.cells #[.int .i64 i, .int .i64 f, .int .i64 t, .int .i64 cp, .int .i64 s, .slice (A) n c] 26)).alloc (.cells #[.int .i64 i2, .int .i64 f2, .int .i64 t2, .int .i64 cp2, .int .i64 s2, .slice (B) k d] 26)).heap.size ((w.alloc (.cells #[.int .i64 i, .int .i64 f, .int .i64 t, .int .i64 cp, .int .i64 s, .slice (A) n c] 26)).alloc (.cells #[.int .i64 i2, .int .i64 f2, .int .i64 t2, .int .i64 cp2, .int .i64 s2, .slice (B) k d] 26)) w') fun e w' ⟨he, hb⟩ => ⟨he, hh.trans (hb.mono hh.size)⟩
  have KS := fun W (hh : Below ((w.alloc (.cells #[.int .i64 i, .int .i64 f, .int .i64 t, .int .i64 cp, .int .i64 s, .slice (A) n c] 26)).alloc (.cells #[.int .i64 i2, .int .i64 f2, .int .i64 t2, .int .i64 cp2, .int .i64 s2, .slice (B) k d] 26)).heap.size ((w.alloc (.cells #[.int .i64 i, .int .i64 f, .int .i64 t, .int .i64 cp, .int .i64 s, .slice (A) n c] 26)).alloc (.cells #[.int .i64 i2, .int .i64 f2, .int .i64 t2, .int .i64 cp2, .int .i64 s2, .slice (B) k d] 26)) W) => (same ⟨i, f, t, cp, s⟩ ⟨i2, f2, t2, cp2, s2⟩ la lb A B c d (by omega) W (RA.out.below hh) (RB.out.below hh)).mono (R' := fun e w' => e = .returned (.bool (sameQ ⟨i, f, t, cp, s⟩ la ⟨i2, f2, t2, cp2, s2⟩ lb)) ∧ Below ((w.alloc (.cells #[.int .i64 i, .int .i64 f, .int .i64 t, .int .i64 cp, .int .i64 s, .slice (A) n c] 26)).alloc (.cells #[.int .i64 i2, .int .i64 f2, .int .i64 t2, .int .i64 cp2, .int .i64 s2, .slice (B) k d] 26)).heap.size ((w.alloc (.cells #[.int .i64 i, .int .i64 f, .int .i64 t, .int .i64 cp, .int .i64 s, .slice (A) n c] 26)).alloc (.cells #[.int .i64 i2, .int .i64 f2, .int .i64 t2, .int .i64 cp2, .int .i64 s2, .slice (B) k d] 26)) w') fun e w' ⟨he, hb⟩ => ⟨he, hh.trans (hb.mono hh.size)⟩
  have KT := fun W (hh : Below ((w.alloc (.cells #[.int .i64 i, .int .i64 f, .int .i64 t, .int .i64 cp, .int .i64 s, .slice (A) n c] 26)).alloc (.cells #[.int .i64 i2, .int .i64 f2, .int .i64 t2, .int .i64 cp2, .int .i64 s2, .slice (B) k d] 26)).heap.size ((w.alloc (.cells #[.int .i64 i, .int .i64 f, .int .i64 t, .int .i64 cp, .int .i64 s, .slice (A) n c] 26)).alloc (.cells #[.int .i64 i2, .int .i64 f2, .int .i64 t2, .int .i64 cp2, .int .i64 s2, .slice (B) k d] 26)) W) => (rsame ⟨i, f, t, cp, s⟩ ⟨i2, f2, t2, cp2, s2⟩ la lb A B c d (by omega) W (RA.out.below hh) (RB.out.below hh)).mono (R' := fun e w' => e = .returned (.bool (sameQ ⟨i, f, t, cp, s⟩ la ⟨i2, f2, t2, cp2, s2⟩ lb)) ∧ Below ((w.alloc (.cells #[.int .i64 i, .int .i64 f, .int .i64 t, .int .i64 cp, .int .i64 s, .slice (A) n c] 26)).alloc (.cells #[.int .i64 i2, .int .i64 f2, .int .i64 t2, .int .i64 cp2, .int .i64 s2, .slice (B) k d] 26)).heap.size ((w.alloc (.cells #[.int .i64 i, .int .i64 f, .int .i64 t, .int .i64 cp, .int .i64 s, .slice (A) n c] 26)).alloc (.cells #[.int .i64 i2, .int .i64 f2, .int .i64 t2, .int .i64 cp2, .int .i64 s2, .slice (B) k d] 26)) w') fun e w' ⟨he, hb⟩ => ⟨he, hh.trans (hb.mono hh.size)⟩
  have KC := fun W (hh : Below ((w.alloc (.cells #[.int .i64 i, .int .i64 f, .int .i64 t, .int .i64 cp, .int .i64 s, .slice (A) n c] 26)).alloc (.cells #[.int .i64 i2, .int .i64 f2, .int .i64 t2, .int .i64 cp2, .int .i64 s2, .slice (B) k d] 26)).heap.size ((w.alloc (.cells #[.int .i64 i, .int .i64 f, .int .i64 t, .int .i64 cp, .int .i64 s, .slice (A) n c] 26)).alloc (.cells #[.int .i64 i2, .int .i64 f2, .int .i64 t2, .int .i64 cp2, .int .i64 s2, .slice (B) k d] 26)) W) => (lcopied ⟨i, f, t, cp, s⟩ A c la (by omega) hml W (RA.out.below hh)).mono (R' := fun e w' => ∃ g c1, e = .returned (.agg (qcells ⟨i, f, t, cp, s⟩ (some ⟨g, 0, none⟩) la.length c1)) ∧ Rms w' (some ⟨g, 0, none⟩) la ∧ Below ((w.alloc (.cells #[.int .i64 i, .int .i64 f, .int .i64 t, .int .i64 cp, .int .i64 s, .slice (A) n c] 26)).alloc (.cells #[.int .i64 i2, .int .i64 f2, .int .i64 t2, .int .i64 cp2, .int .i64 s2, .slice (B) k d] 26)).heap.size ((w.alloc (.cells #[.int .i64 i, .int .i64 f, .int .i64 t, .int .i64 cp, .int .i64 s, .slice (A) n c] 26)).alloc (.cells #[.int .i64 i2, .int .i64 f2, .int .i64 t2, .int .i64 cp2, .int .i64 s2, .slice (B) k d] 26)) w') fun e w' ⟨g, c1, he, _, hro, hb⟩ => ⟨g, c1, he, hro.own2.rows, hh.trans (hb.mono hh.size)⟩
  have KE := fun g c1 W (hr : Rms W (some ⟨g, 0, none⟩) la) (hh : Below ((w.alloc (.cells #[.int .i64 i, .int .i64 f, .int .i64 t, .int .i64 cp, .int .i64 s, .slice (A) n c] 26)).alloc (.cells #[.int .i64 i2, .int .i64 f2, .int .i64 t2, .int .i64 cp2, .int .i64 s2, .slice (B) k d] 26)).heap.size ((w.alloc (.cells #[.int .i64 i, .int .i64 f, .int .i64 t, .int .i64 cp, .int .i64 s, .slice (A) n c] 26)).alloc (.cells #[.int .i64 i2, .int .i64 f2, .int .i64 t2, .int .i64 cp2, .int .i64 s2, .slice (B) k d] 26)) W) => (same ⟨i, f, t, cp, s⟩ ⟨i, f, t, cp, s⟩ la la A (some ⟨g, 0, none⟩) c c1 (by omega) W (RA.out.below hh) hr).mono (R' := fun e w' => e = .returned (.bool true) ∧ Below ((w.alloc (.cells #[.int .i64 i, .int .i64 f, .int .i64 t, .int .i64 cp, .int .i64 s, .slice (A) n c] 26)).alloc (.cells #[.int .i64 i2, .int .i64 f2, .int .i64 t2, .int .i64 cp2, .int .i64 s2, .slice (B) k d] 26)).heap.size ((w.alloc (.cells #[.int .i64 i, .int .i64 f, .int .i64 t, .int .i64 cp, .int .i64 s, .slice (A) n c] 26)).alloc (.cells #[.int .i64 i2, .int .i64 f2, .int .i64 t2, .int .i64 cp2, .int .i64 s2, .slice (B) k d] 26)) w') fun e w' ⟨he, hb⟩ => ⟨by rw [he]; simp [sameQ], hh.trans (hb.mono hh.size)⟩
  have KW := fun W (hh : Below ((w.alloc (.cells #[.int .i64 i, .int .i64 f, .int .i64 t, .int .i64 cp, .int .i64 s, .slice (A) n c] 26)).alloc (.cells #[.int .i64 i2, .int .i64 f2, .int .i64 t2, .int .i64 cp2, .int .i64 s2, .slice (B) k d] 26)).heap.size ((w.alloc (.cells #[.int .i64 i, .int .i64 f, .int .i64 t, .int .i64 cp, .int .i64 s, .slice (A) n c] 26)).alloc (.cells #[.int .i64 i2, .int .i64 f2, .int .i64 t2, .int .i64 cp2, .int .i64 s2, .slice (B) k d] 26)) W) => (awake W).mono (R' := fun e w' => e = .returned (.bool true) ∧ Below ((w.alloc (.cells #[.int .i64 i, .int .i64 f, .int .i64 t, .int .i64 cp, .int .i64 s, .slice (A) n c] 26)).alloc (.cells #[.int .i64 i2, .int .i64 f2, .int .i64 t2, .int .i64 cp2, .int .i64 s2, .slice (B) k d] 26)).heap.size ((w.alloc (.cells #[.int .i64 i, .int .i64 f, .int .i64 t, .int .i64 cp, .int .i64 s, .slice (A) n c] 26)).alloc (.cells #[.int .i64 i2, .int .i64 f2, .int .i64 t2, .int .i64 cp2, .int .i64 s2, .slice (B) k d] 26)) w') fun e w' ⟨he, hb⟩ => ⟨he, hh.trans (hb.mono hh.size)⟩
  obtain ⟨b1, hb1⟩ : ∃ b1, mayQ ⟨i, f, t, cp, s⟩ la = b1 := ⟨_, rfl⟩
  obtain ⟨b2, hb2⟩ : ∃ b2, sameQ ⟨i, f, t, cp, s⟩ la ⟨i2, f2, t2, cp2, s2⟩ lb = b2 := ⟨_, rfl⟩
  simp only [hla, hlb, qcells, hb1, hb2] at KQ KU KS KT KC KE
  have HKA := Lib.hid KA; have HKR := Lib.hid KR; have HKM := Lib.hid KM; have HKQ := Lib.hid KQ; have HKU := Lib.hid KU; have HKS := Lib.hid KS; have HKT := Lib.hid KT; have HKC := Lib.hid KC; have HKE := Lib.hid KE; have HKW := Lib.hid KW
  clear TN TR TR2 KA KR KM KQ KU KS KT KC KE KW hz0 hb1 hb2 hgn hgm hml hl hll
  clear ha hb hLa hLb hla hlb h1 h2 h3
  go_enter Try.func8, Try.ntmps8
  go_wp2_with fail
  refine (T1.out _ (Below.refl _ _)).mono ?_
  rintro e w1 ⟨rfl, b1_⟩
  have D1 := Lib.hid (b1_.mono (Nat.le_refl _)); clear b1_
  have a0 : w1.cell? ⟨w.heap.size, 0, none⟩ = some (.int .i64 i) := blk_cell (blk_below P0.out D1.out (by omega)) 0
  have a1 : w1.cell? ⟨w.heap.size, 1, none⟩ = some (.int .i64 f) := blk_cell (blk_below P0.out D1.out (by omega)) 1
  have a2 : w1.cell? ⟨w.heap.size, 2, none⟩ = some (.int .i64 t) := blk_cell (blk_below P0.out D1.out (by omega)) 2
  have a3 : w1.cell? ⟨w.heap.size, 3, none⟩ = some (.int .i64 cp) := blk_cell (blk_below P0.out D1.out (by omega)) 3
  have a4 : w1.cell? ⟨w.heap.size, 4, none⟩ = some (.int .i64 s) := blk_cell (blk_below P0.out D1.out (by omega)) 4
  have a5 : w1.cell? ⟨w.heap.size, 5, none⟩ = some (.slice A n c) := blk_cell (blk_below P0.out D1.out (by omega)) 5
  have b0 : w1.cell? ⟨w.heap.size + 1, 0, none⟩ = some (.int .i64 i2) := blk_cell (blk_below Q0.out D1.out (by omega)) 0
  have b1 : w1.cell? ⟨w.heap.size + 1, 1, none⟩ = some (.int .i64 f2) := blk_cell (blk_below Q0.out D1.out (by omega)) 1
  have b2 : w1.cell? ⟨w.heap.size + 1, 2, none⟩ = some (.int .i64 t2) := blk_cell (blk_below Q0.out D1.out (by omega)) 2
  have b3 : w1.cell? ⟨w.heap.size + 1, 3, none⟩ = some (.int .i64 cp2) := blk_cell (blk_below Q0.out D1.out (by omega)) 3
  have b4 : w1.cell? ⟨w.heap.size + 1, 4, none⟩ = some (.int .i64 s2) := blk_cell (blk_below Q0.out D1.out (by omega)) 4
  have b5 : w1.cell? ⟨w.heap.size + 1, 5, none⟩ = some (.slice B k d) := blk_cell (blk_below Q0.out D1.out (by omega)) 5
  go_wp2_with fail
  refine (T2.out _ D1.out).mono ?_
  rintro e w2 ⟨rfl, b2_⟩
  have D2 := Lib.hid (D1.out.trans (b2_.mono D1.out.size)); clear b2_
  clear a0 b0 a1 b1 a2 b2 a3 b3 a4 b4 a5 b5
  have a0 : w2.cell? ⟨w.heap.size, 0, none⟩ = some (.int .i64 i) := blk_cell (blk_below P0.out D2.out (by omega)) 0
  have a1 : w2.cell? ⟨w.heap.size, 1, none⟩ = some (.int .i64 f) := blk_cell (blk_below P0.out D2.out (by omega)) 1
  have a2 : w2.cell? ⟨w.heap.size, 2, none⟩ = some (.int .i64 t) := blk_cell (blk_below P0.out D2.out (by omega)) 2
  have a3 : w2.cell? ⟨w.heap.size, 3, none⟩ = some (.int .i64 cp) := blk_cell (blk_below P0.out D2.out (by omega)) 3
  have a4 : w2.cell? ⟨w.heap.size, 4, none⟩ = some (.int .i64 s) := blk_cell (blk_below P0.out D2.out (by omega)) 4
  have a5 : w2.cell? ⟨w.heap.size, 5, none⟩ = some (.slice A n c) := blk_cell (blk_below P0.out D2.out (by omega)) 5
  have b0 : w2.cell? ⟨w.heap.size + 1, 0, none⟩ = some (.int .i64 i2) := blk_cell (blk_below Q0.out D2.out (by omega)) 0
  have b1 : w2.cell? ⟨w.heap.size + 1, 1, none⟩ = some (.int .i64 f2) := blk_cell (blk_below Q0.out D2.out (by omega)) 1
  have b2 : w2.cell? ⟨w.heap.size + 1, 2, none⟩ = some (.int .i64 t2) := blk_cell (blk_below Q0.out D2.out (by omega)) 2
  have b3 : w2.cell? ⟨w.heap.size + 1, 3, none⟩ = some (.int .i64 cp2) := blk_cell (blk_below Q0.out D2.out (by omega)) 3
  have b4 : w2.cell? ⟨w.heap.size + 1, 4, none⟩ = some (.int .i64 s2) := blk_cell (blk_below Q0.out D2.out (by omega)) 4
  have b5 : w2.cell? ⟨w.heap.size + 1, 5, none⟩ = some (.slice B k d) := blk_cell (blk_below Q0.out D2.out (by omega)) 5
  go_wp2_with fail
  refine (HTN.out _).mono ?_
  rintro e w3 ⟨rfl, b3_⟩
  have D3 := Lib.hid (D2.out.trans (b3_.mono D2.out.size))
  have z3 := D3.out.size
  have D3a := Lib.hid (D3.out.alloc z3 (.cells #[.int .i64 0, .int .i64 0, .int .i64 0, .int .i64 0, .int .i64 0, .slice (none) 0 0] 26))
  have N3 := Lib.hid (blk_new w3 #[.int .i64 0, .int .i64 0, .int .i64 0, .int .i64 0, .int .i64 0, .slice (none) 0 0] 26)
  have hzn : (w3.alloc (.cells #[.int .i64 0, .int .i64 0, .int .i64 0, .int .i64 0, .int .i64 0, .slice (none) 0 0] 26)).heap.size = w3.heap.size + 1 := by simp
  have HZN := Lib.hid hzn
  clear b3_ hzn a0 b0 a1 b1 a2 b2 a3 b3 a4 b4 a5 b5
  have a0 : ∀ o, (w3.alloc o).cell? ⟨w.heap.size, 0, none⟩ = some (.int .i64 i) := fun o => Lib.cell?_alloc_marked o (blk_cell (blk_below P0.out D3.out (by omega)) 0)
  have a1 : ∀ o, (w3.alloc o).cell? ⟨w.heap.size, 1, none⟩ = some (.int .i64 f) := fun o => Lib.cell?_alloc_marked o (blk_cell (blk_below P0.out D3.out (by omega)) 1)
  have a2 : ∀ o, (w3.alloc o).cell? ⟨w.heap.size, 2, none⟩ = some (.int .i64 t) := fun o => Lib.cell?_alloc_marked o (blk_cell (blk_below P0.out D3.out (by omega)) 2)
  have a3 : ∀ o, (w3.alloc o).cell? ⟨w.heap.size, 3, none⟩ = some (.int .i64 cp) := fun o => Lib.cell?_alloc_marked o (blk_cell (blk_below P0.out D3.out (by omega)) 3)
  have a4 : ∀ o, (w3.alloc o).cell? ⟨w.heap.size, 4, none⟩ = some (.int .i64 s) := fun o => Lib.cell?_alloc_marked o (blk_cell (blk_below P0.out D3.out (by omega)) 4)
  have a5 : ∀ o, (w3.alloc o).cell? ⟨w.heap.size, 5, none⟩ = some (.slice A n c) := fun o => Lib.cell?_alloc_marked o (blk_cell (blk_below P0.out D3.out (by omega)) 5)
  go_wp2_with fail
  refine (HTR.out _).mono ?_
  rintro e w4 ⟨rfl, b4_⟩
  have D4 := Lib.hid (D3a.out.trans (b4_.mono D3a.out.size))
  have N4 := Lib.hid (blk_below N3.out b4_ (by rw [HZN.out]; omega))
  clear b4_ a0 a1 a2 a3 a4 a5
  have a0 : w4.cell? ⟨w.heap.size, 0, none⟩ = some (.int .i64 i) := blk_cell (blk_below P0.out D4.out (by omega)) 0
  have a1 : w4.cell? ⟨w.heap.size, 1, none⟩ = some (.int .i64 f) := blk_cell (blk_below P0.out D4.out (by omega)) 1
  have a2 : w4.cell? ⟨w.heap.size, 2, none⟩ = some (.int .i64 t) := blk_cell (blk_below P0.out D4.out (by omega)) 2
  have a3 : w4.cell? ⟨w.heap.size, 3, none⟩ = some (.int .i64 cp) := blk_cell (blk_below P0.out D4.out (by omega)) 3
  have a4 : w4.cell? ⟨w.heap.size, 4, none⟩ = some (.int .i64 s) := blk_cell (blk_below P0.out D4.out (by omega)) 4
  have a5 : w4.cell? ⟨w.heap.size, 5, none⟩ = some (.slice A n c) := blk_cell (blk_below P0.out D4.out (by omega)) 5
  have b0 : w4.cell? ⟨w.heap.size + 1, 0, none⟩ = some (.int .i64 i2) := blk_cell (blk_below Q0.out D4.out (by omega)) 0
  have b1 : w4.cell? ⟨w.heap.size + 1, 1, none⟩ = some (.int .i64 f2) := blk_cell (blk_below Q0.out D4.out (by omega)) 1
  have b2 : w4.cell? ⟨w.heap.size + 1, 2, none⟩ = some (.int .i64 t2) := blk_cell (blk_below Q0.out D4.out (by omega)) 2
  have b3 : w4.cell? ⟨w.heap.size + 1, 3, none⟩ = some (.int .i64 cp2) := blk_cell (blk_below Q0.out D4.out (by omega)) 3
  have b4 : w4.cell? ⟨w.heap.size + 1, 4, none⟩ = some (.int .i64 s2) := blk_cell (blk_below Q0.out D4.out (by omega)) 4
  have b5 : w4.cell? ⟨w.heap.size + 1, 5, none⟩ = some (.slice B k d) := blk_cell (blk_below Q0.out D4.out (by omega)) 5
  have r0 : w4.cell? ⟨w3.heap.size, 0, none⟩ = some (.int .i64 0) := blk_cell N4.out 0
  have r1 : w4.cell? ⟨w3.heap.size, 1, none⟩ = some (.int .i64 0) := blk_cell N4.out 1
  have r2 : w4.cell? ⟨w3.heap.size, 2, none⟩ = some (.int .i64 0) := blk_cell N4.out 2
  have r3 : w4.cell? ⟨w3.heap.size, 3, none⟩ = some (.int .i64 0) := blk_cell N4.out 3
  have r4 : w4.cell? ⟨w3.heap.size, 4, none⟩ = some (.int .i64 0) := blk_cell N4.out 4
  have r5 : w4.cell? ⟨w3.heap.size, 5, none⟩ = some (.slice none 0 0) := blk_cell N4.out 5
  go_wp2_with fail
  have hk4 := D4.out.drew
  have HSALL := Lib.hid (show ∀ W', Below ((w.alloc (.cells #[.int .i64 i, .int .i64 f, .int .i64 t, .int .i64 cp, .int .i64 s, .slice (A) n c] 26)).alloc (.cells #[.int .i64 i2, .int .i64 f2, .int .i64 t2, .int .i64 cp2, .int .i64 s2, .slice (B) k d] 26)).heap.size ((w.alloc (.cells #[.int .i64 i, .int .i64 f, .int .i64 t, .int .i64 cp, .int .i64 s, .slice (A) n c] 26)).alloc (.cells #[.int .i64 i2, .int .i64 f2, .int .i64 t2, .int .i64 cp2, .int .i64 s2, .slice (B) k d] 26)) W' → (Below ((w.alloc (.cells #[.int .i64 i, .int .i64 f, .int .i64 t, .int .i64 cp, .int .i64 s, .slice (A) n c] 26)).alloc (.cells #[.int .i64 i2, .int .i64 f2, .int .i64 t2, .int .i64 cp2, .int .i64 s2, .slice (B) k d] 26)).heap.size ((w.alloc (.cells #[.int .i64 i, .int .i64 f, .int .i64 t, .int .i64 cp, .int .i64 s, .slice (A) n c] 26)).alloc (.cells #[.int .i64 i2, .int .i64 f2, .int .i64 t2, .int .i64 cp2, .int .i64 s2, .slice (B) k d] 26)) W' ∧ W'.cell? ⟨w.heap.size, 0, none⟩ = some (.int .i64 i) ∧ W'.cell? ⟨w.heap.size, 1, none⟩ = some (.int .i64 f) ∧ W'.cell? ⟨w.heap.size, 2, none⟩ = some (.int .i64 t) ∧ W'.cell? ⟨w.heap.size, 3, none⟩ = some (.int .i64 cp) ∧ W'.cell? ⟨w.heap.size, 4, none⟩ = some (.int .i64 s) ∧ W'.cell? ⟨w.heap.size, 5, none⟩ = some (.slice A n c) ∧ W'.cell? ⟨w.heap.size + 1, 0, none⟩ = some (.int .i64 i2) ∧ W'.cell? ⟨w.heap.size + 1, 1, none⟩ = some (.int .i64 f2) ∧ W'.cell? ⟨w.heap.size + 1, 2, none⟩ = some (.int .i64 t2) ∧ W'.cell? ⟨w.heap.size + 1, 3, none⟩ = some (.int .i64 cp2) ∧ W'.cell? ⟨w.heap.size + 1, 4, none⟩ = some (.int .i64 s2) ∧ W'.cell? ⟨w.heap.size + 1, 5, none⟩ = some (.slice B k d)) from fun W' hh => ⟨hh, blk_cell (blk_below P0.out hh (by omega)) 0, blk_cell (blk_below P0.out hh (by omega)) 1, blk_cell (blk_below P0.out hh (by omega)) 2, blk_cell (blk_below P0.out hh (by omega)) 3, blk_cell (blk_below P0.out hh (by omega)) 4, blk_cell (blk_below P0.out hh (by omega)) 5, blk_cell (blk_below Q0.out hh (by omega)) 0, blk_cell (blk_below Q0.out hh (by omega)) 1, blk_cell (blk_below Q0.out hh (by omega)) 2, blk_cell (blk_below Q0.out hh (by omega)) 3, blk_cell (blk_below Q0.out hh (by omega)) 4, blk_cell (blk_below Q0.out hh (by omega)) 5⟩)
  clear a0 b0 a1 b1 a2 b2 a3 b3 a4 b4 a5 b5 r0 r1 r2 r3 r4 r5
  go_region_held3 (fun w' => Below ((w.alloc (.cells #[.int .i64 i, .int .i64 f, .int .i64 t, .int .i64 cp, .int .i64 s, .slice (A) n c] 26)).alloc (.cells #[.int .i64 i2, .int .i64 f2, .int .i64 t2, .int .i64 cp2, .int .i64 s2, .slice (B) k d] 26)).heap.size ((w.alloc (.cells #[.int .i64 i, .int .i64 f, .int .i64 t, .int .i64 cp, .int .i64 s, .slice (A) n c] 26)).alloc (.cells #[.int .i64 i2, .int .i64 f2, .int .i64 t2, .int .i64 cp2, .int .i64 s2, .slice (B) k d] 26)) w' ∧ w'.cell? ⟨w.heap.size, 0, none⟩ = some (.int .i64 i) ∧ w'.cell? ⟨w.heap.size, 1, none⟩ = some (.int .i64 f) ∧ w'.cell? ⟨w.heap.size, 2, none⟩ = some (.int .i64 t) ∧ w'.cell? ⟨w.heap.size, 3, none⟩ = some (.int .i64 cp) ∧ w'.cell? ⟨w.heap.size, 4, none⟩ = some (.int .i64 s) ∧ w'.cell? ⟨w.heap.size, 5, none⟩ = some (.slice A n c) ∧ w'.cell? ⟨w.heap.size + 1, 0, none⟩ = some (.int .i64 i2) ∧ w'.cell? ⟨w.heap.size + 1, 1, none⟩ = some (.int .i64 f2) ∧ w'.cell? ⟨w.heap.size + 1, 2, none⟩ = some (.int .i64 t2) ∧ w'.cell? ⟨w.heap.size + 1, 3, none⟩ = some (.int .i64 cp2) ∧ w'.cell? ⟨w.heap.size + 1, 4, none⟩ = some (.int .i64 s2) ∧ w'.cell? ⟨w.heap.size + 1, 5, none⟩ = some (.slice B k d))
    (with_reducible (first | exact HSALL.out _ hk4 | exact HSALL.out _ (by assumption)))
    (first
      | ((with_reducible refine (HKA.out _ (by assumption)).mono ?_; rintro e w' ⟨rfl, hk⟩))
      | ((with_reducible refine (HKR.out _ (by assumption)).mono ?_; rintro e w' ⟨rfl, hk⟩))
      | ((with_reducible refine (HKM.out _ (by assumption)).mono ?_; rintro e w' ⟨rfl, hk⟩))
      | ((with_reducible refine (HKQ.out _ (by assumption)).mono ?_; rintro e w' ⟨rfl, hk⟩))
      | ((with_reducible refine (HKU.out _ (by assumption)).mono ?_; rintro e w' ⟨rfl, hk⟩))
      | ((with_reducible refine (HKS.out _ (by assumption)).mono ?_; rintro e w' ⟨rfl, hk⟩))
      | ((with_reducible refine (HKT.out _ (by assumption)).mono ?_; rintro e w' ⟨rfl, hk⟩))
      | ((with_reducible refine (HKW.out _ (by assumption)).mono ?_; rintro e w' ⟨rfl, hk⟩))
      | ((with_reducible refine (HKC.out _ (by assumption)).mono ?_; rintro e w' ⟨g9, c9, rfl, hr9, hk⟩))
      | ((with_reducible refine (HKE.out _ _ _ (by assumption) (by assumption)).mono ?_; rintro e w' ⟨rfl, hk⟩)))
  all_goals (go_wp2)
  all_goals (go_ret)
  all_goals exact ⟨rfl, hX.out.trans (Below.mono (by assumption) hX.out.size)⟩
theorem tells (l : List Ch) (x y : Ch) (la lb : List Msg) (Al : Option Addr) (cl : Nat) (A : Option Addr) (c : Nat) (B : Option Addr) (d : Nat) (_hcl : l.length ≤ cl) (_hml : cl ≤ maxLen) (_hA : A = none → c = 0) (_hc : la.length ≤ c) (_hB : B = none → d = 0) (_hd : lb.length ≤ d) (hLa : ∀ l ∈ la, l.length ≤ 140737488355328) (hLb : ∀ l ∈ lb, l.length ≤ 140737488355328) (w : World) (hl : Rd w Al (chCells l)) (ha : Rms w A la) (hb : Rms w B lb) :
    Calls Try.prog 8 #[.slice Al l.length cl, .agg (qcells x A la.length c), .agg (qcells y B lb.length d)] w fun e w' => e = .returned (.bool true) ∧ Below w.heap.size w w' := by
  obtain ⟨i, f, t, cp, s⟩ := x
  obtain ⟨i2, f2, t2, cp2, s2⟩ := y
  cases h1 : greatQ la with
  | true => exact tells1 i f t cp s i2 f2 t2 cp2 s2 A B la.length c lb.length d la lb rfl rfl hLa hLb Al l.length cl h1 w ha hb
  | false =>
    cases h2 : greatQ lb with
    | true => exact tells2 i f t cp s i2 f2 t2 cp2 s2 A B la.length c lb.length d la lb rfl rfl hLa hLb Al l.length cl h1 h2 w ha hb
    | false =>
      by_cases h0 : (20 : Int) < (l.length : Int)
      · exact tells3 i f t cp s i2 f2 t2 cp2 s2 A B la.length c lb.length d la lb rfl rfl hLa hLb Al l.length cl h1 h2 h0 w ha hb
      · cases h3 : mayC ⟨i, f, t, cp, s⟩ with
        | true => exact tells_may i f t cp s i2 f2 t2 cp2 s2 A B la.length c lb.length d la lb rfl rfl hLa hLb l Al l.length cl rfl h1 h2 (by omega) h3 w hl ha hb
        | false => exact tells_no i f t cp s i2 f2 t2 cp2 s2 A B la.length c lb.length d la lb rfl rfl hLa hLb l Al l.length cl rfl h1 h2 (by omega) h3 w hl ha hb
end Go.Proofs.Ytlmecndldclnnaa.chan
