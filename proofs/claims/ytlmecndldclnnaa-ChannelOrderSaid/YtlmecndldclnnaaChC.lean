/- Channels: a message more; no condition. -/
import Derived.Test.YtlmecndldclnnaaRows
import Derived.Test.YtlmecndldclnnaaChB
namespace Go.Proofs.Ytlmecndldclnnaa.chan
open Go Go.ChangeShapes Go.WideShapes Go.ChangeAt Go.RowKit Go.Proofs.Ytlmecndldclnnaa.rows
def ch0 : Ch := ⟨0, 0, 0, 0, 0⟩
/-- What a call tells of a queue: its channel, its messages in blocks of the call's own. -/
def QAt (lo hi : Nat) (w : World) (A : Option Addr) (c : Nat) (ls : List Msg) : Prop := ls.length ≤ c ∧ (A = none → c = 0) ∧ Own2 lo hi w A ls
theorem QAt.nil {lo hi : Nat} {w : World} : QAt lo hi w none 0 [] := ⟨Nat.le_refl _, fun _ => rfl, Own2.nil⟩
theorem own2_far {U : TypeId} {lo hi : Nat} {w : World} {A : Option Addr} {ls : List Msg} (h : Own2 lo hi w A ls) {g k : Nat} {cs : Array Value} (hg : w.heap[g]? = some (.cells cs U (0, 0))) (h1 : 27 ≠ U) (h2 : 5 ≠ U) (u : Value) : Own2 lo hi (w.setCell ⟨g, k, none⟩ u) A ls := by
  obtain ⟨vs, e1, e2, e3⟩ := h
  refine ⟨vs, e1, e2.far hg h1 u, fun j l hj => ?_⟩
  obtain ⟨A', c, k1, k2, k3, k4, k5⟩ := e3 j l hj
  exact ⟨A', c, k1, k2, k3, k4, k5.far hg h2 u⟩
theorem own2_far6 {lo hi : Nat} {w : World} {A : Option Addr} {ls : List Msg} (h : Own2 lo hi w A ls) {g : Nat} {cs : Array Value} (hg : w.heap[g]? = some (.cells cs 26 (0, 0))) (u0 u1 u2 u3 u4 u5 : Value) :
    Own2 lo hi ((((((w.setCell ⟨g, 0, none⟩ u0).setCell ⟨g, 1, none⟩ u1).setCell ⟨g, 2, none⟩ u2).setCell ⟨g, 3, none⟩ u3).setCell ⟨g, 4, none⟩ u4).setCell ⟨g, 5, none⟩ u5) A ls :=
  own2_far (own2_far (own2_far (own2_far (own2_far (own2_far h hg (by decide) (by decide) u0) (blk_set hg _ _) (by decide) (by decide) u1) (blk_set (blk_set hg _ _) _ _) (by decide) (by decide) u2) (blk_set (blk_set (blk_set hg _ _) _ _) _ _) (by decide) (by decide) u3) (blk_set (blk_set (blk_set (blk_set hg _ _) _ _) _ _) _ _) (by decide) (by decide) u4)
    (blk_set (blk_set (blk_set (blk_set (blk_set hg _ _) _ _) _ _) _ _) _ _) (by decide) (by decide) u5
theorem size6 (w : World) (g : Nat) (u0 u1 u2 u3 u4 u5 : Value) : ((((((w.setCell ⟨g, 0, none⟩ u0).setCell ⟨g, 1, none⟩ u1).setCell ⟨g, 2, none⟩ u2).setCell ⟨g, 3, none⟩ u3).setCell ⟨g, 4, none⟩ u4).setCell ⟨g, 5, none⟩ u5).heap.size = w.heap.size := by simp
def room (x : Ch) (ls : List Msg) : List Msg := if (ls.length : Int) = x.cap then ls.drop 1 else ls
def putR (x : Ch) (ls : List Msg) (m : Msg) : Ch × List Msg × Int :=
  if mayQ x ls = true then (if x.sz < (m.length : Int) then (ch0, [], 3) else (x, room x ls ++ [m], 0)) else (ch0, [], 2)
/-- A queue and an error's number, as they are told. -/
def QOut (r : Ch × List Msg × Int) (w : World) (e : Ending) (w' : World) : Prop :=
  ∃ A c, e = .returned (.tuple #[.agg (qcells r.1 A r.2.1.length c), .int .i64 r.2.2]) ∧ QAt w.heap.size w'.heap.size w' A c r.2.1 ∧ Below w.heap.size w w'
theorem QOut.none {r : Ch × List Msg × Int} {E : Int} (hr : r = (ch0, [], E)) {w w' : World} (h : Below w.heap.size w w') : QOut r w (.returned (.tuple #[.agg (qcells ⟨0, 0, 0, 0, 0⟩ none 0 0), .int .i64 E])) w' := by
  subst hr; exact ⟨Option.none, 0, rfl, QAt.nil, h⟩
theorem mayQ_yes {x : Ch} {ls : List Msg} (h : mayQ x ls = true) : mayC x = true ∧ (ls.length : Int) ≤ x.cap ∧ ∀ l ∈ ls, (l.length : Int) ≤ x.sz := by
  unfold mayQ at h
  simp only [Bool.and_eq_true, Bool.not_eq_true', List.any_eq_false, decide_eq_true_eq] at h
  exact ⟨h.1.1, h.1.2, fun l hl => by have := h.2 l hl; omega⟩
set_option maxHeartbeats 1000000 in
theorem put_arg (i f t cp s : Int) (A : Option Addr) (n c : Nat) (ls : List Msg) (hn : ls.length = n) (m : Msg) (Am : Option Addr) (mn cm : Nat) (hmn : m.length = mn) (h63 : n ≤ 1000000) (hq : mayQ ⟨i, f, t, cp, s⟩ ls = false)  (w : World) (h : Rms w A ls) :
    Calls Try.prog 11 #[.agg (qcells ⟨i, f, t, cp, s⟩ A n c), .slice Am mn cm] w (QOut (putR ⟨i, f, t, cp, s⟩ ls m) w) := by
  have g0 := Lib.hid (blk_alloc (blk_new w (qcells ⟨i, f, t, cp, s⟩ A n c) 26) (.cells (qcells ⟨0, 0, 0, 0, 0⟩ none 0 0) 26))
  have g1 := Lib.hid (show ((w.alloc (.cells (qcells ⟨i, f, t, cp, s⟩ A n c) 26)).alloc (.cells (qcells ⟨0, 0, 0, 0, 0⟩ none 0 0) 26)).heap[w.heap.size + 1]? = some (.cells (qcells ⟨0, 0, 0, 0, 0⟩ none 0 0) 26 (0, 0)) by
    have := blk_new (w.alloc (.cells (qcells ⟨i, f, t, cp, s⟩ A n c) 26)) (qcells ⟨0, 0, 0, 0, 0⟩ none 0 0) 26; simpa using this)
  have hsz : ((w.alloc (.cells (qcells ⟨i, f, t, cp, s⟩ A n c) 26)).alloc (.cells (qcells ⟨0, 0, 0, 0, 0⟩ none 0 0) 26)).heap.size = w.heap.size + 2 := by simp
  have hX : Below w.heap.size w ((w.alloc (.cells (qcells ⟨i, f, t, cp, s⟩ A n c) 26)).alloc (.cells (qcells ⟨0, 0, 0, 0, 0⟩ none 0 0) 26)) := ((Below.refl _ _).alloc (Nat.le_refl _) _).alloc (by simp) _
  have T := mayQueue ⟨i, f, t, cp, s⟩ A c ls (by omega) ((w.alloc (.cells (qcells ⟨i, f, t, cp, s⟩ A n c) 26)).alloc (.cells (qcells ⟨0, 0, 0, 0, 0⟩ none 0 0) 26)) (h.below hX)
  rw [hq, hn] at T
  have HV := Lib.hid (show putR ⟨i, f, t, cp, s⟩ ls m = (ch0, [], 2) by unfold putR; rw [hq]; rfl)
  have _ := hmn
  clear hmn
  dsimp only [qcells] at T hsz hX ⊢
  have HT := Lib.hid T; clear T h hq
  go_enter Try.func11, Try.ntmps11
  go_wp2_with fail
  refine HT.out.mono ?_
  rintro e w1 ⟨rfl, b1⟩
  have h0 := blk_below g0.out b1 (by omega); have h1 := blk_below g1.out b1 (by omega)
  have a10 : w1.cell? ⟨w.heap.size, 0, none⟩ = some (.int .i64 i) := blk_cell h0 0
  have a11 : w1.cell? ⟨w.heap.size, 1, none⟩ = some (.int .i64 f) := blk_cell h0 1
  have a12 : w1.cell? ⟨w.heap.size, 2, none⟩ = some (.int .i64 t) := blk_cell h0 2
  have a13 : w1.cell? ⟨w.heap.size, 3, none⟩ = some (.int .i64 cp) := blk_cell h0 3
  have a14 : w1.cell? ⟨w.heap.size, 4, none⟩ = some (.int .i64 s) := blk_cell h0 4
  have a15 : w1.cell? ⟨w.heap.size, 5, none⟩ = some (.slice A n c) := blk_cell h0 5
  have q10 : w1.cell? ⟨w.heap.size + 1, 0, none⟩ = some (.int .i64 0) := blk_cell h1 0
  have q11 : w1.cell? ⟨w.heap.size + 1, 1, none⟩ = some (.int .i64 0) := blk_cell h1 1
  have q12 : w1.cell? ⟨w.heap.size + 1, 2, none⟩ = some (.int .i64 0) := blk_cell h1 2
  have q13 : w1.cell? ⟨w.heap.size + 1, 3, none⟩ = some (.int .i64 0) := blk_cell h1 3
  have q14 : w1.cell? ⟨w.heap.size + 1, 4, none⟩ = some (.int .i64 0) := blk_cell h1 4
  have q15 : w1.cell? ⟨w.heap.size + 1, 5, none⟩ = some (.slice none 0 0) := blk_cell h1 5
  have f10 := blk_frozen h1 0
  have f11 := blk_frozen h1 1
  have f12 := blk_frozen h1 2
  have f13 := blk_frozen h1 3
  have f14 := blk_frozen h1 4
  have f15 := blk_frozen h1 5
  have H1 := Lib.hid h1
  have B1 := Lib.hid (hX.trans (b1.mono (by omega))); clear b1 h0 h1
  go_wp2
  exact ret_row_tmp rfl (w.heap.size + 1) 26 _ _ rfl (q_set H1.out rfl _ _ _ _ _ _) Try.underlying26 rfl (by kernel_rfl) rfl (QOut.none HV.out (q_below B1.out (by omega) _ _ _ _ _ _))
set_option maxHeartbeats 1000000 in
theorem put_long (i f t cp s : Int) (A : Option Addr) (n c : Nat) (ls : List Msg) (hn : ls.length = n) (m : Msg) (Am : Option Addr) (mn cm : Nat) (hmn : m.length = mn) (h63 : n ≤ 1000000) (hq : mayQ ⟨i, f, t, cp, s⟩ ls = true) (hl : s < (mn : Int)) (w : World) (h : Rms w A ls) :
    Calls Try.prog 11 #[.agg (qcells ⟨i, f, t, cp, s⟩ A n c), .slice Am mn cm] w (QOut (putR ⟨i, f, t, cp, s⟩ ls m) w) := by
  have g0 := Lib.hid (blk_alloc (blk_new w (qcells ⟨i, f, t, cp, s⟩ A n c) 26) (.cells (qcells ⟨0, 0, 0, 0, 0⟩ none 0 0) 26))
  have g1 := Lib.hid (show ((w.alloc (.cells (qcells ⟨i, f, t, cp, s⟩ A n c) 26)).alloc (.cells (qcells ⟨0, 0, 0, 0, 0⟩ none 0 0) 26)).heap[w.heap.size + 1]? = some (.cells (qcells ⟨0, 0, 0, 0, 0⟩ none 0 0) 26 (0, 0)) by
    have := blk_new (w.alloc (.cells (qcells ⟨i, f, t, cp, s⟩ A n c) 26)) (qcells ⟨0, 0, 0, 0, 0⟩ none 0 0) 26; simpa using this)
  have hsz : ((w.alloc (.cells (qcells ⟨i, f, t, cp, s⟩ A n c) 26)).alloc (.cells (qcells ⟨0, 0, 0, 0, 0⟩ none 0 0) 26)).heap.size = w.heap.size + 2 := by simp
  have hX : Below w.heap.size w ((w.alloc (.cells (qcells ⟨i, f, t, cp, s⟩ A n c) 26)).alloc (.cells (qcells ⟨0, 0, 0, 0, 0⟩ none 0 0) 26)) := ((Below.refl _ _).alloc (Nat.le_refl _) _).alloc (by simp) _
  have T := mayQueue ⟨i, f, t, cp, s⟩ A c ls (by omega) ((w.alloc (.cells (qcells ⟨i, f, t, cp, s⟩ A n c) 26)).alloc (.cells (qcells ⟨0, 0, 0, 0, 0⟩ none 0 0) 26)) (h.below hX)
  rw [hq, hn] at T
  have HV := Lib.hid (show putR ⟨i, f, t, cp, s⟩ ls m = (ch0, [], 3) by unfold putR; rw [hq, if_pos rfl, if_pos (by rw [hmn]; exact hl)])
  clear hmn
  dsimp only [qcells] at T hsz hX ⊢
  have HT := Lib.hid T; clear T h hq
  go_enter Try.func11, Try.ntmps11
  go_wp2_with fail
  refine HT.out.mono ?_
  rintro e w1 ⟨rfl, b1⟩
  have h0 := blk_below g0.out b1 (by omega); have h1 := blk_below g1.out b1 (by omega)
  have a10 : w1.cell? ⟨w.heap.size, 0, none⟩ = some (.int .i64 i) := blk_cell h0 0
  have a11 : w1.cell? ⟨w.heap.size, 1, none⟩ = some (.int .i64 f) := blk_cell h0 1
  have a12 : w1.cell? ⟨w.heap.size, 2, none⟩ = some (.int .i64 t) := blk_cell h0 2
  have a13 : w1.cell? ⟨w.heap.size, 3, none⟩ = some (.int .i64 cp) := blk_cell h0 3
  have a14 : w1.cell? ⟨w.heap.size, 4, none⟩ = some (.int .i64 s) := blk_cell h0 4
  have a15 : w1.cell? ⟨w.heap.size, 5, none⟩ = some (.slice A n c) := blk_cell h0 5
  have q10 : w1.cell? ⟨w.heap.size + 1, 0, none⟩ = some (.int .i64 0) := blk_cell h1 0
  have q11 : w1.cell? ⟨w.heap.size + 1, 1, none⟩ = some (.int .i64 0) := blk_cell h1 1
  have q12 : w1.cell? ⟨w.heap.size + 1, 2, none⟩ = some (.int .i64 0) := blk_cell h1 2
  have q13 : w1.cell? ⟨w.heap.size + 1, 3, none⟩ = some (.int .i64 0) := blk_cell h1 3
  have q14 : w1.cell? ⟨w.heap.size + 1, 4, none⟩ = some (.int .i64 0) := blk_cell h1 4
  have q15 : w1.cell? ⟨w.heap.size + 1, 5, none⟩ = some (.slice none 0 0) := blk_cell h1 5
  have f10 := blk_frozen h1 0
  have f11 := blk_frozen h1 1
  have f12 := blk_frozen h1 2
  have f13 := blk_frozen h1 3
  have f14 := blk_frozen h1 4
  have f15 := blk_frozen h1 5
  have H1 := Lib.hid h1
  have B1 := Lib.hid (hX.trans (b1.mono (by omega))); clear b1 h0 h1
  go_wp2
  exact ret_row_tmp rfl (w.heap.size + 1) 26 _ _ rfl (q_set H1.out rfl _ _ _ _ _ _) Try.underlying26 rfl (by kernel_rfl) rfl (QOut.none HV.out (q_below B1.out (by omega) _ _ _ _ _ _))
set_option maxRecDepth 100000 in
set_option maxHeartbeats 4000000 in
theorem put_e0 (i f t cp s : Int)  (ls : List Msg) (hn : ls.length = 0) (m : Msg) (Am : Option Addr) (mn cm : Nat) (hmn : m.length = mn) (hmA : Am = none → cm = 0) (hmc : mn ≤ cm) (hq : mayQ ⟨i, f, t, cp, s⟩ ls = true) (hl : (mn : Int) ≤ s) (hlt : 0 < cp) (w : World) (h : Rms w none ls) (hm : Rd w Am (bcs m)) :
    Calls Try.prog 11 #[.agg (qcells ⟨i, f, t, cp, s⟩ none 0 0), .slice Am mn cm] w (QOut (putR ⟨i, f, t, cp, s⟩ ls m) w) := by
  have g0 := Lib.hid (blk_alloc (blk_new w (qcells ⟨i, f, t, cp, s⟩ none 0 0) 26) (.cells (qcells ⟨0, 0, 0, 0, 0⟩ none 0 0) 26))
  have g1 := Lib.hid (show ((w.alloc (.cells (qcells ⟨i, f, t, cp, s⟩ none 0 0) 26)).alloc (.cells (qcells ⟨0, 0, 0, 0, 0⟩ none 0 0) 26)).heap[w.heap.size + 1]? = some (.cells (qcells ⟨0, 0, 0, 0, 0⟩ none 0 0) 26 (0, 0)) by
    have := blk_new (w.alloc (.cells (qcells ⟨i, f, t, cp, s⟩ none 0 0) 26)) (qcells ⟨0, 0, 0, 0, 0⟩ none 0 0) 26; simpa using this)
  have hsz : ((w.alloc (.cells (qcells ⟨i, f, t, cp, s⟩ none 0 0) 26)).alloc (.cells (qcells ⟨0, 0, 0, 0, 0⟩ none 0 0) 26)).heap.size = w.heap.size + 2 := by simp
  have hX : Below w.heap.size w ((w.alloc (.cells (qcells ⟨i, f, t, cp, s⟩ none 0 0) 26)).alloc (.cells (qcells ⟨0, 0, 0, 0, 0⟩ none 0 0) 26)) := ((Below.refl _ _).alloc (Nat.le_refl _) _).alloc (by simp) _
  have hy := mayQ_yes hq
  have hmay := mayC_iff.1 hy.1
  obtain ⟨_, hlen, hsz2⟩ := hy
  simp only at hmay hlen hsz2
  have hcp : cp ≤ 4 := by omega
  have hs16 : s ≤ 16 := by omega
  have T := mayQueue ⟨i, f, t, cp, s⟩ none 0 ls (by omega) ((w.alloc (.cells (qcells ⟨i, f, t, cp, s⟩ none 0 0) 26)).alloc (.cells (qcells ⟨0, 0, 0, 0, 0⟩ none 0 0) 26)) (h.below hX)
  rw [hq, hn] at T
  have HV := Lib.hid (show putR ⟨i, f, t, cp, s⟩ ls m = (⟨i, f, t, cp, s⟩, ls ++ [m], 0) by unfold putR; rw [hq, if_pos rfl, if_neg (by rw [hmn]; simp only; omega)]; unfold room; rw [if_neg (by simp only; omega)])
  have hLL : (ls).length = 0 := by omega
  have TC := fun (w : World) (h : Rms w none ls) => copied none 0 (ls) (by rw [hLL]; omega) (fun l hl => by have := hsz2 l (hl); omega) w (h)
  rw [hLL] at TC
  have TM := fun (w : World) (h : Rd w Am (bcs m)) => clone Am cm m hmA (by omega) (by omega) w h
  rw [hmn] at TM
  obtain ⟨i0, hi, hz0, hz1, hz2⟩ := info_parts info_row
  have e1 : ((0 : Int) == cp) = false := by rw [beq_eq_false_iff_ne]; omega
  have e2 : ¬ (0 : Int) = cp := by omega
  dsimp only [qcells] at T hsz hX ⊢
  have H := Lib.hid (h.below hX); have HMs := Lib.hid (hm.below hX)
  have HT := Lib.hid T; have HTC := Lib.hid TC; have HTM := Lib.hid TM; have HLL := Lib.hid hLL; have HMN := Lib.hid hmn; have HN := Lib.hid hn
  have hn4 : 0 ≤ 4 := by omega
  have nos : ¬ s < (mn : Int) := by omega
  clear T h hq TC TM hm hmn hmA hmc hLL hn hmay hlen hsz2 hs16
  go_enter Try.func11, Try.ntmps11
  go_wp2_with fail
  refine HT.out.mono ?_
  rintro e w1 ⟨rfl, b1⟩
  have h0 := blk_below g0.out b1 (by omega); have h1 := blk_below g1.out b1 (by omega)
  have a10 : w1.cell? ⟨w.heap.size, 0, none⟩ = some (.int .i64 i) := blk_cell h0 0
  have a11 : w1.cell? ⟨w.heap.size, 1, none⟩ = some (.int .i64 f) := blk_cell h0 1
  have a12 : w1.cell? ⟨w.heap.size, 2, none⟩ = some (.int .i64 t) := blk_cell h0 2
  have a13 : w1.cell? ⟨w.heap.size, 3, none⟩ = some (.int .i64 cp) := blk_cell h0 3
  have a14 : w1.cell? ⟨w.heap.size, 4, none⟩ = some (.int .i64 s) := blk_cell h0 4
  have a15 : w1.cell? ⟨w.heap.size, 5, none⟩ = some (.slice none 0 0) := blk_cell h0 5
  have q10 : w1.cell? ⟨w.heap.size + 1, 0, none⟩ = some (.int .i64 0) := blk_cell h1 0
  have q11 : w1.cell? ⟨w.heap.size + 1, 1, none⟩ = some (.int .i64 0) := blk_cell h1 1
  have q12 : w1.cell? ⟨w.heap.size + 1, 2, none⟩ = some (.int .i64 0) := blk_cell h1 2
  have q13 : w1.cell? ⟨w.heap.size + 1, 3, none⟩ = some (.int .i64 0) := blk_cell h1 3
  have q14 : w1.cell? ⟨w.heap.size + 1, 4, none⟩ = some (.int .i64 0) := blk_cell h1 4
  have q15 : w1.cell? ⟨w.heap.size + 1, 5, none⟩ = some (.slice none 0 0) := blk_cell h1 5
  have f10 := blk_frozen h1 0
  have f11 := blk_frozen h1 1
  have f12 := blk_frozen h1 2
  have f13 := blk_frozen h1 3
  have f14 := blk_frozen h1 4
  have f15 := blk_frozen h1 5
  have K0 := Lib.hid h0; have K1 := Lib.hid h1
  have H1 := Lib.hid (H.out.below b1); have HM1 := Lib.hid (HMs.out.below b1)
  have z1 : w.heap.size + 2 ≤ w1.heap.size := by have := b1.size; omega
  have B1 := Lib.hid (hX.trans (b1.mono (by omega))); clear b1 h0 h1
  go_wp2_with fail
  refine (HTC.out _ H1.out).mono ?_
  rintro e w2 ⟨v2, rfl, hg2, b2⟩
  clear a10 a11 a12 a13 a14 a15 q10 q11 q12 q13 q14 q15 f10 f11 f12 f13 f14 f15
  have G2 := Lib.hid hg2; have z2 := b2.size
  have HM2 := Lib.hid (HM1.out.below b2)
  have L0 := Lib.hid (blk_below K0.out b2 (by omega)); have L1 := Lib.hid (blk_below K1.out b2 (by omega))
  have B2 := Lib.hid (B1.out.trans (b2.mono (by omega)))
  clear hg2 b2
  obtain ⟨A2, c2, rfl, _, _, _, _⟩ := G2.out.form
  have hLL2 : (ls).length = 0 := HLL.out
  rw [hLL2] at G2 ⊢
  clear hLL2
  go_wp2_with fail
  refine (HTM.out _ HM2.out).mono ?_
  rintro e w3 ⟨v3, rfl, hv3⟩
  have hm3 := hv3.msg
  obtain ⟨Av, cv, rfl, _, _, _, _, b3⟩ := hv3
  have hmn2 : m.length = mn := HMN.out
  rw [hmn2] at hm3 ⊢
  clear hmn2
  have z3 := b3.size
  have G3 := Lib.hid ((G2.out.below b3).alloc (.cells #[.slice Av mn cv] 27))
  have hb3 := B2.out.trans (b3.mono (by omega))
  have B3 := Lib.hid (hb3.alloc hb3.size (.cells #[.slice Av mn cv] 27))
  have hm3' := (hm3.below ((Below.refl w3.heap.size w3).alloc (Nat.le_refl _) (.cells #[.slice Av mn cv] 27)) (Nat.le_refl _)).mono (show w1.heap.size ≤ w2.heap.size from z2) (show w3.heap.size ≤ (w3.alloc (.cells #[.slice Av mn cv] 27)).heap.size by simp)
  obtain ⟨vs, hown, hvl, hms⟩ := G3.out.own
  have M0 := Lib.hid (blk_alloc (blk_below L0.out b3 (by omega)) (.cells #[.slice Av mn cv] 27)); have M1 := Lib.hid (blk_alloc (blk_below L1.out b3 (by omega)) (.cells #[.slice Av mn cv] 27))
  have hle := HLL.out
  rw [hle] at hown hvl
  have HM3 := Lib.hid hm3'; have HMS := Lib.hid hms; have HVL := Lib.hid hvl; have HO := Lib.hid hown
  have zz : w1.heap.size ≤ (w3.alloc (.cells #[.slice Av mn cv] 27)).heap.size := by simp; omega
  clear hm3 hm3' hb3 hms hvl hle b3 hown G2 G3
  go_wp2_with (at_builtin; refine wpList_append_rd _ rfl (.tmp 38) (.tmp 41) 24 rfl w1.heap.size 27 i0 (.slice none 0 0) 1 24 Try.underlying24 hi hz0 hz1 hz2 rfl (by decide) _ (0) vs rfl HO.out _ 1 _ [.slice Av mn cv] rfl rfl (Rd.new _ _ _) ?c2 ?c3 ?c4 zz ?_)
  case c2 => intro u hu; simp at hu; subst hu; rfl
  case c3 => unfold maxLen; omega
  case c4 => omega
  intro v4 w4 hown4 hg4
  have hg44 : Grow w1.heap.size w4 v4 (ls ++ [m]) := Grow.snoc (by rw [HLL.out]; exact HO.out) (by rw [HLL.out]; exact HVL.out) HMS.out HM3.out (by rw [HLL.out]; exact hown4) hg4
  have hne0 : some w.heap.size ≠ (Value.slice A2 (0) c2).ownBlock := own_ne HO.out M0.out (by decide)
  have hne1 : some (w.heap.size + 1) ≠ (Value.slice A2 (0) c2).ownBlock := own_ne HO.out M1.out (by decide)
  have N0 := blk_grown M0.out hg4 hne0; have N1 := blk_grown M1.out hg4 hne1
  have hb4 : Below w.heap.size w w4 := B3.out.grown hg4 (by omega) (fun k hk => by have := (HO.out.lt k hk).1; omega)
  obtain ⟨A4, c4, rfl, l4, n4, _, o4⟩ := hg44.form
  have a40 : w4.cell? ⟨w.heap.size, 0, none⟩ = some (.int .i64 i) := blk_cell N0 0
  have a41 : w4.cell? ⟨w.heap.size, 1, none⟩ = some (.int .i64 f) := blk_cell N0 1
  have a42 : w4.cell? ⟨w.heap.size, 2, none⟩ = some (.int .i64 t) := blk_cell N0 2
  have a43 : w4.cell? ⟨w.heap.size, 3, none⟩ = some (.int .i64 cp) := blk_cell N0 3
  have a44 : w4.cell? ⟨w.heap.size, 4, none⟩ = some (.int .i64 s) := blk_cell N0 4
  have a45 : w4.cell? ⟨w.heap.size, 5, none⟩ = some (.slice none 0 0) := blk_cell N0 5
  have q40 : w4.cell? ⟨w.heap.size + 1, 0, none⟩ = some (.int .i64 0) := blk_cell N1 0
  have q41 : w4.cell? ⟨w.heap.size + 1, 1, none⟩ = some (.int .i64 0) := blk_cell N1 1
  have q42 : w4.cell? ⟨w.heap.size + 1, 2, none⟩ = some (.int .i64 0) := blk_cell N1 2
  have q43 : w4.cell? ⟨w.heap.size + 1, 3, none⟩ = some (.int .i64 0) := blk_cell N1 3
  have q44 : w4.cell? ⟨w.heap.size + 1, 4, none⟩ = some (.int .i64 0) := blk_cell N1 4
  have q45 : w4.cell? ⟨w.heap.size + 1, 5, none⟩ = some (.slice none 0 0) := blk_cell N1 5
  have f40 := blk_frozen N1 0
  have f41 := blk_frozen N1 1
  have f42 := blk_frozen N1 2
  have f43 := blk_frozen N1 3
  have f44 := blk_frozen N1 4
  have f45 := blk_frozen N1 5
  have g45 := blk_frozen N0 5
  have P0 := Lib.hid N0; have P1 := Lib.hid N1; have B4 := Lib.hid hb4; have O4 := Lib.hid o4; have L4 := Lib.hid (And.intro l4 n4)
  have hl1 : (ls ++ [m]).length = 0 + 1 := by rw [List.length_append, HLL.out]; rfl
  rw [hl1]
  have HL1 := Lib.hid hl1
  clear hown4 hg4 hg44 hne0 hne1 N0 N1 hb4 l4 n4 o4 hl1
  go_wp2
  have P1' := blk_far P1.out (p := ⟨w.heap.size, 5, none⟩) (show w.heap.size + 1 ≠ w.heap.size by omega) (.slice A4 (0 + 1) c4)
  refine ret_row_tmp rfl (w.heap.size + 1) 26 _ _ rfl (q_set P1' rfl _ _ _ _ _ _) Try.underlying26 rfl (by kernel_rfl) rfl ?_
  have hoo := own2_far6 (own2_far (k := 5) O4.out P0.out (by decide) (by decide) (.slice A4 (0 + 1) c4)) P1' (.int .i64 i) (.int .i64 f) (.int .i64 t) (.int .i64 cp) (.int .i64 s) (.slice A4 (0 + 1) c4)
  have hbb := q_below (g := w.heap.size + 1) (B4.out.setCell (p := ⟨w.heap.size, 5, none⟩) (Nat.le_refl _) (.slice A4 (0 + 1) c4)) (by omega) (.int .i64 i) (.int .i64 f) (.int .i64 t) (.int .i64 cp) (.int .i64 s) (.slice A4 (0 + 1) c4)
  rw [HV.out]
  exact ⟨A4, c4, by rw [show ((⟨i, f, t, cp, s⟩, ls ++ [m], (0 : Int)) : Ch × List Msg × Int).2.1.length = 0 + 1 from HL1.out]; rfl, ⟨L4.out.1, L4.out.2, hoo.mono (by omega) (by rw [size6]; simp)⟩, hbb⟩
set_option maxRecDepth 100000 in
set_option maxHeartbeats 4000000 in
theorem put_e1 (i f t cp s : Int) (ad : Addr) (c : Nat) (ls : List Msg) (hn : ls.length = 0) (m : Msg) (Am : Option Addr) (mn cm : Nat) (hmn : m.length = mn) (hmA : Am = none → cm = 0) (hmc : mn ≤ cm) (hq : mayQ ⟨i, f, t, cp, s⟩ ls = true) (hl : (mn : Int) ≤ s) (hlt : 0 < cp) (w : World) (h : Rms w (some ad) ls) (hm : Rd w Am (bcs m)) :
    Calls Try.prog 11 #[.agg (qcells ⟨i, f, t, cp, s⟩ (some ad) 0 c), .slice Am mn cm] w (QOut (putR ⟨i, f, t, cp, s⟩ ls m) w) := by
  have g0 := Lib.hid (blk_alloc (blk_new w (qcells ⟨i, f, t, cp, s⟩ (some ad) 0 c) 26) (.cells (qcells ⟨0, 0, 0, 0, 0⟩ none 0 0) 26))
  have g1 := Lib.hid (show ((w.alloc (.cells (qcells ⟨i, f, t, cp, s⟩ (some ad) 0 c) 26)).alloc (.cells (qcells ⟨0, 0, 0, 0, 0⟩ none 0 0) 26)).heap[w.heap.size + 1]? = some (.cells (qcells ⟨0, 0, 0, 0, 0⟩ none 0 0) 26 (0, 0)) by
    have := blk_new (w.alloc (.cells (qcells ⟨i, f, t, cp, s⟩ (some ad) 0 c) 26)) (qcells ⟨0, 0, 0, 0, 0⟩ none 0 0) 26; simpa using this)
  have hsz : ((w.alloc (.cells (qcells ⟨i, f, t, cp, s⟩ (some ad) 0 c) 26)).alloc (.cells (qcells ⟨0, 0, 0, 0, 0⟩ none 0 0) 26)).heap.size = w.heap.size + 2 := by simp
  have hX : Below w.heap.size w ((w.alloc (.cells (qcells ⟨i, f, t, cp, s⟩ (some ad) 0 c) 26)).alloc (.cells (qcells ⟨0, 0, 0, 0, 0⟩ none 0 0) 26)) := ((Below.refl _ _).alloc (Nat.le_refl _) _).alloc (by simp) _
  have hy := mayQ_yes hq
  have hmay := mayC_iff.1 hy.1
  obtain ⟨_, hlen, hsz2⟩ := hy
  simp only at hmay hlen hsz2
  have hcp : cp ≤ 4 := by omega
  have hs16 : s ≤ 16 := by omega
  have T := mayQueue ⟨i, f, t, cp, s⟩ (some ad) c ls (by omega) ((w.alloc (.cells (qcells ⟨i, f, t, cp, s⟩ (some ad) 0 c) 26)).alloc (.cells (qcells ⟨0, 0, 0, 0, 0⟩ none 0 0) 26)) (h.below hX)
  rw [hq, hn] at T
  have HV := Lib.hid (show putR ⟨i, f, t, cp, s⟩ ls m = (⟨i, f, t, cp, s⟩, ls ++ [m], 0) by unfold putR; rw [hq, if_pos rfl, if_neg (by rw [hmn]; simp only; omega)]; unfold room; rw [if_neg (by simp only; omega)])
  have hLL : (ls).length = 0 := by omega
  have TC := fun (w : World) (h : Rms w (some ad) ls) => copied (some ad) 0 (ls) (by rw [hLL]; omega) (fun l hl => by have := hsz2 l (hl); omega) w (h)
  rw [hLL] at TC
  have TM := fun (w : World) (h : Rd w Am (bcs m)) => clone Am cm m hmA (by omega) (by omega) w h
  rw [hmn] at TM
  obtain ⟨i0, hi, hz0, hz1, hz2⟩ := info_parts info_row
  have e1 : ((0 : Int) == cp) = false := by rw [beq_eq_false_iff_ne]; omega
  have e2 : ¬ (0 : Int) = cp := by omega
  have e3 : (0 : Int) ≤ (c : Int) := by omega
  dsimp only [qcells] at T hsz hX ⊢
  have H := Lib.hid (h.below hX); have HMs := Lib.hid (hm.below hX)
  have HT := Lib.hid T; have HTC := Lib.hid TC; have HTM := Lib.hid TM; have HLL := Lib.hid hLL; have HMN := Lib.hid hmn; have HN := Lib.hid hn
  have hn4 : 0 ≤ 4 := by omega
  have nos : ¬ s < (mn : Int) := by omega
  clear T h hq TC TM hm hmn hmA hmc hLL hn hmay hlen hsz2 hs16
  go_enter Try.func11, Try.ntmps11
  go_wp2_with fail
  refine HT.out.mono ?_
  rintro e w1 ⟨rfl, b1⟩
  have h0 := blk_below g0.out b1 (by omega); have h1 := blk_below g1.out b1 (by omega)
  have a10 : w1.cell? ⟨w.heap.size, 0, none⟩ = some (.int .i64 i) := blk_cell h0 0
  have a11 : w1.cell? ⟨w.heap.size, 1, none⟩ = some (.int .i64 f) := blk_cell h0 1
  have a12 : w1.cell? ⟨w.heap.size, 2, none⟩ = some (.int .i64 t) := blk_cell h0 2
  have a13 : w1.cell? ⟨w.heap.size, 3, none⟩ = some (.int .i64 cp) := blk_cell h0 3
  have a14 : w1.cell? ⟨w.heap.size, 4, none⟩ = some (.int .i64 s) := blk_cell h0 4
  have a15 : w1.cell? ⟨w.heap.size, 5, none⟩ = some (.slice (some ad) 0 c) := blk_cell h0 5
  have q10 : w1.cell? ⟨w.heap.size + 1, 0, none⟩ = some (.int .i64 0) := blk_cell h1 0
  have q11 : w1.cell? ⟨w.heap.size + 1, 1, none⟩ = some (.int .i64 0) := blk_cell h1 1
  have q12 : w1.cell? ⟨w.heap.size + 1, 2, none⟩ = some (.int .i64 0) := blk_cell h1 2
  have q13 : w1.cell? ⟨w.heap.size + 1, 3, none⟩ = some (.int .i64 0) := blk_cell h1 3
  have q14 : w1.cell? ⟨w.heap.size + 1, 4, none⟩ = some (.int .i64 0) := blk_cell h1 4
  have q15 : w1.cell? ⟨w.heap.size + 1, 5, none⟩ = some (.slice none 0 0) := blk_cell h1 5
  have f10 := blk_frozen h1 0
  have f11 := blk_frozen h1 1
  have f12 := blk_frozen h1 2
  have f13 := blk_frozen h1 3
  have f14 := blk_frozen h1 4
  have f15 := blk_frozen h1 5
  have K0 := Lib.hid h0; have K1 := Lib.hid h1
  have H1 := Lib.hid (H.out.below b1); have HM1 := Lib.hid (HMs.out.below b1)
  have z1 : w.heap.size + 2 ≤ w1.heap.size := by have := b1.size; omega
  have B1 := Lib.hid (hX.trans (b1.mono (by omega))); clear b1 h0 h1
  go_wp2_with fail
  refine (HTC.out _ H1.out).mono ?_
  rintro e w2 ⟨v2, rfl, hg2, b2⟩
  clear a10 a11 a12 a13 a14 a15 q10 q11 q12 q13 q14 q15 f10 f11 f12 f13 f14 f15
  have G2 := Lib.hid hg2; have z2 := b2.size
  have HM2 := Lib.hid (HM1.out.below b2)
  have L0 := Lib.hid (blk_below K0.out b2 (by omega)); have L1 := Lib.hid (blk_below K1.out b2 (by omega))
  have B2 := Lib.hid (B1.out.trans (b2.mono (by omega)))
  clear hg2 b2
  obtain ⟨A2, c2, rfl, _, _, _, _⟩ := G2.out.form
  have hLL2 : (ls).length = 0 := HLL.out
  rw [hLL2] at G2 ⊢
  clear hLL2
  go_wp2_with fail
  refine (HTM.out _ HM2.out).mono ?_
  rintro e w3 ⟨v3, rfl, hv3⟩
  have hm3 := hv3.msg
  obtain ⟨Av, cv, rfl, _, _, _, _, b3⟩ := hv3
  have hmn2 : m.length = mn := HMN.out
  rw [hmn2] at hm3 ⊢
  clear hmn2
  have z3 := b3.size
  have G3 := Lib.hid ((G2.out.below b3).alloc (.cells #[.slice Av mn cv] 27))
  have hb3 := B2.out.trans (b3.mono (by omega))
  have B3 := Lib.hid (hb3.alloc hb3.size (.cells #[.slice Av mn cv] 27))
  have hm3' := (hm3.below ((Below.refl w3.heap.size w3).alloc (Nat.le_refl _) (.cells #[.slice Av mn cv] 27)) (Nat.le_refl _)).mono (show w1.heap.size ≤ w2.heap.size from z2) (show w3.heap.size ≤ (w3.alloc (.cells #[.slice Av mn cv] 27)).heap.size by simp)
  obtain ⟨vs, hown, hvl, hms⟩ := G3.out.own
  have M0 := Lib.hid (blk_alloc (blk_below L0.out b3 (by omega)) (.cells #[.slice Av mn cv] 27)); have M1 := Lib.hid (blk_alloc (blk_below L1.out b3 (by omega)) (.cells #[.slice Av mn cv] 27))
  have hle := HLL.out
  rw [hle] at hown hvl
  have HM3 := Lib.hid hm3'; have HMS := Lib.hid hms; have HVL := Lib.hid hvl; have HO := Lib.hid hown
  have zz : w1.heap.size ≤ (w3.alloc (.cells #[.slice Av mn cv] 27)).heap.size := by simp; omega
  clear hm3 hm3' hb3 hms hvl hle b3 hown G2 G3
  go_wp2_with (at_builtin; refine wpList_append_rd _ rfl (.tmp 38) (.tmp 41) 24 rfl w1.heap.size 27 i0 (.slice none 0 0) 1 24 Try.underlying24 hi hz0 hz1 hz2 rfl (by decide) _ (0) vs rfl HO.out _ 1 _ [.slice Av mn cv] rfl rfl (Rd.new _ _ _) ?c2 ?c3 ?c4 zz ?_)
  case c2 => intro u hu; simp at hu; subst hu; rfl
  case c3 => unfold maxLen; omega
  case c4 => omega
  intro v4 w4 hown4 hg4
  have hg44 : Grow w1.heap.size w4 v4 (ls ++ [m]) := Grow.snoc (by rw [HLL.out]; exact HO.out) (by rw [HLL.out]; exact HVL.out) HMS.out HM3.out (by rw [HLL.out]; exact hown4) hg4
  have hne0 : some w.heap.size ≠ (Value.slice A2 (0) c2).ownBlock := own_ne HO.out M0.out (by decide)
  have hne1 : some (w.heap.size + 1) ≠ (Value.slice A2 (0) c2).ownBlock := own_ne HO.out M1.out (by decide)
  have N0 := blk_grown M0.out hg4 hne0; have N1 := blk_grown M1.out hg4 hne1
  have hb4 : Below w.heap.size w w4 := B3.out.grown hg4 (by omega) (fun k hk => by have := (HO.out.lt k hk).1; omega)
  obtain ⟨A4, c4, rfl, l4, n4, _, o4⟩ := hg44.form
  have a40 : w4.cell? ⟨w.heap.size, 0, none⟩ = some (.int .i64 i) := blk_cell N0 0
  have a41 : w4.cell? ⟨w.heap.size, 1, none⟩ = some (.int .i64 f) := blk_cell N0 1
  have a42 : w4.cell? ⟨w.heap.size, 2, none⟩ = some (.int .i64 t) := blk_cell N0 2
  have a43 : w4.cell? ⟨w.heap.size, 3, none⟩ = some (.int .i64 cp) := blk_cell N0 3
  have a44 : w4.cell? ⟨w.heap.size, 4, none⟩ = some (.int .i64 s) := blk_cell N0 4
  have a45 : w4.cell? ⟨w.heap.size, 5, none⟩ = some (.slice (some ad) 0 c) := blk_cell N0 5
  have q40 : w4.cell? ⟨w.heap.size + 1, 0, none⟩ = some (.int .i64 0) := blk_cell N1 0
  have q41 : w4.cell? ⟨w.heap.size + 1, 1, none⟩ = some (.int .i64 0) := blk_cell N1 1
  have q42 : w4.cell? ⟨w.heap.size + 1, 2, none⟩ = some (.int .i64 0) := blk_cell N1 2
  have q43 : w4.cell? ⟨w.heap.size + 1, 3, none⟩ = some (.int .i64 0) := blk_cell N1 3
  have q44 : w4.cell? ⟨w.heap.size + 1, 4, none⟩ = some (.int .i64 0) := blk_cell N1 4
  have q45 : w4.cell? ⟨w.heap.size + 1, 5, none⟩ = some (.slice none 0 0) := blk_cell N1 5
  have f40 := blk_frozen N1 0
  have f41 := blk_frozen N1 1
  have f42 := blk_frozen N1 2
  have f43 := blk_frozen N1 3
  have f44 := blk_frozen N1 4
  have f45 := blk_frozen N1 5
  have g45 := blk_frozen N0 5
  have P0 := Lib.hid N0; have P1 := Lib.hid N1; have B4 := Lib.hid hb4; have O4 := Lib.hid o4; have L4 := Lib.hid (And.intro l4 n4)
  have hl1 : (ls ++ [m]).length = 0 + 1 := by rw [List.length_append, HLL.out]; rfl
  rw [hl1]
  have HL1 := Lib.hid hl1
  clear hown4 hg4 hg44 hne0 hne1 N0 N1 hb4 l4 n4 o4 hl1
  go_wp2
  have P1' := blk_far P1.out (p := ⟨w.heap.size, 5, none⟩) (show w.heap.size + 1 ≠ w.heap.size by omega) (.slice A4 (0 + 1) c4)
  refine ret_row_tmp rfl (w.heap.size + 1) 26 _ _ rfl (q_set P1' rfl _ _ _ _ _ _) Try.underlying26 rfl (by kernel_rfl) rfl ?_
  have hoo := own2_far6 (own2_far (k := 5) O4.out P0.out (by decide) (by decide) (.slice A4 (0 + 1) c4)) P1' (.int .i64 i) (.int .i64 f) (.int .i64 t) (.int .i64 cp) (.int .i64 s) (.slice A4 (0 + 1) c4)
  have hbb := q_below (g := w.heap.size + 1) (B4.out.setCell (p := ⟨w.heap.size, 5, none⟩) (Nat.le_refl _) (.slice A4 (0 + 1) c4)) (by omega) (.int .i64 i) (.int .i64 f) (.int .i64 t) (.int .i64 cp) (.int .i64 s) (.slice A4 (0 + 1) c4)
  rw [HV.out]
  exact ⟨A4, c4, by rw [show ((⟨i, f, t, cp, s⟩, ls ++ [m], (0 : Int)) : Ch × List Msg × Int).2.1.length = 0 + 1 from HL1.out]; rfl, ⟨L4.out.1, L4.out.2, hoo.mono (by omega) (by rw [size6]; simp)⟩, hbb⟩
set_option maxRecDepth 100000 in
set_option maxHeartbeats 4000000 in
theorem put_lt (i f t cp s : Int) (b off n c : Nat) (hp : ¬ n = 0) (hnc : n ≤ c) (ls : List Msg) (hn : ls.length = n) (m : Msg) (Am : Option Addr) (mn cm : Nat) (hmn : m.length = mn) (hmA : Am = none → cm = 0) (hmc : mn ≤ cm) (hq : mayQ ⟨i, f, t, cp, s⟩ ls = true) (hl : (mn : Int) ≤ s) (hlt : (n : Int) < cp) (w : World) (h : Rms w (some ⟨b, off, none⟩) ls) (hm : Rd w Am (bcs m)) :
    Calls Try.prog 11 #[.agg (qcells ⟨i, f, t, cp, s⟩ (some ⟨b, off, none⟩) n c), .slice Am mn cm] w (QOut (putR ⟨i, f, t, cp, s⟩ ls m) w) := by
  have g0 := Lib.hid (blk_alloc (blk_new w (qcells ⟨i, f, t, cp, s⟩ (some ⟨b, off, none⟩) n c) 26) (.cells (qcells ⟨0, 0, 0, 0, 0⟩ none 0 0) 26))
  have g1 := Lib.hid (show ((w.alloc (.cells (qcells ⟨i, f, t, cp, s⟩ (some ⟨b, off, none⟩) n c) 26)).alloc (.cells (qcells ⟨0, 0, 0, 0, 0⟩ none 0 0) 26)).heap[w.heap.size + 1]? = some (.cells (qcells ⟨0, 0, 0, 0, 0⟩ none 0 0) 26 (0, 0)) by
    have := blk_new (w.alloc (.cells (qcells ⟨i, f, t, cp, s⟩ (some ⟨b, off, none⟩) n c) 26)) (qcells ⟨0, 0, 0, 0, 0⟩ none 0 0) 26; simpa using this)
  have hsz : ((w.alloc (.cells (qcells ⟨i, f, t, cp, s⟩ (some ⟨b, off, none⟩) n c) 26)).alloc (.cells (qcells ⟨0, 0, 0, 0, 0⟩ none 0 0) 26)).heap.size = w.heap.size + 2 := by simp
  have hX : Below w.heap.size w ((w.alloc (.cells (qcells ⟨i, f, t, cp, s⟩ (some ⟨b, off, none⟩) n c) 26)).alloc (.cells (qcells ⟨0, 0, 0, 0, 0⟩ none 0 0) 26)) := ((Below.refl _ _).alloc (Nat.le_refl _) _).alloc (by simp) _
  have hy := mayQ_yes hq
  have hmay := mayC_iff.1 hy.1
  obtain ⟨_, hlen, hsz2⟩ := hy
  simp only at hmay hlen hsz2
  have hcp : cp ≤ 4 := by omega
  have hs16 : s ≤ 16 := by omega
  have T := mayQueue ⟨i, f, t, cp, s⟩ (some ⟨b, off, none⟩) c ls (by omega) ((w.alloc (.cells (qcells ⟨i, f, t, cp, s⟩ (some ⟨b, off, none⟩) n c) 26)).alloc (.cells (qcells ⟨0, 0, 0, 0, 0⟩ none 0 0) 26)) (h.below hX)
  rw [hq, hn] at T
  have HV := Lib.hid (show putR ⟨i, f, t, cp, s⟩ ls m = (⟨i, f, t, cp, s⟩, ls ++ [m], 0) by unfold putR; rw [hq, if_pos rfl, if_neg (by rw [hmn]; simp only; omega)]; unfold room; rw [if_neg (by simp only; omega)])
  have hLL : (ls).length = n := by omega
  have TC := fun (w : World) (h : Rms w (some ⟨b, off, none⟩) ls) => copied (some ⟨b, off, none⟩) n (ls) (by rw [hLL]; omega) (fun l hl => by have := hsz2 l (hl); omega) w (h)
  rw [hLL] at TC
  have TM := fun (w : World) (h : Rd w Am (bcs m)) => clone Am cm m hmA (by omega) (by omega) w h
  rw [hmn] at TM
  obtain ⟨i0, hi, hz0, hz1, hz2⟩ := info_parts info_row
  have e1 : ((n : Int) == cp) = false := by rw [beq_eq_false_iff_ne]; omega
  have e2 : ¬ (n : Int) = cp := by omega
  have e3 : (n : Int) ≤ (c : Int) := by omega
  dsimp only [qcells] at T hsz hX ⊢
  have H := Lib.hid (h.below hX); have HMs := Lib.hid (hm.below hX)
  have HT := Lib.hid T; have HTC := Lib.hid TC; have HTM := Lib.hid TM; have HLL := Lib.hid hLL; have HMN := Lib.hid hmn; have HN := Lib.hid hn
  have hn4 : n ≤ 4 := by omega
  have nos : ¬ s < (mn : Int) := by omega
  clear T h hq TC TM hm hmn hmA hmc hLL hn hmay hlen hsz2 hs16
  go_enter Try.func11, Try.ntmps11
  go_wp2_with fail
  refine HT.out.mono ?_
  rintro e w1 ⟨rfl, b1⟩
  have h0 := blk_below g0.out b1 (by omega); have h1 := blk_below g1.out b1 (by omega)
  have a10 : w1.cell? ⟨w.heap.size, 0, none⟩ = some (.int .i64 i) := blk_cell h0 0
  have a11 : w1.cell? ⟨w.heap.size, 1, none⟩ = some (.int .i64 f) := blk_cell h0 1
  have a12 : w1.cell? ⟨w.heap.size, 2, none⟩ = some (.int .i64 t) := blk_cell h0 2
  have a13 : w1.cell? ⟨w.heap.size, 3, none⟩ = some (.int .i64 cp) := blk_cell h0 3
  have a14 : w1.cell? ⟨w.heap.size, 4, none⟩ = some (.int .i64 s) := blk_cell h0 4
  have a15 : w1.cell? ⟨w.heap.size, 5, none⟩ = some (.slice (some ⟨b, off, none⟩) n c) := blk_cell h0 5
  have q10 : w1.cell? ⟨w.heap.size + 1, 0, none⟩ = some (.int .i64 0) := blk_cell h1 0
  have q11 : w1.cell? ⟨w.heap.size + 1, 1, none⟩ = some (.int .i64 0) := blk_cell h1 1
  have q12 : w1.cell? ⟨w.heap.size + 1, 2, none⟩ = some (.int .i64 0) := blk_cell h1 2
  have q13 : w1.cell? ⟨w.heap.size + 1, 3, none⟩ = some (.int .i64 0) := blk_cell h1 3
  have q14 : w1.cell? ⟨w.heap.size + 1, 4, none⟩ = some (.int .i64 0) := blk_cell h1 4
  have q15 : w1.cell? ⟨w.heap.size + 1, 5, none⟩ = some (.slice none 0 0) := blk_cell h1 5
  have f10 := blk_frozen h1 0
  have f11 := blk_frozen h1 1
  have f12 := blk_frozen h1 2
  have f13 := blk_frozen h1 3
  have f14 := blk_frozen h1 4
  have f15 := blk_frozen h1 5
  have K0 := Lib.hid h0; have K1 := Lib.hid h1
  have H1 := Lib.hid (H.out.below b1); have HM1 := Lib.hid (HMs.out.below b1)
  have z1 : w.heap.size + 2 ≤ w1.heap.size := by have := b1.size; omega
  have B1 := Lib.hid (hX.trans (b1.mono (by omega))); clear b1 h0 h1
  go_wp2_with fail
  refine (HTC.out _ H1.out).mono ?_
  rintro e w2 ⟨v2, rfl, hg2, b2⟩
  clear a10 a11 a12 a13 a14 a15 q10 q11 q12 q13 q14 q15 f10 f11 f12 f13 f14 f15
  have G2 := Lib.hid hg2; have z2 := b2.size
  have HM2 := Lib.hid (HM1.out.below b2)
  have L0 := Lib.hid (blk_below K0.out b2 (by omega)); have L1 := Lib.hid (blk_below K1.out b2 (by omega))
  have B2 := Lib.hid (B1.out.trans (b2.mono (by omega)))
  clear hg2 b2
  obtain ⟨A2, c2, rfl, _, _, _, _⟩ := G2.out.form
  have hLL2 : (ls).length = n := HLL.out
  rw [hLL2] at G2 ⊢
  clear hLL2
  go_wp2_with fail
  refine (HTM.out _ HM2.out).mono ?_
  rintro e w3 ⟨v3, rfl, hv3⟩
  have hm3 := hv3.msg
  obtain ⟨Av, cv, rfl, _, _, _, _, b3⟩ := hv3
  have hmn2 : m.length = mn := HMN.out
  rw [hmn2] at hm3 ⊢
  clear hmn2
  have z3 := b3.size
  have G3 := Lib.hid ((G2.out.below b3).alloc (.cells #[.slice Av mn cv] 27))
  have hb3 := B2.out.trans (b3.mono (by omega))
  have B3 := Lib.hid (hb3.alloc hb3.size (.cells #[.slice Av mn cv] 27))
  have hm3' := (hm3.below ((Below.refl w3.heap.size w3).alloc (Nat.le_refl _) (.cells #[.slice Av mn cv] 27)) (Nat.le_refl _)).mono (show w1.heap.size ≤ w2.heap.size from z2) (show w3.heap.size ≤ (w3.alloc (.cells #[.slice Av mn cv] 27)).heap.size by simp)
  obtain ⟨vs, hown, hvl, hms⟩ := G3.out.own
  have M0 := Lib.hid (blk_alloc (blk_below L0.out b3 (by omega)) (.cells #[.slice Av mn cv] 27)); have M1 := Lib.hid (blk_alloc (blk_below L1.out b3 (by omega)) (.cells #[.slice Av mn cv] 27))
  have hle := HLL.out
  rw [hle] at hown hvl
  have HM3 := Lib.hid hm3'; have HMS := Lib.hid hms; have HVL := Lib.hid hvl; have HO := Lib.hid hown
  have zz : w1.heap.size ≤ (w3.alloc (.cells #[.slice Av mn cv] 27)).heap.size := by simp; omega
  clear hm3 hm3' hb3 hms hvl hle b3 hown G2 G3
  go_wp2_with (at_builtin; refine wpList_append_rd _ rfl (.tmp 38) (.tmp 41) 24 rfl w1.heap.size 27 i0 (.slice none 0 0) 1 24 Try.underlying24 hi hz0 hz1 hz2 rfl (by decide) _ (n) vs rfl HO.out _ 1 _ [.slice Av mn cv] rfl rfl (Rd.new _ _ _) ?c2 ?c3 ?c4 zz ?_)
  case c2 => intro u hu; simp at hu; subst hu; rfl
  case c3 => unfold maxLen; omega
  case c4 => omega
  intro v4 w4 hown4 hg4
  have hg44 : Grow w1.heap.size w4 v4 (ls ++ [m]) := Grow.snoc (by rw [HLL.out]; exact HO.out) (by rw [HLL.out]; exact HVL.out) HMS.out HM3.out (by rw [HLL.out]; exact hown4) hg4
  have hne0 : some w.heap.size ≠ (Value.slice A2 (n) c2).ownBlock := own_ne HO.out M0.out (by decide)
  have hne1 : some (w.heap.size + 1) ≠ (Value.slice A2 (n) c2).ownBlock := own_ne HO.out M1.out (by decide)
  have N0 := blk_grown M0.out hg4 hne0; have N1 := blk_grown M1.out hg4 hne1
  have hb4 : Below w.heap.size w w4 := B3.out.grown hg4 (by omega) (fun k hk => by have := (HO.out.lt k hk).1; omega)
  obtain ⟨A4, c4, rfl, l4, n4, _, o4⟩ := hg44.form
  have a40 : w4.cell? ⟨w.heap.size, 0, none⟩ = some (.int .i64 i) := blk_cell N0 0
  have a41 : w4.cell? ⟨w.heap.size, 1, none⟩ = some (.int .i64 f) := blk_cell N0 1
  have a42 : w4.cell? ⟨w.heap.size, 2, none⟩ = some (.int .i64 t) := blk_cell N0 2
  have a43 : w4.cell? ⟨w.heap.size, 3, none⟩ = some (.int .i64 cp) := blk_cell N0 3
  have a44 : w4.cell? ⟨w.heap.size, 4, none⟩ = some (.int .i64 s) := blk_cell N0 4
  have a45 : w4.cell? ⟨w.heap.size, 5, none⟩ = some (.slice (some ⟨b, off, none⟩) n c) := blk_cell N0 5
  have q40 : w4.cell? ⟨w.heap.size + 1, 0, none⟩ = some (.int .i64 0) := blk_cell N1 0
  have q41 : w4.cell? ⟨w.heap.size + 1, 1, none⟩ = some (.int .i64 0) := blk_cell N1 1
  have q42 : w4.cell? ⟨w.heap.size + 1, 2, none⟩ = some (.int .i64 0) := blk_cell N1 2
  have q43 : w4.cell? ⟨w.heap.size + 1, 3, none⟩ = some (.int .i64 0) := blk_cell N1 3
  have q44 : w4.cell? ⟨w.heap.size + 1, 4, none⟩ = some (.int .i64 0) := blk_cell N1 4
  have q45 : w4.cell? ⟨w.heap.size + 1, 5, none⟩ = some (.slice none 0 0) := blk_cell N1 5
  have f40 := blk_frozen N1 0
  have f41 := blk_frozen N1 1
  have f42 := blk_frozen N1 2
  have f43 := blk_frozen N1 3
  have f44 := blk_frozen N1 4
  have f45 := blk_frozen N1 5
  have g45 := blk_frozen N0 5
  have P0 := Lib.hid N0; have P1 := Lib.hid N1; have B4 := Lib.hid hb4; have O4 := Lib.hid o4; have L4 := Lib.hid (And.intro l4 n4)
  have hl1 : (ls ++ [m]).length = n + 1 := by rw [List.length_append, HLL.out]; rfl
  rw [hl1]
  have HL1 := Lib.hid hl1
  clear hown4 hg4 hg44 hne0 hne1 N0 N1 hb4 l4 n4 o4 hl1
  go_wp2
  have P1' := blk_far P1.out (p := ⟨w.heap.size, 5, none⟩) (show w.heap.size + 1 ≠ w.heap.size by omega) (.slice A4 (n + 1) c4)
  refine ret_row_tmp rfl (w.heap.size + 1) 26 _ _ rfl (q_set P1' rfl _ _ _ _ _ _) Try.underlying26 rfl (by kernel_rfl) rfl ?_
  have hoo := own2_far6 (own2_far (k := 5) O4.out P0.out (by decide) (by decide) (.slice A4 (n + 1) c4)) P1' (.int .i64 i) (.int .i64 f) (.int .i64 t) (.int .i64 cp) (.int .i64 s) (.slice A4 (n + 1) c4)
  have hbb := q_below (g := w.heap.size + 1) (B4.out.setCell (p := ⟨w.heap.size, 5, none⟩) (Nat.le_refl _) (.slice A4 (n + 1) c4)) (by omega) (.int .i64 i) (.int .i64 f) (.int .i64 t) (.int .i64 cp) (.int .i64 s) (.slice A4 (n + 1) c4)
  rw [HV.out]
  exact ⟨A4, c4, by rw [show ((⟨i, f, t, cp, s⟩, ls ++ [m], (0 : Int)) : Ch × List Msg × Int).2.1.length = n + 1 from HL1.out]; rfl, ⟨L4.out.1, L4.out.2, hoo.mono (by omega) (by rw [size6]; simp)⟩, hbb⟩
set_option maxRecDepth 100000 in
set_option maxHeartbeats 4000000 in
theorem put_one (i f t cp s : Int) (b off c : Nat) (hnc : 1 ≤ c) (ls : List Msg) (hn : ls.length = 1) (m : Msg) (Am : Option Addr) (mn cm : Nat) (hmn : m.length = mn) (hmA : Am = none → cm = 0) (hmc : mn ≤ cm) (hq : mayQ ⟨i, f, t, cp, s⟩ ls = true) (hl : (mn : Int) ≤ s) (hlt : 1 = cp) (w : World) (h : Rms w (some ⟨b, off, none⟩) ls) (hm : Rd w Am (bcs m)) :
    Calls Try.prog 11 #[.agg (qcells ⟨i, f, t, cp, s⟩ (some ⟨b, off, none⟩) 1 c), .slice Am mn cm] w (QOut (putR ⟨i, f, t, cp, s⟩ ls m) w) := by
  have g0 := Lib.hid (blk_alloc (blk_new w (qcells ⟨i, f, t, cp, s⟩ (some ⟨b, off, none⟩) 1 c) 26) (.cells (qcells ⟨0, 0, 0, 0, 0⟩ none 0 0) 26))
  have g1 := Lib.hid (show ((w.alloc (.cells (qcells ⟨i, f, t, cp, s⟩ (some ⟨b, off, none⟩) 1 c) 26)).alloc (.cells (qcells ⟨0, 0, 0, 0, 0⟩ none 0 0) 26)).heap[w.heap.size + 1]? = some (.cells (qcells ⟨0, 0, 0, 0, 0⟩ none 0 0) 26 (0, 0)) by
    have := blk_new (w.alloc (.cells (qcells ⟨i, f, t, cp, s⟩ (some ⟨b, off, none⟩) 1 c) 26)) (qcells ⟨0, 0, 0, 0, 0⟩ none 0 0) 26; simpa using this)
  have hsz : ((w.alloc (.cells (qcells ⟨i, f, t, cp, s⟩ (some ⟨b, off, none⟩) 1 c) 26)).alloc (.cells (qcells ⟨0, 0, 0, 0, 0⟩ none 0 0) 26)).heap.size = w.heap.size + 2 := by simp
  have hX : Below w.heap.size w ((w.alloc (.cells (qcells ⟨i, f, t, cp, s⟩ (some ⟨b, off, none⟩) 1 c) 26)).alloc (.cells (qcells ⟨0, 0, 0, 0, 0⟩ none 0 0) 26)) := ((Below.refl _ _).alloc (Nat.le_refl _) _).alloc (by simp) _
  have hy := mayQ_yes hq
  have hmay := mayC_iff.1 hy.1
  obtain ⟨_, hlen, hsz2⟩ := hy
  simp only at hmay hlen hsz2
  have hcp : cp ≤ 4 := by omega
  have hs16 : s ≤ 16 := by omega
  have T := mayQueue ⟨i, f, t, cp, s⟩ (some ⟨b, off, none⟩) c ls (by omega) ((w.alloc (.cells (qcells ⟨i, f, t, cp, s⟩ (some ⟨b, off, none⟩) 1 c) 26)).alloc (.cells (qcells ⟨0, 0, 0, 0, 0⟩ none 0 0) 26)) (h.below hX)
  rw [hq, hn] at T
  have HV := Lib.hid (show putR ⟨i, f, t, cp, s⟩ ls m = (⟨i, f, t, cp, s⟩, (ls.drop 1) ++ [m], 0) by unfold putR; rw [hq, if_pos rfl, if_neg (by rw [hmn]; simp only; omega)]; unfold room; rw [if_pos (by simp only; omega)])
  have hLL : ((ls.drop 1)).length = 0 := by simp; omega
  have TC := fun (w : World) (h : Rms w (some ⟨b, off, none⟩) ls) => copied (some ⟨b, off, none⟩) 0 ((ls.drop 1)) (by rw [hLL]; omega) (fun l hl => by have := hsz2 l (List.mem_of_mem_drop hl); omega) w (by rw [show ls.drop 1 = [] from List.drop_eq_nil_of_le (by omega)]; exact Rms.nil)
  rw [hLL] at TC
  have TM := fun (w : World) (h : Rd w Am (bcs m)) => clone Am cm m hmA (by omega) (by omega) w h
  rw [hmn] at TM
  obtain ⟨i0, hi, hz0, hz1, hz2⟩ := info_parts info_row
  have e1 : ((1 : Int) == cp) = true := by rw [beq_iff_eq]; exact hlt
  have e3 : (1 : Int) ≤ (c : Int) := by omega
  have hlt' := Lib.hid hlt; clear hlt
  dsimp only [qcells] at T hsz hX ⊢
  have H := Lib.hid (h.below hX); have HMs := Lib.hid (hm.below hX)
  have HT := Lib.hid T; have HTC := Lib.hid TC; have HTM := Lib.hid TM; have HLL := Lib.hid hLL; have HMN := Lib.hid hmn; have HN := Lib.hid hn
  have hn4 : 1 ≤ 4 := by omega
  have nos : ¬ s < (mn : Int) := by omega
  clear T h hq TC TM hm hmn hmA hmc hLL hn hmay hlen hsz2 hs16
  go_enter Try.func11, Try.ntmps11
  go_wp2_with fail
  refine HT.out.mono ?_
  rintro e w1 ⟨rfl, b1⟩
  have h0 := blk_below g0.out b1 (by omega); have h1 := blk_below g1.out b1 (by omega)
  have a10 : w1.cell? ⟨w.heap.size, 0, none⟩ = some (.int .i64 i) := blk_cell h0 0
  have a11 : w1.cell? ⟨w.heap.size, 1, none⟩ = some (.int .i64 f) := blk_cell h0 1
  have a12 : w1.cell? ⟨w.heap.size, 2, none⟩ = some (.int .i64 t) := blk_cell h0 2
  have a13 : w1.cell? ⟨w.heap.size, 3, none⟩ = some (.int .i64 cp) := blk_cell h0 3
  have a14 : w1.cell? ⟨w.heap.size, 4, none⟩ = some (.int .i64 s) := blk_cell h0 4
  have a15 : w1.cell? ⟨w.heap.size, 5, none⟩ = some (.slice (some ⟨b, off, none⟩) 1 c) := blk_cell h0 5
  have q10 : w1.cell? ⟨w.heap.size + 1, 0, none⟩ = some (.int .i64 0) := blk_cell h1 0
  have q11 : w1.cell? ⟨w.heap.size + 1, 1, none⟩ = some (.int .i64 0) := blk_cell h1 1
  have q12 : w1.cell? ⟨w.heap.size + 1, 2, none⟩ = some (.int .i64 0) := blk_cell h1 2
  have q13 : w1.cell? ⟨w.heap.size + 1, 3, none⟩ = some (.int .i64 0) := blk_cell h1 3
  have q14 : w1.cell? ⟨w.heap.size + 1, 4, none⟩ = some (.int .i64 0) := blk_cell h1 4
  have q15 : w1.cell? ⟨w.heap.size + 1, 5, none⟩ = some (.slice none 0 0) := blk_cell h1 5
  have f10 := blk_frozen h1 0
  have f11 := blk_frozen h1 1
  have f12 := blk_frozen h1 2
  have f13 := blk_frozen h1 3
  have f14 := blk_frozen h1 4
  have f15 := blk_frozen h1 5
  have K0 := Lib.hid h0; have K1 := Lib.hid h1
  have H1 := Lib.hid (H.out.below b1); have HM1 := Lib.hid (HMs.out.below b1)
  have z1 : w.heap.size + 2 ≤ w1.heap.size := by have := b1.size; omega
  have B1 := Lib.hid (hX.trans (b1.mono (by omega))); clear b1 h0 h1
  go_wp2_with fail
  refine (HTC.out _ H1.out).mono ?_
  rintro e w2 ⟨v2, rfl, hg2, b2⟩
  clear a10 a11 a12 a13 a14 a15 q10 q11 q12 q13 q14 q15 f10 f11 f12 f13 f14 f15
  have G2 := Lib.hid hg2; have z2 := b2.size
  have HM2 := Lib.hid (HM1.out.below b2)
  have L0 := Lib.hid (blk_below K0.out b2 (by omega)); have L1 := Lib.hid (blk_below K1.out b2 (by omega))
  have B2 := Lib.hid (B1.out.trans (b2.mono (by omega)))
  clear hg2 b2
  obtain ⟨A2, c2, rfl, _, _, _, _⟩ := G2.out.form
  have hLL2 : ((ls.drop 1)).length = 0 := HLL.out
  rw [hLL2] at G2 ⊢
  clear hLL2
  go_wp2_with fail
  refine (HTM.out _ HM2.out).mono ?_
  rintro e w3 ⟨v3, rfl, hv3⟩
  have hm3 := hv3.msg
  obtain ⟨Av, cv, rfl, _, _, _, _, b3⟩ := hv3
  have hmn2 : m.length = mn := HMN.out
  rw [hmn2] at hm3 ⊢
  clear hmn2
  have z3 := b3.size
  have G3 := Lib.hid ((G2.out.below b3).alloc (.cells #[.slice Av mn cv] 27))
  have hb3 := B2.out.trans (b3.mono (by omega))
  have B3 := Lib.hid (hb3.alloc hb3.size (.cells #[.slice Av mn cv] 27))
  have hm3' := (hm3.below ((Below.refl w3.heap.size w3).alloc (Nat.le_refl _) (.cells #[.slice Av mn cv] 27)) (Nat.le_refl _)).mono (show w1.heap.size ≤ w2.heap.size from z2) (show w3.heap.size ≤ (w3.alloc (.cells #[.slice Av mn cv] 27)).heap.size by simp)
  obtain ⟨vs, hown, hvl, hms⟩ := G3.out.own
  have M0 := Lib.hid (blk_alloc (blk_below L0.out b3 (by omega)) (.cells #[.slice Av mn cv] 27)); have M1 := Lib.hid (blk_alloc (blk_below L1.out b3 (by omega)) (.cells #[.slice Av mn cv] 27))
  have hle := HLL.out
  rw [hle] at hown hvl
  have HM3 := Lib.hid hm3'; have HMS := Lib.hid hms; have HVL := Lib.hid hvl; have HO := Lib.hid hown
  have zz : w1.heap.size ≤ (w3.alloc (.cells #[.slice Av mn cv] 27)).heap.size := by simp; omega
  clear hm3 hm3' hb3 hms hvl hle b3 hown G2 G3
  go_wp2_with (at_builtin; refine wpList_append_rd _ rfl (.tmp 38) (.tmp 41) 24 rfl w1.heap.size 27 i0 (.slice none 0 0) 1 24 Try.underlying24 hi hz0 hz1 hz2 rfl (by decide) _ (0) vs rfl HO.out _ 1 _ [.slice Av mn cv] rfl rfl (Rd.new _ _ _) ?c2 ?c3 ?c4 zz ?_)
  case c2 => intro u hu; simp at hu; subst hu; rfl
  case c3 => unfold maxLen; omega
  case c4 => omega
  intro v4 w4 hown4 hg4
  have hg44 : Grow w1.heap.size w4 v4 ((ls.drop 1) ++ [m]) := Grow.snoc (by rw [HLL.out]; exact HO.out) (by rw [HLL.out]; exact HVL.out) HMS.out HM3.out (by rw [HLL.out]; exact hown4) hg4
  have hne0 : some w.heap.size ≠ (Value.slice A2 (0) c2).ownBlock := own_ne HO.out M0.out (by decide)
  have hne1 : some (w.heap.size + 1) ≠ (Value.slice A2 (0) c2).ownBlock := own_ne HO.out M1.out (by decide)
  have N0 := blk_grown M0.out hg4 hne0; have N1 := blk_grown M1.out hg4 hne1
  have hb4 : Below w.heap.size w w4 := B3.out.grown hg4 (by omega) (fun k hk => by have := (HO.out.lt k hk).1; omega)
  obtain ⟨A4, c4, rfl, l4, n4, _, o4⟩ := hg44.form
  have a40 : w4.cell? ⟨w.heap.size, 0, none⟩ = some (.int .i64 i) := blk_cell N0 0
  have a41 : w4.cell? ⟨w.heap.size, 1, none⟩ = some (.int .i64 f) := blk_cell N0 1
  have a42 : w4.cell? ⟨w.heap.size, 2, none⟩ = some (.int .i64 t) := blk_cell N0 2
  have a43 : w4.cell? ⟨w.heap.size, 3, none⟩ = some (.int .i64 cp) := blk_cell N0 3
  have a44 : w4.cell? ⟨w.heap.size, 4, none⟩ = some (.int .i64 s) := blk_cell N0 4
  have a45 : w4.cell? ⟨w.heap.size, 5, none⟩ = some (.slice (some ⟨b, off, none⟩) 1 c) := blk_cell N0 5
  have q40 : w4.cell? ⟨w.heap.size + 1, 0, none⟩ = some (.int .i64 0) := blk_cell N1 0
  have q41 : w4.cell? ⟨w.heap.size + 1, 1, none⟩ = some (.int .i64 0) := blk_cell N1 1
  have q42 : w4.cell? ⟨w.heap.size + 1, 2, none⟩ = some (.int .i64 0) := blk_cell N1 2
  have q43 : w4.cell? ⟨w.heap.size + 1, 3, none⟩ = some (.int .i64 0) := blk_cell N1 3
  have q44 : w4.cell? ⟨w.heap.size + 1, 4, none⟩ = some (.int .i64 0) := blk_cell N1 4
  have q45 : w4.cell? ⟨w.heap.size + 1, 5, none⟩ = some (.slice none 0 0) := blk_cell N1 5
  have f40 := blk_frozen N1 0
  have f41 := blk_frozen N1 1
  have f42 := blk_frozen N1 2
  have f43 := blk_frozen N1 3
  have f44 := blk_frozen N1 4
  have f45 := blk_frozen N1 5
  have g45 := blk_frozen N0 5
  have P0 := Lib.hid N0; have P1 := Lib.hid N1; have B4 := Lib.hid hb4; have O4 := Lib.hid o4; have L4 := Lib.hid (And.intro l4 n4)
  have hl1 : ((ls.drop 1) ++ [m]).length = 0 + 1 := by rw [List.length_append, HLL.out]; rfl
  rw [hl1]
  have HL1 := Lib.hid hl1
  clear hown4 hg4 hg44 hne0 hne1 N0 N1 hb4 l4 n4 o4 hl1
  go_wp2
  have P1' := blk_far P1.out (p := ⟨w.heap.size, 5, none⟩) (show w.heap.size + 1 ≠ w.heap.size by omega) (.slice A4 (0 + 1) c4)
  refine ret_row_tmp rfl (w.heap.size + 1) 26 _ _ rfl (q_set P1' rfl _ _ _ _ _ _) Try.underlying26 rfl (by kernel_rfl) rfl ?_
  have hoo := own2_far6 (own2_far (k := 5) O4.out P0.out (by decide) (by decide) (.slice A4 (0 + 1) c4)) P1' (.int .i64 i) (.int .i64 f) (.int .i64 t) (.int .i64 cp) (.int .i64 s) (.slice A4 (0 + 1) c4)
  have hbb := q_below (g := w.heap.size + 1) (B4.out.setCell (p := ⟨w.heap.size, 5, none⟩) (Nat.le_refl _) (.slice A4 (0 + 1) c4)) (by omega) (.int .i64 i) (.int .i64 f) (.int .i64 t) (.int .i64 cp) (.int .i64 s) (.slice A4 (0 + 1) c4)
  rw [HV.out]
  exact ⟨A4, c4, by rw [show ((⟨i, f, t, cp, s⟩, (ls.drop 1) ++ [m], (0 : Int)) : Ch × List Msg × Int).2.1.length = 0 + 1 from HL1.out]; rfl, ⟨L4.out.1, L4.out.2, hoo.mono (by omega) (by rw [size6]; simp)⟩, hbb⟩
set_option maxRecDepth 100000 in
set_option maxHeartbeats 4000000 in
theorem put_full (i f t cp s : Int) (b off n c : Nat) (hnc : n + 2 ≤ c) (ls : List Msg) (hn : ls.length = (n + 2)) (m : Msg) (Am : Option Addr) (mn cm : Nat) (hmn : m.length = mn) (hmA : Am = none → cm = 0) (hmc : mn ≤ cm) (hq : mayQ ⟨i, f, t, cp, s⟩ ls = true) (hl : (mn : Int) ≤ s) (hlt : (n : Int) + 2 = cp) (w : World) (h : Rms w (some ⟨b, off, none⟩) ls) (hm : Rd w Am (bcs m)) :
    Calls Try.prog 11 #[.agg (qcells ⟨i, f, t, cp, s⟩ (some ⟨b, off, none⟩) (n + 2) c), .slice Am mn cm] w (QOut (putR ⟨i, f, t, cp, s⟩ ls m) w) := by
  have g0 := Lib.hid (blk_alloc (blk_new w (qcells ⟨i, f, t, cp, s⟩ (some ⟨b, off, none⟩) (n + 2) c) 26) (.cells (qcells ⟨0, 0, 0, 0, 0⟩ none 0 0) 26))
  have g1 := Lib.hid (show ((w.alloc (.cells (qcells ⟨i, f, t, cp, s⟩ (some ⟨b, off, none⟩) (n + 2) c) 26)).alloc (.cells (qcells ⟨0, 0, 0, 0, 0⟩ none 0 0) 26)).heap[w.heap.size + 1]? = some (.cells (qcells ⟨0, 0, 0, 0, 0⟩ none 0 0) 26 (0, 0)) by
    have := blk_new (w.alloc (.cells (qcells ⟨i, f, t, cp, s⟩ (some ⟨b, off, none⟩) (n + 2) c) 26)) (qcells ⟨0, 0, 0, 0, 0⟩ none 0 0) 26; simpa using this)
  have hsz : ((w.alloc (.cells (qcells ⟨i, f, t, cp, s⟩ (some ⟨b, off, none⟩) (n + 2) c) 26)).alloc (.cells (qcells ⟨0, 0, 0, 0, 0⟩ none 0 0) 26)).heap.size = w.heap.size + 2 := by simp
  have hX : Below w.heap.size w ((w.alloc (.cells (qcells ⟨i, f, t, cp, s⟩ (some ⟨b, off, none⟩) (n + 2) c) 26)).alloc (.cells (qcells ⟨0, 0, 0, 0, 0⟩ none 0 0) 26)) := ((Below.refl _ _).alloc (Nat.le_refl _) _).alloc (by simp) _
  have hy := mayQ_yes hq
  have hmay := mayC_iff.1 hy.1
  obtain ⟨_, hlen, hsz2⟩ := hy
  simp only at hmay hlen hsz2
  have hcp : cp ≤ 4 := by omega
  have hs16 : s ≤ 16 := by omega
  have T := mayQueue ⟨i, f, t, cp, s⟩ (some ⟨b, off, none⟩) c ls (by omega) ((w.alloc (.cells (qcells ⟨i, f, t, cp, s⟩ (some ⟨b, off, none⟩) (n + 2) c) 26)).alloc (.cells (qcells ⟨0, 0, 0, 0, 0⟩ none 0 0) 26)) (h.below hX)
  rw [hq, hn] at T
  have HV := Lib.hid (show putR ⟨i, f, t, cp, s⟩ ls m = (⟨i, f, t, cp, s⟩, (ls.drop 1) ++ [m], 0) by unfold putR; rw [hq, if_pos rfl, if_neg (by rw [hmn]; simp only; omega)]; unfold room; rw [if_pos (by simp only; omega)])
  have hLL : ((ls.drop 1)).length = (n + 1) := by simp; omega
  have TC := fun (w : World) (h : Rms w (some ⟨b, off, none⟩) ls) => copied (some ⟨b, off + 1, none⟩) (n + 1) ((ls.drop 1)) (by rw [hLL]; omega) (fun l hl => by have := hsz2 l (List.mem_of_mem_drop hl); omega) w (h.drop1)
  rw [hLL] at TC
  have TM := fun (w : World) (h : Rd w Am (bcs m)) => clone Am cm m hmA (by omega) (by omega) w h
  rw [hmn] at TM
  obtain ⟨i0, hi, hz0, hz1, hz2⟩ := info_parts info_row
  have e1 : ((n : Int) + 2 == cp) = true := by rw [beq_iff_eq]; exact hlt
  have e3 : (n : Int) + 2 ≤ (c : Int) := by omega
  have hlt' := Lib.hid hlt; clear hlt
  dsimp only [qcells] at T hsz hX ⊢
  have H := Lib.hid (h.below hX); have HMs := Lib.hid (hm.below hX)
  have HT := Lib.hid T; have HTC := Lib.hid TC; have HTM := Lib.hid TM; have HLL := Lib.hid hLL; have HMN := Lib.hid hmn; have HN := Lib.hid hn
  have hn4 : (n + 2) ≤ 4 := by omega
  have nos : ¬ s < (mn : Int) := by omega
  clear T h hq TC TM hm hmn hmA hmc hLL hn hmay hlen hsz2 hs16
  go_enter Try.func11, Try.ntmps11
  go_wp2_with fail
  refine HT.out.mono ?_
  rintro e w1 ⟨rfl, b1⟩
  have h0 := blk_below g0.out b1 (by omega); have h1 := blk_below g1.out b1 (by omega)
  have a10 : w1.cell? ⟨w.heap.size, 0, none⟩ = some (.int .i64 i) := blk_cell h0 0
  have a11 : w1.cell? ⟨w.heap.size, 1, none⟩ = some (.int .i64 f) := blk_cell h0 1
  have a12 : w1.cell? ⟨w.heap.size, 2, none⟩ = some (.int .i64 t) := blk_cell h0 2
  have a13 : w1.cell? ⟨w.heap.size, 3, none⟩ = some (.int .i64 cp) := blk_cell h0 3
  have a14 : w1.cell? ⟨w.heap.size, 4, none⟩ = some (.int .i64 s) := blk_cell h0 4
  have a15 : w1.cell? ⟨w.heap.size, 5, none⟩ = some (.slice (some ⟨b, off, none⟩) (n + 2) c) := blk_cell h0 5
  have q10 : w1.cell? ⟨w.heap.size + 1, 0, none⟩ = some (.int .i64 0) := blk_cell h1 0
  have q11 : w1.cell? ⟨w.heap.size + 1, 1, none⟩ = some (.int .i64 0) := blk_cell h1 1
  have q12 : w1.cell? ⟨w.heap.size + 1, 2, none⟩ = some (.int .i64 0) := blk_cell h1 2
  have q13 : w1.cell? ⟨w.heap.size + 1, 3, none⟩ = some (.int .i64 0) := blk_cell h1 3
  have q14 : w1.cell? ⟨w.heap.size + 1, 4, none⟩ = some (.int .i64 0) := blk_cell h1 4
  have q15 : w1.cell? ⟨w.heap.size + 1, 5, none⟩ = some (.slice none 0 0) := blk_cell h1 5
  have f10 := blk_frozen h1 0
  have f11 := blk_frozen h1 1
  have f12 := blk_frozen h1 2
  have f13 := blk_frozen h1 3
  have f14 := blk_frozen h1 4
  have f15 := blk_frozen h1 5
  have K0 := Lib.hid h0; have K1 := Lib.hid h1
  have H1 := Lib.hid (H.out.below b1); have HM1 := Lib.hid (HMs.out.below b1)
  have z1 : w.heap.size + 2 ≤ w1.heap.size := by have := b1.size; omega
  have B1 := Lib.hid (hX.trans (b1.mono (by omega))); clear b1 h0 h1
  go_wp2_with fail
  refine (HTC.out _ H1.out).mono ?_
  rintro e w2 ⟨v2, rfl, hg2, b2⟩
  clear a10 a11 a12 a13 a14 a15 q10 q11 q12 q13 q14 q15 f10 f11 f12 f13 f14 f15
  have G2 := Lib.hid hg2; have z2 := b2.size
  have HM2 := Lib.hid (HM1.out.below b2)
  have L0 := Lib.hid (blk_below K0.out b2 (by omega)); have L1 := Lib.hid (blk_below K1.out b2 (by omega))
  have B2 := Lib.hid (B1.out.trans (b2.mono (by omega)))
  clear hg2 b2
  obtain ⟨A2, c2, rfl, _, _, _, _⟩ := G2.out.form
  have hLL2 : ((ls.drop 1)).length = (n + 1) := HLL.out
  rw [hLL2] at G2 ⊢
  clear hLL2
  go_wp2_with fail
  refine (HTM.out _ HM2.out).mono ?_
  rintro e w3 ⟨v3, rfl, hv3⟩
  have hm3 := hv3.msg
  obtain ⟨Av, cv, rfl, _, _, _, _, b3⟩ := hv3
  have hmn2 : m.length = mn := HMN.out
  rw [hmn2] at hm3 ⊢
  clear hmn2
  have z3 := b3.size
  have G3 := Lib.hid ((G2.out.below b3).alloc (.cells #[.slice Av mn cv] 27))
  have hb3 := B2.out.trans (b3.mono (by omega))
  have B3 := Lib.hid (hb3.alloc hb3.size (.cells #[.slice Av mn cv] 27))
  have hm3' := (hm3.below ((Below.refl w3.heap.size w3).alloc (Nat.le_refl _) (.cells #[.slice Av mn cv] 27)) (Nat.le_refl _)).mono (show w1.heap.size ≤ w2.heap.size from z2) (show w3.heap.size ≤ (w3.alloc (.cells #[.slice Av mn cv] 27)).heap.size by simp)
  obtain ⟨vs, hown, hvl, hms⟩ := G3.out.own
  have M0 := Lib.hid (blk_alloc (blk_below L0.out b3 (by omega)) (.cells #[.slice Av mn cv] 27)); have M1 := Lib.hid (blk_alloc (blk_below L1.out b3 (by omega)) (.cells #[.slice Av mn cv] 27))
  have hle := HLL.out
  rw [hle] at hown hvl
  have HM3 := Lib.hid hm3'; have HMS := Lib.hid hms; have HVL := Lib.hid hvl; have HO := Lib.hid hown
  have zz : w1.heap.size ≤ (w3.alloc (.cells #[.slice Av mn cv] 27)).heap.size := by simp; omega
  clear hm3 hm3' hb3 hms hvl hle b3 hown G2 G3
  go_wp2_with (at_builtin; refine wpList_append_rd _ rfl (.tmp 38) (.tmp 41) 24 rfl w1.heap.size 27 i0 (.slice none 0 0) 1 24 Try.underlying24 hi hz0 hz1 hz2 rfl (by decide) _ ((n + 1)) vs rfl HO.out _ 1 _ [.slice Av mn cv] rfl rfl (Rd.new _ _ _) ?c2 ?c3 ?c4 zz ?_)
  case c2 => intro u hu; simp at hu; subst hu; rfl
  case c3 => unfold maxLen; omega
  case c4 => omega
  intro v4 w4 hown4 hg4
  have hg44 : Grow w1.heap.size w4 v4 ((ls.drop 1) ++ [m]) := Grow.snoc (by rw [HLL.out]; exact HO.out) (by rw [HLL.out]; exact HVL.out) HMS.out HM3.out (by rw [HLL.out]; exact hown4) hg4
  have hne0 : some w.heap.size ≠ (Value.slice A2 ((n + 1)) c2).ownBlock := own_ne HO.out M0.out (by decide)
  have hne1 : some (w.heap.size + 1) ≠ (Value.slice A2 ((n + 1)) c2).ownBlock := own_ne HO.out M1.out (by decide)
  have N0 := blk_grown M0.out hg4 hne0; have N1 := blk_grown M1.out hg4 hne1
  have hb4 : Below w.heap.size w w4 := B3.out.grown hg4 (by omega) (fun k hk => by have := (HO.out.lt k hk).1; omega)
  obtain ⟨A4, c4, rfl, l4, n4, _, o4⟩ := hg44.form
  have a40 : w4.cell? ⟨w.heap.size, 0, none⟩ = some (.int .i64 i) := blk_cell N0 0
  have a41 : w4.cell? ⟨w.heap.size, 1, none⟩ = some (.int .i64 f) := blk_cell N0 1
  have a42 : w4.cell? ⟨w.heap.size, 2, none⟩ = some (.int .i64 t) := blk_cell N0 2
  have a43 : w4.cell? ⟨w.heap.size, 3, none⟩ = some (.int .i64 cp) := blk_cell N0 3
  have a44 : w4.cell? ⟨w.heap.size, 4, none⟩ = some (.int .i64 s) := blk_cell N0 4
  have a45 : w4.cell? ⟨w.heap.size, 5, none⟩ = some (.slice (some ⟨b, off, none⟩) (n + 2) c) := blk_cell N0 5
  have q40 : w4.cell? ⟨w.heap.size + 1, 0, none⟩ = some (.int .i64 0) := blk_cell N1 0
  have q41 : w4.cell? ⟨w.heap.size + 1, 1, none⟩ = some (.int .i64 0) := blk_cell N1 1
  have q42 : w4.cell? ⟨w.heap.size + 1, 2, none⟩ = some (.int .i64 0) := blk_cell N1 2
  have q43 : w4.cell? ⟨w.heap.size + 1, 3, none⟩ = some (.int .i64 0) := blk_cell N1 3
  have q44 : w4.cell? ⟨w.heap.size + 1, 4, none⟩ = some (.int .i64 0) := blk_cell N1 4
  have q45 : w4.cell? ⟨w.heap.size + 1, 5, none⟩ = some (.slice none 0 0) := blk_cell N1 5
  have f40 := blk_frozen N1 0
  have f41 := blk_frozen N1 1
  have f42 := blk_frozen N1 2
  have f43 := blk_frozen N1 3
  have f44 := blk_frozen N1 4
  have f45 := blk_frozen N1 5
  have g45 := blk_frozen N0 5
  have P0 := Lib.hid N0; have P1 := Lib.hid N1; have B4 := Lib.hid hb4; have O4 := Lib.hid o4; have L4 := Lib.hid (And.intro l4 n4)
  have hl1 : ((ls.drop 1) ++ [m]).length = (n + 1) + 1 := by rw [List.length_append, HLL.out]; rfl
  rw [hl1]
  have HL1 := Lib.hid hl1
  clear hown4 hg4 hg44 hne0 hne1 N0 N1 hb4 l4 n4 o4 hl1
  go_wp2
  have P1' := blk_far P1.out (p := ⟨w.heap.size, 5, none⟩) (show w.heap.size + 1 ≠ w.heap.size by omega) (.slice A4 ((n + 1) + 1) c4)
  refine ret_row_tmp rfl (w.heap.size + 1) 26 _ _ rfl (q_set P1' rfl _ _ _ _ _ _) Try.underlying26 rfl (by kernel_rfl) rfl ?_
  have hoo := own2_far6 (own2_far (k := 5) O4.out P0.out (by decide) (by decide) (.slice A4 ((n + 1) + 1) c4)) P1' (.int .i64 i) (.int .i64 f) (.int .i64 t) (.int .i64 cp) (.int .i64 s) (.slice A4 ((n + 1) + 1) c4)
  have hbb := q_below (g := w.heap.size + 1) (B4.out.setCell (p := ⟨w.heap.size, 5, none⟩) (Nat.le_refl _) (.slice A4 ((n + 1) + 1) c4)) (by omega) (.int .i64 i) (.int .i64 f) (.int .i64 t) (.int .i64 cp) (.int .i64 s) (.slice A4 ((n + 1) + 1) c4)
  rw [HV.out]
  exact ⟨A4, c4, by rw [show ((⟨i, f, t, cp, s⟩, (ls.drop 1) ++ [m], (0 : Int)) : Ch × List Msg × Int).2.1.length = (n + 1) + 1 from HL1.out]; rfl, ⟨L4.out.1, L4.out.2, hoo.mono (by omega) (by rw [size6]; simp)⟩, hbb⟩
end Go.Proofs.Ytlmecndldclnnaa.chan
