/- Moves: the queue that a channel keeps; no condition. -/
import Derived.Test.YtnfjkpeifleogaaRows
import Derived.Test.YtnfjkpeifleogaaMvB
namespace Go.Proofs.Ytnfjkpeifleogaa.mv
open Go Go.ChangeShapes Go.WideShapes Go.ChangeAt Go.RowKit Go.Proofs.Ytnfjkpeifleogaa.rows
theorem ch_cases (x y : Ch) : x = y ∨ x.id ≠ y.id ∨ (x.id = y.id ∧ x.fr ≠ y.fr) ∨ (x.id = y.id ∧ x.fr = y.fr ∧ x.to ≠ y.to) ∨ (x.id = y.id ∧ x.fr = y.fr ∧ x.to = y.to ∧ x.cap ≠ y.cap) ∨ (x.id = y.id ∧ x.fr = y.fr ∧ x.to = y.to ∧ x.cap = y.cap ∧ x.sz ≠ y.sz) := by
  obtain ⟨a, b, c, d, e⟩ := x
  obtain ⟨a', b', c', d', e'⟩ := y
  simp only [Ch.mk.injEq]
  omega
theorem q1_eq (i f t cp s : Int) (A : Option Addr) (n c B : Nat) (W : World) (hB : W.heap[B]? = some (.cells #[.int .i64 i, .int .i64 f, .int .i64 t, .int .i64 cp, .int .i64 s] 50 (0, 0))) : Calls Try.prog 37 #[.agg #[.int .i64 i, .int .i64 f, .int .i64 t, .int .i64 cp, .int .i64 s, .slice A n c], .pointer (some ⟨B, 0, none⟩)] W fun e w' => e = .returned (.bool true) ∧ Below W.heap.size W w' := by
  have G := Lib.hid (blk_new W #[.int .i64 i, .int .i64 f, .int .i64 t, .int .i64 cp, .int .i64 s, .slice A n c] 53)
  have HB := Lib.hid (blk_alloc hB (.cells #[.int .i64 i, .int .i64 f, .int .i64 t, .int .i64 cp, .int .i64 s, .slice A n c] 53))
  have g0 := blk_cell G.out 0
  have b0 := blk_cell HB.out 0
  have g1 := blk_cell G.out 1
  have b1 := blk_cell HB.out 1
  have g2 := blk_cell G.out 2
  have b2 := blk_cell HB.out 2
  have g3 := blk_cell G.out 3
  have b3 := blk_cell HB.out 3
  have g4 := blk_cell G.out 4
  have b4 := blk_cell HB.out 4
  have HX := Lib.hid ((Below.refl W.heap.size W).alloc (Nat.le_refl _) (.cells #[.int .i64 i, .int .i64 f, .int .i64 t, .int .i64 cp, .int .i64 s, .slice A n c] 53))
  clear hB
  go_enter Try.func37, Try.ntmps37
  go_wp2
  go_ret
  exact ⟨rfl, HX.out⟩
theorem q1_d0 (i f t cp s i2 f2 t2 cp2 s2 : Int) (A : Option Addr) (n c B : Nat) (hd : i ≠ i2) (W : World) (hB : W.heap[B]? = some (.cells #[.int .i64 i2, .int .i64 f2, .int .i64 t2, .int .i64 cp2, .int .i64 s2] 50 (0, 0))) : Calls Try.prog 37 #[.agg #[.int .i64 i, .int .i64 f, .int .i64 t, .int .i64 cp, .int .i64 s, .slice A n c], .pointer (some ⟨B, 0, none⟩)] W fun e w' => e = .returned (.bool false) ∧ Below W.heap.size W w' := by
  have e1 : (i == i2) = false := by rw [beq_eq_false_iff_ne]; exact hd
  have e2 : (i != i2) = true := by rw [bne_iff_ne]; exact hd
  have e3 : ¬ i = i2 := hd
  clear hd
  have G := Lib.hid (blk_new W #[.int .i64 i, .int .i64 f, .int .i64 t, .int .i64 cp, .int .i64 s, .slice A n c] 53)
  have HB := Lib.hid (blk_alloc hB (.cells #[.int .i64 i, .int .i64 f, .int .i64 t, .int .i64 cp, .int .i64 s, .slice A n c] 53))
  have g0 := blk_cell G.out 0
  have b0 := blk_cell HB.out 0
  have g1 := blk_cell G.out 1
  have b1 := blk_cell HB.out 1
  have g2 := blk_cell G.out 2
  have b2 := blk_cell HB.out 2
  have g3 := blk_cell G.out 3
  have b3 := blk_cell HB.out 3
  have g4 := blk_cell G.out 4
  have b4 := blk_cell HB.out 4
  have HX := Lib.hid ((Below.refl W.heap.size W).alloc (Nat.le_refl _) (.cells #[.int .i64 i, .int .i64 f, .int .i64 t, .int .i64 cp, .int .i64 s, .slice A n c] 53))
  clear hB
  go_enter Try.func37, Try.ntmps37
  go_wp2
  go_ret
  exact ⟨rfl, HX.out⟩
theorem q1_d1 (i f t cp s f2 t2 cp2 s2 : Int) (A : Option Addr) (n c B : Nat) (hd : f ≠ f2) (W : World) (hB : W.heap[B]? = some (.cells #[.int .i64 i, .int .i64 f2, .int .i64 t2, .int .i64 cp2, .int .i64 s2] 50 (0, 0))) : Calls Try.prog 37 #[.agg #[.int .i64 i, .int .i64 f, .int .i64 t, .int .i64 cp, .int .i64 s, .slice A n c], .pointer (some ⟨B, 0, none⟩)] W fun e w' => e = .returned (.bool false) ∧ Below W.heap.size W w' := by
  have e1 : (f == f2) = false := by rw [beq_eq_false_iff_ne]; exact hd
  have e2 : (f != f2) = true := by rw [bne_iff_ne]; exact hd
  have e3 : ¬ f = f2 := hd
  clear hd
  have G := Lib.hid (blk_new W #[.int .i64 i, .int .i64 f, .int .i64 t, .int .i64 cp, .int .i64 s, .slice A n c] 53)
  have HB := Lib.hid (blk_alloc hB (.cells #[.int .i64 i, .int .i64 f, .int .i64 t, .int .i64 cp, .int .i64 s, .slice A n c] 53))
  have g0 := blk_cell G.out 0
  have b0 := blk_cell HB.out 0
  have g1 := blk_cell G.out 1
  have b1 := blk_cell HB.out 1
  have g2 := blk_cell G.out 2
  have b2 := blk_cell HB.out 2
  have g3 := blk_cell G.out 3
  have b3 := blk_cell HB.out 3
  have g4 := blk_cell G.out 4
  have b4 := blk_cell HB.out 4
  have HX := Lib.hid ((Below.refl W.heap.size W).alloc (Nat.le_refl _) (.cells #[.int .i64 i, .int .i64 f, .int .i64 t, .int .i64 cp, .int .i64 s, .slice A n c] 53))
  clear hB
  go_enter Try.func37, Try.ntmps37
  go_wp2
  go_ret
  exact ⟨rfl, HX.out⟩
theorem q1_d2 (i f t cp s t2 cp2 s2 : Int) (A : Option Addr) (n c B : Nat) (hd : t ≠ t2) (W : World) (hB : W.heap[B]? = some (.cells #[.int .i64 i, .int .i64 f, .int .i64 t2, .int .i64 cp2, .int .i64 s2] 50 (0, 0))) : Calls Try.prog 37 #[.agg #[.int .i64 i, .int .i64 f, .int .i64 t, .int .i64 cp, .int .i64 s, .slice A n c], .pointer (some ⟨B, 0, none⟩)] W fun e w' => e = .returned (.bool false) ∧ Below W.heap.size W w' := by
  have e1 : (t == t2) = false := by rw [beq_eq_false_iff_ne]; exact hd
  have e2 : (t != t2) = true := by rw [bne_iff_ne]; exact hd
  have e3 : ¬ t = t2 := hd
  clear hd
  have G := Lib.hid (blk_new W #[.int .i64 i, .int .i64 f, .int .i64 t, .int .i64 cp, .int .i64 s, .slice A n c] 53)
  have HB := Lib.hid (blk_alloc hB (.cells #[.int .i64 i, .int .i64 f, .int .i64 t, .int .i64 cp, .int .i64 s, .slice A n c] 53))
  have g0 := blk_cell G.out 0
  have b0 := blk_cell HB.out 0
  have g1 := blk_cell G.out 1
  have b1 := blk_cell HB.out 1
  have g2 := blk_cell G.out 2
  have b2 := blk_cell HB.out 2
  have g3 := blk_cell G.out 3
  have b3 := blk_cell HB.out 3
  have g4 := blk_cell G.out 4
  have b4 := blk_cell HB.out 4
  have HX := Lib.hid ((Below.refl W.heap.size W).alloc (Nat.le_refl _) (.cells #[.int .i64 i, .int .i64 f, .int .i64 t, .int .i64 cp, .int .i64 s, .slice A n c] 53))
  clear hB
  go_enter Try.func37, Try.ntmps37
  go_wp2
  go_ret
  exact ⟨rfl, HX.out⟩
theorem q1_d3 (i f t cp s cp2 s2 : Int) (A : Option Addr) (n c B : Nat) (hd : cp ≠ cp2) (W : World) (hB : W.heap[B]? = some (.cells #[.int .i64 i, .int .i64 f, .int .i64 t, .int .i64 cp2, .int .i64 s2] 50 (0, 0))) : Calls Try.prog 37 #[.agg #[.int .i64 i, .int .i64 f, .int .i64 t, .int .i64 cp, .int .i64 s, .slice A n c], .pointer (some ⟨B, 0, none⟩)] W fun e w' => e = .returned (.bool false) ∧ Below W.heap.size W w' := by
  have e1 : (cp == cp2) = false := by rw [beq_eq_false_iff_ne]; exact hd
  have e2 : (cp != cp2) = true := by rw [bne_iff_ne]; exact hd
  have e3 : ¬ cp = cp2 := hd
  clear hd
  have G := Lib.hid (blk_new W #[.int .i64 i, .int .i64 f, .int .i64 t, .int .i64 cp, .int .i64 s, .slice A n c] 53)
  have HB := Lib.hid (blk_alloc hB (.cells #[.int .i64 i, .int .i64 f, .int .i64 t, .int .i64 cp, .int .i64 s, .slice A n c] 53))
  have g0 := blk_cell G.out 0
  have b0 := blk_cell HB.out 0
  have g1 := blk_cell G.out 1
  have b1 := blk_cell HB.out 1
  have g2 := blk_cell G.out 2
  have b2 := blk_cell HB.out 2
  have g3 := blk_cell G.out 3
  have b3 := blk_cell HB.out 3
  have g4 := blk_cell G.out 4
  have b4 := blk_cell HB.out 4
  have HX := Lib.hid ((Below.refl W.heap.size W).alloc (Nat.le_refl _) (.cells #[.int .i64 i, .int .i64 f, .int .i64 t, .int .i64 cp, .int .i64 s, .slice A n c] 53))
  clear hB
  go_enter Try.func37, Try.ntmps37
  go_wp2
  go_ret
  exact ⟨rfl, HX.out⟩
theorem q1_d4 (i f t cp s s2 : Int) (A : Option Addr) (n c B : Nat) (hd : s ≠ s2) (W : World) (hB : W.heap[B]? = some (.cells #[.int .i64 i, .int .i64 f, .int .i64 t, .int .i64 cp, .int .i64 s2] 50 (0, 0))) : Calls Try.prog 37 #[.agg #[.int .i64 i, .int .i64 f, .int .i64 t, .int .i64 cp, .int .i64 s, .slice A n c], .pointer (some ⟨B, 0, none⟩)] W fun e w' => e = .returned (.bool false) ∧ Below W.heap.size W w' := by
  have e1 : (s == s2) = false := by rw [beq_eq_false_iff_ne]; exact hd
  have e2 : (s != s2) = true := by rw [bne_iff_ne]; exact hd
  have e3 : ¬ s = s2 := hd
  clear hd
  have G := Lib.hid (blk_new W #[.int .i64 i, .int .i64 f, .int .i64 t, .int .i64 cp, .int .i64 s, .slice A n c] 53)
  have HB := Lib.hid (blk_alloc hB (.cells #[.int .i64 i, .int .i64 f, .int .i64 t, .int .i64 cp, .int .i64 s, .slice A n c] 53))
  have g0 := blk_cell G.out 0
  have b0 := blk_cell HB.out 0
  have g1 := blk_cell G.out 1
  have b1 := blk_cell HB.out 1
  have g2 := blk_cell G.out 2
  have b2 := blk_cell HB.out 2
  have g3 := blk_cell G.out 3
  have b3 := blk_cell HB.out 3
  have g4 := blk_cell G.out 4
  have b4 := blk_cell HB.out 4
  have HX := Lib.hid ((Below.refl W.heap.size W).alloc (Nat.le_refl _) (.cells #[.int .i64 i, .int .i64 f, .int .i64 t, .int .i64 cp, .int .i64 s, .slice A n c] 53))
  clear hB
  go_enter Try.func37, Try.ntmps37
  go_wp2
  go_ret
  exact ⟨rfl, HX.out⟩
theorem queue1 (x : Qu) (A : Option Addr) (c B : Nat) (y : Ch) (W : World) (hB : W.heap[B]? = some (.cells #[.int .i64 y.id, .int .i64 y.fr, .int .i64 y.to, .int .i64 y.cap, .int .i64 y.sz] 50 (0, 0))) : Calls Try.prog 37 #[.agg #[.int .i64 x.ch.id, .int .i64 x.ch.fr, .int .i64 x.ch.to, .int .i64 x.ch.cap, .int .i64 x.ch.sz, .slice A x.msgs.length c], .pointer (some ⟨B, 0, none⟩)] W fun e w' => e = .returned (.bool (decide (x.ch = y))) ∧ Below W.heap.size W w' := by
  obtain ⟨⟨i, f, t, cp, s⟩, msgs⟩ := x
  obtain ⟨i2, f2, t2, cp2, s2⟩ := y
  simp only at hB ⊢
  rcases ch_cases ⟨i, f, t, cp, s⟩ ⟨i2, f2, t2, cp2, s2⟩ with h | h | ⟨e1, h⟩ | ⟨e1, e2, h⟩ | ⟨e1, e2, e3, h⟩ | ⟨e1, e2, e3, e4, h⟩
  · injection h with h1 h2 h3 h4 h5
    subst h1; subst h2; subst h3; subst h4; subst h5
    rw [decide_eq_true rfl]
    exact q1_eq i f t cp s A _ c B W hB
  all_goals rw [decide_eq_false (fun he => by injection he with h1 h2 h3 h4 h5; first | exact h h1 | exact h h2 | exact h h3 | exact h h4 | exact h h5)]
  · exact q1_d0 i f t cp s i2 f2 t2 cp2 s2 A _ c B h W hB
  · simp only at e1; subst e1; exact q1_d1 i f t cp s f2 t2 cp2 s2 A _ c B h W hB
  · simp only at e1 e2; subst e1; subst e2; exact q1_d2 i f t cp s t2 cp2 s2 A _ c B h W hB
  · simp only at e1 e2 e3; subst e1; subst e2; subst e3; exact q1_d3 i f t cp s cp2 s2 A _ c B h W hB
  · simp only at e1 e2 e3 e4; subst e1; subst e2; subst e3; subst e4; exact q1_d4 i f t cp s s2 A _ c B h W hB
/-- The messages that a channel keeps. -/
def queueP (ps : List Pt) (pn : List Pn) (qs : List Qu) (c : Ch) : Option (List Msg) := match qs.find? (fun q => decide (q.ch = c)) with
  | some q => if keepsP ps pn c.fr = true ∧ keepsP ps pn c.to = true then some q.msgs else none
  | none => none
def QuKept (c : Ch) (o : Option (List Msg)) (w : World) (e : Ending) (w' : World) : Prop :=
  Below w.heap.size w w' ∧ match o with
    | none => e = .returned (.tuple #[.agg #[.int .i64 0, .int .i64 0, .int .i64 0, .int .i64 0, .int .i64 0, .slice none 0 0], .bool false])
    | some l => ∃ A cc, e = .returned (.tuple #[.agg #[.int .i64 c.id, .int .i64 c.fr, .int .i64 c.to, .int .i64 c.cap, .int .i64 c.sz, .slice A l.length cc], .bool true]) ∧ l.length ≤ cc ∧ (A = none → cc = 0) ∧ Own2 w.heap.size w'.heap.size w' A l
set_option maxRecDepth 100000 in
set_option maxHeartbeats 8000000 in
theorem queue (fr : Int) (ps : List Pt) (pn : List Pn) (qs : List Qu) (c : Ch) (Ap Aq Aw An Ac : Option Addr) (np cp nq cq nw cw nn cn nc cc : Nat) (hnp : ps.length = np) (hnn : pn.length = nn) (hnq : qs.length = nq) (h63 : np ≤ 1000000) (h632 : nn ≤ 1000000) (h633 : nq ≤ 1000000) (hml : ∀ x ∈ ps, x.mem.length ≤ 1000000) (hqm : ∀ q ∈ qs, q.msgs.length ≤ 1000000 ∧ ∀ m ∈ q.msgs, m.length ≤ 1000000) (w : World) (h : Pts w Ap ps) (h2 : Pns w An pn) (h3 : Qus w Aq qs) :
    Calls Try.prog 26 #[.agg #[.int .i64 fr, .slice Ap np cp, .slice Aq nq cq], .agg #[.slice Aw nw cw, .slice An nn cn, .slice Ac nc cc], .agg #[.int .i64 c.id, .int .i64 c.fr, .int .i64 c.to, .int .i64 c.cap, .int .i64 c.sz]] w (QuKept c (queueP ps pn qs c) w) := by
  obtain ⟨ci, cf, ct, ca, cz⟩ := c
  simp only
  have hB3 := ((((Below.refl w.heap.size w).alloc (Nat.le_refl _) (.cells #[.int .i64 fr, .slice Ap np cp, .slice Aq nq cq] 25)).alloc (by simp) (.cells #[.slice Aw nw cw, .slice An nn cn, .slice Ac nc cc] 30)).alloc (by simp; omega) (.cells #[.int .i64 ci, .int .i64 cf, .int .i64 ct, .int .i64 ca, .int .i64 cz] 50))
  have hs3 : (((w.alloc (.cells #[.int .i64 fr, .slice Ap np cp, .slice Aq nq cq] 25)).alloc (.cells #[.slice Aw nw cw, .slice An nn cn, .slice Ac nc cc] 30)).alloc (.cells #[.int .i64 ci, .int .i64 cf, .int .i64 ct, .int .i64 ca, .int .i64 cz] 50)).heap.size = w.heap.size + 3 := by simp
  have hB4 := hB3.alloc (by rw [hs3]; omega) (.cells #[.int .i64 0, .int .i64 0, .int .i64 0, .int .i64 0, .int .i64 0, .slice none 0 0] 53)
  have hs4 : ((((w.alloc (.cells #[.int .i64 fr, .slice Ap np cp, .slice Aq nq cq] 25)).alloc (.cells #[.slice Aw nw cw, .slice An nn cn, .slice Ac nc cc] 30)).alloc (.cells #[.int .i64 ci, .int .i64 cf, .int .i64 ct, .int .i64 ca, .int .i64 cz] 50)).alloc (.cells #[.int .i64 0, .int .i64 0, .int .i64 0, .int .i64 0, .int .i64 0, .slice none 0 0] 53)).heap.size = w.heap.size + 4 := by simp
  have G0 := Lib.hid (blk_alloc (blk_alloc (blk_alloc (blk_new w #[.int .i64 fr, .slice Ap np cp, .slice Aq nq cq] 25) (.cells #[.slice Aw nw cw, .slice An nn cn, .slice Ac nc cc] 30)) (.cells #[.int .i64 ci, .int .i64 cf, .int .i64 ct, .int .i64 ca, .int .i64 cz] 50)) (.cells #[.int .i64 0, .int .i64 0, .int .i64 0, .int .i64 0, .int .i64 0, .slice none 0 0] 53))
  have G1 := Lib.hid (blk_alloc (blk_alloc (show ((w.alloc (.cells #[.int .i64 fr, .slice Ap np cp, .slice Aq nq cq] 25)).alloc (.cells #[.slice Aw nw cw, .slice An nn cn, .slice Ac nc cc] 30)).heap[w.heap.size + 1]? = some (.cells #[.slice Aw nw cw, .slice An nn cn, .slice Ac nc cc] 30 (0, 0)) by have := blk_new (w.alloc (.cells #[.int .i64 fr, .slice Ap np cp, .slice Aq nq cq] 25)) #[.slice Aw nw cw, .slice An nn cn, .slice Ac nc cc] 30; simpa using this) (.cells #[.int .i64 ci, .int .i64 cf, .int .i64 ct, .int .i64 ca, .int .i64 cz] 50)) (.cells #[.int .i64 0, .int .i64 0, .int .i64 0, .int .i64 0, .int .i64 0, .slice none 0 0] 53))
  have G2 := Lib.hid (blk_alloc (show (((w.alloc (.cells #[.int .i64 fr, .slice Ap np cp, .slice Aq nq cq] 25)).alloc (.cells #[.slice Aw nw cw, .slice An nn cn, .slice Ac nc cc] 30)).alloc (.cells #[.int .i64 ci, .int .i64 cf, .int .i64 ct, .int .i64 ca, .int .i64 cz] 50)).heap[w.heap.size + 1 + 1]? = some (.cells #[.int .i64 ci, .int .i64 cf, .int .i64 ct, .int .i64 ca, .int .i64 cz] 50 (0, 0)) by have := blk_new ((w.alloc (.cells #[.int .i64 fr, .slice Ap np cp, .slice Aq nq cq] 25)).alloc (.cells #[.slice Aw nw cw, .slice An nn cn, .slice Ac nc cc] 30)) #[.int .i64 ci, .int .i64 cf, .int .i64 ct, .int .i64 ca, .int .i64 cz] 50; simpa using this) (.cells #[.int .i64 0, .int .i64 0, .int .i64 0, .int .i64 0, .int .i64 0, .slice none 0 0] 53))
  have G3 := Lib.hid (show ((((w.alloc (.cells #[.int .i64 fr, .slice Ap np cp, .slice Aq nq cq] 25)).alloc (.cells #[.slice Aw nw cw, .slice An nn cn, .slice Ac nc cc] 30)).alloc (.cells #[.int .i64 ci, .int .i64 cf, .int .i64 ct, .int .i64 ca, .int .i64 cz] 50)).alloc (.cells #[.int .i64 0, .int .i64 0, .int .i64 0, .int .i64 0, .int .i64 0, .slice none 0 0] 53)).heap[w.heap.size + 3]? = some (.cells #[.int .i64 0, .int .i64 0, .int .i64 0, .int .i64 0, .int .i64 0, .slice none 0 0] 53 (0, 0)) by have := blk_new (((w.alloc (.cells #[.int .i64 fr, .slice Ap np cp, .slice Aq nq cq] 25)).alloc (.cells #[.slice Aw nw cw, .slice An nn cn, .slice Ac nc cc] 30)).alloc (.cells #[.int .i64 ci, .int .i64 cf, .int .i64 ct, .int .i64 ca, .int .i64 cz] 50)) #[.int .i64 0, .int .i64 0, .int .i64 0, .int .i64 0, .int .i64 0, .slice none 0 0] 53; rwa [hs3] at this)
  have T := pick_qu (w.heap.size + 1 + 1) (fun x => decide (x.ch = ⟨ci, cf, ct, ca, cz⟩)) qs Aq nq cq hnq h633 ((((w.alloc (.cells #[.int .i64 fr, .slice Ap np cp, .slice Aq nq cq] 25)).alloc (.cells #[.slice Aw nw cw, .slice An nn cn, .slice Ac nc cc] 30)).alloc (.cells #[.int .i64 ci, .int .i64 cf, .int .i64 ct, .int .i64 ca, .int .i64 cz] 50)).alloc (.cells #[.int .i64 0, .int .i64 0, .int .i64 0, .int .i64 0, .int .i64 0, .slice none 0 0] 53)) (h3.below hB4) (fun W hW x _ A c => queue1 x A c (w.heap.size + 1 + 1) ⟨ci, cf, ct, ca, cz⟩ W (blk_below G2.out hW (by rw [hs4]; omega)))
  have HT := Lib.hid T; have HB4 := Lib.hid hB4; have HS4 := Lib.hid hs4; have HQM := Lib.hid hqm
  have HP := Lib.hid h; have HN := Lib.hid h2
  have TK := fun (id : Int) (W : World) (g : Pts W Ap ps) (g2 : Pns W An pn) => keeps fr ps pn id Ap Aq Aw An Ac np cp nq cq nw cw nn cn nc cc hnp hnn h63 h632 hml W g g2
  have TK1 := TK cf; have TK2 := TK ct
  obtain ⟨k1, hk1⟩ : ∃ b, keepsP ps pn cf = b := ⟨_, rfl⟩
  obtain ⟨k2, hk2⟩ : ∃ b, keepsP ps pn ct = b := ⟨_, rfl⟩
  rw [hk1] at TK1; rw [hk2] at TK2
  have HT1 := Lib.hid TK1; have HT2 := Lib.hid TK2
  have HK1 := Lib.hid hk1; have HK2 := Lib.hid hk2
  have a2 := blk_cell G0.out 2
  clear T hB3 hB4 hs3 hs4 h h2 h3 hnp hml hnn hnq hqm TK TK1 TK2 hk1 hk2
  go_enter Try.func26, Try.ntmps26
  go_wp2_with fail
  refine HT.out.mono ?_
  rintro e w1 ⟨b1, hm⟩
  have B1 := Lib.hid (HB4.out.trans (b1.mono (by rw [HS4.out]; omega)))
  have z1 : w.heap.size + 4 ≤ w1.heap.size := by have := b1.size; rw [HS4.out] at this; exact this
  have Sw1 := Lib.hid (blk_below G0.out b1 (by rw [HS4.out]; omega)); have Fw1 := Lib.hid (blk_below G1.out b1 (by rw [HS4.out]; omega)); have Hw1 := Lib.hid (blk_below G2.out b1 (by rw [HS4.out]; omega)); have Rw1 := Lib.hid (blk_below G3.out b1 (by rw [HS4.out]; omega))
  clear b1 a2
  cases hfd : qs.find? (fun q => decide (q.ch = ⟨ci, cf, ct, ca, cz⟩)) with
  | none =>
    rw [hfd] at hm
    obtain rfl := hm
    have HK := Lib.hid (show queueP ps pn qs ⟨ci, cf, ct, ca, cz⟩ = none by unfold queueP; rw [hfd])
    clear hfd
    have BZ := Lib.hid (B1.out.alloc (by omega) (.cells #[.int .i64 0, .int .i64 0, .int .i64 0, .int .i64 0, .int .i64 0, .slice none 0 0] 53))
    have GZ := Lib.hid (blk_alloc Rw1.out (.cells #[.int .i64 0, .int .i64 0, .int .i64 0, .int .i64 0, .int .i64 0, .slice none 0 0] 53))
    go_wp2_with (refine wpList_store_at rfl 53 (.tmp 6) (.tmp 38) rfl (w.heap.size + 3) #[.int .i64 0, .int .i64 0, .int .i64 0, .int .i64 0, .int .i64 0, .slice none 0 0] rfl rfl 53 _ GZ.out info_qu rfl (by simp [Value.oneCell']) ?_)
    intro w8 hw8
    have B8 := Lib.hid (below_row BZ.out (show w.heap.size ≤ w.heap.size + 3 by omega) #[.int .i64 0, .int .i64 0, .int .i64 0, .int .i64 0, .int .i64 0, .slice none 0 0])
    have G8 := Lib.hid (blk_row GZ.out #[.int .i64 0, .int .i64 0, .int .i64 0, .int .i64 0, .int .i64 0, .slice none 0 0])
    rw [← hw8.out] at B8 G8
    clear hw8
    go_wp2
    refine ret_row_tmp rfl (w.heap.size + 3) 53 _ _ rfl G8.out Try.underlying53 rfl info_qu rfl ?_
    rw [HK.out]
    exact ⟨B8.out, rfl⟩
  | some q =>
    rw [hfd] at hm
    obtain ⟨Am, cm, rfl, hin⟩ := hm
    have hqx := HQM.out _ (List.mem_of_find?_eq_some hfd)
    have hqc : q.ch = ⟨ci, cf, ct, ca, cz⟩ := by have := List.find?_some hfd; simpa using this
    obtain ⟨qc, msgs⟩ := q
    simp only at hqc hqx ⊢
    subst hqc
    obtain ⟨hin1, hin2, hin3⟩ := hin
    simp only at hin1 hin2 hin3 ⊢
    obtain ⟨nm, hnm⟩ : ∃ nm, msgs.length = nm := ⟨_, rfl⟩
    rw [hnm] at hin1 hqx ⊢
    have HNM := Lib.hid hnm; have HI3 := Lib.hid hin3; have HQX := Lib.hid hqx.2
    have hnm6 := hqx.1
    have BA := Lib.hid (B1.out.alloc (by omega) (.cells #[.int .i64 ci, .int .i64 cf, .int .i64 ct, .int .i64 ca, .int .i64 cz, .slice Am nm cm] 53))
    have BB := Lib.hid ((Below.refl w1.heap.size w1).alloc (Nat.le_refl _) (.cells #[.int .i64 ci, .int .i64 cf, .int .i64 ct, .int .i64 ca, .int .i64 cz, .slice Am nm cm] 53))
    have X1 := Lib.hid (blk_new w1 #[.int .i64 ci, .int .i64 cf, .int .i64 ct, .int .i64 ca, .int .i64 cz, .slice Am nm cm] 53)
    have R2 := Lib.hid (blk_alloc Rw1.out (.cells #[.int .i64 ci, .int .i64 cf, .int .i64 ct, .int .i64 ca, .int .i64 cz, .slice Am nm cm] 53))
    have s0 : ∀ o, (w1.alloc o).cell? ⟨w.heap.size, 0, none⟩ = some (.int .i64 fr) := fun o => Lib.cell?_alloc_marked o (blk_cell Sw1.out 0)
    have s1 : ∀ o, (w1.alloc o).cell? ⟨w.heap.size, 1, none⟩ = some (.slice Ap np cp) := fun o => Lib.cell?_alloc_marked o (blk_cell Sw1.out 1)
    have s2 : ∀ o, (w1.alloc o).cell? ⟨w.heap.size, 2, none⟩ = some (.slice Aq nq cq) := fun o => Lib.cell?_alloc_marked o (blk_cell Sw1.out 2)
    have f0 : ∀ o, (w1.alloc o).cell? ⟨w.heap.size + 1, 0, none⟩ = some (.slice Aw nw cw) := fun o => Lib.cell?_alloc_marked o (blk_cell Fw1.out 0)
    have f1 : ∀ o, (w1.alloc o).cell? ⟨w.heap.size + 1, 1, none⟩ = some (.slice An nn cn) := fun o => Lib.cell?_alloc_marked o (blk_cell Fw1.out 1)
    have f2 : ∀ o, (w1.alloc o).cell? ⟨w.heap.size + 1, 2, none⟩ = some (.slice Ac nc cc) := fun o => Lib.cell?_alloc_marked o (blk_cell Fw1.out 2)
    have h0 : ∀ o, (w1.alloc o).cell? ⟨w.heap.size + 1 + 1, 0, none⟩ = some (.int .i64 ci) := fun o => Lib.cell?_alloc_marked o (blk_cell Hw1.out 0)
    have h1 : ∀ o, (w1.alloc o).cell? ⟨w.heap.size + 1 + 1, 1, none⟩ = some (.int .i64 cf) := fun o => Lib.cell?_alloc_marked o (blk_cell Hw1.out 1)
    have h2 : ∀ o, (w1.alloc o).cell? ⟨w.heap.size + 1 + 1, 2, none⟩ = some (.int .i64 ct) := fun o => Lib.cell?_alloc_marked o (blk_cell Hw1.out 2)
    have h3 : ∀ o, (w1.alloc o).cell? ⟨w.heap.size + 1 + 1, 3, none⟩ = some (.int .i64 ca) := fun o => Lib.cell?_alloc_marked o (blk_cell Hw1.out 3)
    have h4 : ∀ o, (w1.alloc o).cell? ⟨w.heap.size + 1 + 1, 4, none⟩ = some (.int .i64 cz) := fun o => Lib.cell?_alloc_marked o (blk_cell Hw1.out 4)
    clear hin1 hin2 hin3 hnm hqx
    cases k1 with
    | false =>
      have HK := Lib.hid (show queueP ps pn qs ⟨ci, cf, ct, ca, cz⟩ = none by unfold queueP; rw [hfd]; exact if_neg (fun hh => by rw [HK1.out] at hh; cases hh.1))
      clear hfd
      go_wp2_with fail
      refine (HT1.out _ (HP.out.below BA.out) (HN.out.below BA.out)).mono ?_
      rintro e w2 ⟨rfl, b2⟩
      have BZ := Lib.hid (BA.out.trans (b2.mono BA.out.size))
      have GZ := Lib.hid (blk_below R2.out b2 (blk_lt R2.out))
      clear b2
      clear s0 s1 s2 f0 f1 f2 h0 h1 h2 h3 h4
      go_wp2_with (refine wpList_store_at rfl 53 (.tmp 6) (.tmp 38) rfl (w.heap.size + 3) #[.int .i64 0, .int .i64 0, .int .i64 0, .int .i64 0, .int .i64 0, .slice none 0 0] rfl rfl 53 _ GZ.out info_qu rfl (by simp [Value.oneCell']) ?_)
      intro w8 hw8
      have B8 := Lib.hid (below_row BZ.out (show w.heap.size ≤ w.heap.size + 3 by omega) #[.int .i64 0, .int .i64 0, .int .i64 0, .int .i64 0, .int .i64 0, .slice none 0 0])
      have G8 := Lib.hid (blk_row GZ.out #[.int .i64 0, .int .i64 0, .int .i64 0, .int .i64 0, .int .i64 0, .slice none 0 0])
      rw [← hw8.out] at B8 G8
      clear hw8
      go_wp2
      refine ret_row_tmp rfl (w.heap.size + 3) 53 _ _ rfl G8.out Try.underlying53 rfl info_qu rfl ?_
      rw [HK.out]
      exact ⟨B8.out, rfl⟩
    | true =>
      go_wp2_with fail
      refine (HT1.out _ (HP.out.below BA.out) (HN.out.below BA.out)).mono ?_
      rintro e w2 ⟨rfl, b2⟩
      have B2 := Lib.hid (BA.out.trans (b2.mono BA.out.size))
      have Sw2 := Lib.hid (blk_below (blk_alloc Sw1.out (.cells #[.int .i64 ci, .int .i64 cf, .int .i64 ct, .int .i64 ca, .int .i64 cz, .slice Am nm cm] 53)) b2 (blk_lt (blk_alloc Sw1.out _))); have Fw2 := Lib.hid (blk_below (blk_alloc Fw1.out (.cells #[.int .i64 ci, .int .i64 cf, .int .i64 ct, .int .i64 ca, .int .i64 cz, .slice Am nm cm] 53)) b2 (blk_lt (blk_alloc Fw1.out _))); have Hw2 := Lib.hid (blk_below (blk_alloc Hw1.out (.cells #[.int .i64 ci, .int .i64 cf, .int .i64 ct, .int .i64 ca, .int .i64 cz, .slice Am nm cm] 53)) b2 (blk_lt (blk_alloc Hw1.out _)))
      have Rw2 := Lib.hid (blk_below R2.out b2 (blk_lt R2.out)); have Xw2 := Lib.hid (blk_below X1.out b2 (blk_lt X1.out))
      have I2 := Lib.hid ((HI3.out.below BB.out).below b2)
      clear b2
      clear s0 s1 s2 f0 f1 f2 h0 h1 h2 h3 h4
      have s0 : w2.cell? ⟨w.heap.size, 0, none⟩ = some (.int .i64 fr) := blk_cell Sw2.out 0
      have s1 : w2.cell? ⟨w.heap.size, 1, none⟩ = some (.slice Ap np cp) := blk_cell Sw2.out 1
      have s2 : w2.cell? ⟨w.heap.size, 2, none⟩ = some (.slice Aq nq cq) := blk_cell Sw2.out 2
      have f0 : w2.cell? ⟨w.heap.size + 1, 0, none⟩ = some (.slice Aw nw cw) := blk_cell Fw2.out 0
      have f1 : w2.cell? ⟨w.heap.size + 1, 1, none⟩ = some (.slice An nn cn) := blk_cell Fw2.out 1
      have f2 : w2.cell? ⟨w.heap.size + 1, 2, none⟩ = some (.slice Ac nc cc) := blk_cell Fw2.out 2
      have h0 : w2.cell? ⟨w.heap.size + 1 + 1, 0, none⟩ = some (.int .i64 ci) := blk_cell Hw2.out 0
      have h1 : w2.cell? ⟨w.heap.size + 1 + 1, 1, none⟩ = some (.int .i64 cf) := blk_cell Hw2.out 1
      have h2 : w2.cell? ⟨w.heap.size + 1 + 1, 2, none⟩ = some (.int .i64 ct) := blk_cell Hw2.out 2
      have h3 : w2.cell? ⟨w.heap.size + 1 + 1, 3, none⟩ = some (.int .i64 ca) := blk_cell Hw2.out 3
      have h4 : w2.cell? ⟨w.heap.size + 1 + 1, 4, none⟩ = some (.int .i64 cz) := blk_cell Hw2.out 4
      go_wp2_with fail
      refine (HT2.out _ (HP.out.below B2.out) (HN.out.below B2.out)).mono ?_
      rintro e w3 ⟨rfl, b3⟩
      have B3 := Lib.hid (B2.out.trans (b3.mono B2.out.size))
      have Rw3 := Lib.hid (blk_below Rw2.out b3 (blk_lt Rw2.out)); have Xw3 := Lib.hid (blk_below Xw2.out b3 (blk_lt Xw2.out)); have Hw3 := Lib.hid (blk_below Hw2.out b3 (blk_lt Hw2.out))
      have I3 := Lib.hid (I2.out.below b3)
      clear b3
      clear s0 s1 s2 f0 f1 f2 h0 h1 h2 h3 h4
      cases k2 with
      | false =>
        have HK := Lib.hid (show queueP ps pn qs ⟨ci, cf, ct, ca, cz⟩ = none by unfold queueP; rw [hfd]; exact if_neg (fun hh => by rw [HK2.out] at hh; cases hh.2))
        clear hfd
        have BZ := B3; have GZ := Rw3
        go_wp2_with (refine wpList_store_at rfl 53 (.tmp 6) (.tmp 38) rfl (w.heap.size + 3) #[.int .i64 0, .int .i64 0, .int .i64 0, .int .i64 0, .int .i64 0, .slice none 0 0] rfl rfl 53 _ GZ.out info_qu rfl (by simp [Value.oneCell']) ?_)
        intro w8 hw8
        have B8 := Lib.hid (below_row BZ.out (show w.heap.size ≤ w.heap.size + 3 by omega) #[.int .i64 0, .int .i64 0, .int .i64 0, .int .i64 0, .int .i64 0, .slice none 0 0])
        have G8 := Lib.hid (blk_row GZ.out #[.int .i64 0, .int .i64 0, .int .i64 0, .int .i64 0, .int .i64 0, .slice none 0 0])
        rw [← hw8.out] at B8 G8
        clear hw8
        go_wp2
        refine ret_row_tmp rfl (w.heap.size + 3) 53 _ _ rfl G8.out Try.underlying53 rfl info_qu rfl ?_
        rw [HK.out]
        exact ⟨B8.out, rfl⟩
      | true =>
        have HK := Lib.hid (show queueP ps pn qs ⟨ci, cf, ct, ca, cz⟩ = some msgs by unfold queueP; rw [hfd]; exact if_pos ⟨HK1.out, HK2.out⟩)
        clear hfd
        have x5 := blk_cell Xw3.out 5
        go_wp2_with fail
        obtain ⟨i0, hi, hz0, hz1, hz2⟩ := info_parts info_row
        have hnmi : (nm : Int) ≤ 1000000 := by omega
        clear x5
        obtain ⟨w9, hw9⟩ : ∃ w9 : World, w9 = w3 := ⟨_, rfl⟩
        rw [← hw9] at B3 Rw3 Hw3 I3 ⊢
        clear hw9 Xw3
        go_loopw [10, 42] (fun v iv wr => ∃ k : Nat, k ≤ nm ∧ iv = .int .i64 k ∧ Grow w9.heap.size wr v (msgs.take k) ∧ Below w9.heap.size w9 wr) (fun _ iv _ => nm - (intOf iv).toNat)
        case atStart => exact ⟨0, Nat.zero_le _, rfl, by rw [List.take_zero]; exact Grow.nil _ _, Below.refl _ _⟩
        case round =>
          obtain ⟨k, hk, rfl, hg, hb⟩ := hrel
          have HB := Lib.hid hb; have hz := hb.size
          have HQL := Lib.hid (show (msgs.take k).length = k by rw [List.length_take, HNM.out]; omega)
          obtain ⟨A5, c5, rfl, hc5, hA5, _, ho5⟩ := hg.form
          rw [HQL.out] at hg hc5 ⊢
          have HG := Lib.hid hg; have HO5 := Lib.hid ho5; have HA5 := Lib.hid hA5
          clear hb hg ho5 hA5
          by_cases hkl : k < nm
          · have hki : (k : Int) < (nm : Int) := by omega
            have hk0 : (0 : Int) ≤ (k : Int) := by omega
            obtain ⟨b, off, rfl⟩ := I3.out.addr (by rw [HNM.out]; omega)
            obtain ⟨m, hm⟩ : ∃ m, msgs[k]? = some m := ⟨_, List.getElem?_eq_getElem (by rw [HNM.out]; exact hkl)⟩
            obtain ⟨Ax, cx, cxc, hxc, hxA, hrx⟩ := (I3.out.below HB.out).at hm
            have HTK := Lib.hid (show msgs.take (k + 1) = msgs.take k ++ [m] by rw [List.take_add_one, hm]; rfl)
            have TC := clone Ax cx m hxA hxc (HQX.out m (List.mem_of_getElem? hm)) wr hrx
            obtain ⟨r, hr⟩ : ∃ r, m.length = r := ⟨_, rfl⟩
            rw [hr] at cxc TC
            have HTC := Lib.hid TC
            have HR := Lib.hid hr
            clear TC hm hxc hxA hrx hr
            go_wp2_with fail
            refine HTC.out.mono ?_
            rintro e w5 ⟨v5, rfl, hcp⟩
            have b5 : Below wr.heap.size wr w5 := by obtain ⟨_, _, _, _, _, _, _, hb5⟩ := hcp; exact hb5
            have HM5 := Lib.hid hcp.msg
            obtain ⟨Ay, cy, rfl, _⟩ := hcp.msg
            rw [HR.out]
            have HM5' := Lib.hid (show MsgAt wr.heap.size w5.heap.size w5 (.slice Ay r cy) m by rw [← HR.out]; exact HM5.out)
            have hgw := HG.out.below b5
            obtain ⟨vs, hown, hvl, hms⟩ := hgw.own
            rw [HQL.out] at hown hvl
            have HOWN := Lib.hid hown; have HVL := Lib.hid hvl; have HMS := Lib.hid hms
            have hsz := Nat.le_trans hz b5.size
            have B5 := Lib.hid b5
            clear hgw hown hvl hms b5 hcp
            go_wp2_with (at_builtin; refine wpList_append_rd _ rfl (.tmp 46) (.tmp 49) 51 rfl w9.heap.size 38 i0 (.slice none 0 0) 1 24 Try.underlying51 hi hz0 hz1 hz2 rfl (by decide) _ k vs rfl (HOWN.out.alloc _) _ 1 _ [.slice Ay r cy] rfl rfl (Rd.new _ _ _) ?d2 ?d3 ?d4 ?d5 ?_)
            case d2 => first | rfl | (intro u hu; simp at hu; subst hu; rfl)
            case d3 => unfold maxLen; omega
            case d4 => omega
            case d5 => first | omega | (simp; omega)
            intro v6 w6 hown6 hg6
            have hb6 := below_own ((HB.out.trans (B5.out.mono hz)).alloc hsz (.cells #[.slice Ay r cy] 38)) (HOWN.out.alloc _) hg6 (by simp; omega)
            have HG6 := Lib.hid (show Grow w9.heap.size w6 v6 (msgs.take (k + 1)) from by
              rw [HTK.out]
              have hBA := (Below.refl w5.heap.size w5).alloc (Nat.le_refl _) (.cells #[.slice Ay r cy] 38)
              refine Grow.snoc (vs := vs) (by rw [HQL.out]; exact HOWN.out.alloc _) (by rw [HQL.out]; exact HVL.out) (fun j x hx => ?_) ((HM5'.out.below hBA (Nat.le_refl _)).mono hz hBA.size) (by rw [HQL.out]; exact hown6) hg6
              obtain ⟨u, e1, e2⟩ := HMS.out j x hx
              exact ⟨u, e1, (e2.below hBA (Nat.le_refl _)).mono (Nat.le_refl _) hBA.size⟩)
            have HB6 := Lib.hid hb6
            clear hown6 hg6 hb6
            go_wp2_with fail
            go_roundw
            case rel => exact ⟨k + 1, by omega, by go_num, HG6.out, HB6.out⟩
            case measure => simp [intOf]; omega
          · have hki : ¬ (k : Int) < (nm : Int) := by omega
            obtain rfl : k = nm := by omega
            have Hwr := Lib.hid (blk_below Hw3.out HB.out (blk_lt Hw3.out)); have Rwr := Lib.hid (blk_below Rw3.out HB.out (blk_lt Rw3.out))
            have h0 : wr.cell? ⟨w.heap.size + 1 + 1, 0, none⟩ = some (.int .i64 ci) := blk_cell Hwr.out 0
            have h1 : wr.cell? ⟨w.heap.size + 1 + 1, 1, none⟩ = some (.int .i64 cf) := blk_cell Hwr.out 1
            have h2 : wr.cell? ⟨w.heap.size + 1 + 1, 2, none⟩ = some (.int .i64 ct) := blk_cell Hwr.out 2
            have h3 : wr.cell? ⟨w.heap.size + 1 + 1, 3, none⟩ = some (.int .i64 ca) := blk_cell Hwr.out 3
            have h4 : wr.cell? ⟨w.heap.size + 1 + 1, 4, none⟩ = some (.int .i64 cz) := blk_cell Hwr.out 4
            go_wp2_with (refine wpList_store_at rfl 53 (.tmp 6) (.tmp 54) rfl (w.heap.size + 3) #[.int .i64 ci, .int .i64 cf, .int .i64 ct, .int .i64 ca, .int .i64 cz, .slice A5 k c5] rfl rfl 53 _ Rwr.out info_qu rfl (by simp [Value.oneCell']) ?_)
            intro w8 hw8
            have B8 := Lib.hid (below_row (B3.out.trans (HB.out.mono B3.out.size)) (show w.heap.size ≤ w.heap.size + 3 by omega) #[.int .i64 ci, .int .i64 cf, .int .i64 ct, .int .i64 ca, .int .i64 cz, .slice A5 k c5])
            have G8 := Lib.hid (blk_row Rwr.out #[.int .i64 ci, .int .i64 cf, .int .i64 ct, .int .i64 ca, .int .i64 cz, .slice A5 k c5])
            have O8 := Lib.hid (show Own2 w.heap.size wr.heap.size (wr.setRow (w.heap.size + 3) #[.int .i64 ci, .int .i64 cf, .int .i64 ct, .int .i64 ca, .int .i64 cz, .slice A5 k c5]) A5 msgs from by
              have h := (Own2.row HO5.out Rwr.out (by decide) (by decide) #[.int .i64 ci, .int .i64 cf, .int .i64 ct, .int .i64 ca, .int .i64 cz, .slice A5 k c5]).mono B3.out.size (Nat.le_refl _)
              rwa [List.take_of_length_le (by rw [HNM.out]; exact Nat.le_refl _)] at h)
            have Z8 := Lib.hid (show w8.heap.size = wr.heap.size by rw [hw8.out, size_row])
            rw [← hw8.out] at B8 G8 O8
            clear hw8
            go_wp2
            refine ret_row_tmp rfl (w.heap.size + 3) 53 _ _ rfl G8.out Try.underlying53 rfl info_qu rfl ?_
            rw [HK.out]
            exact ⟨B8.out, A5, c5, by simp only [HNM.out]; rfl, by rw [HNM.out]; exact hc5, HA5.out, by rw [Z8.out]; exact O8.out⟩
end Go.Proofs.Ytnfjkpeifleogaa.mv
