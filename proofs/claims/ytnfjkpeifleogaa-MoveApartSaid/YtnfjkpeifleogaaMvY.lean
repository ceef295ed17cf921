/- Moves: the reference's copy of a state: rows of its own that lie apart; no condition. -/
import Derived.Test.YtnfjkpeifleogaaRows
import Derived.Test.YtnfjkpeifleogaaMvX
import Derived.Deep.Cut
namespace Go.Proofs.Ytnfjkpeifleogaa.mv
open Go Go.ChangeShapes Go.WideShapes Go.ChangeAt Go.RowKit Go.Proofs.Ytnfjkpeifleogaa.rows
/-- No two parts share their memory. -/
def SepP (us : List (Sl Pt)) : Prop := ∀ (i j : Nat) (ui uj : Sl Pt), us[i]? = some ui → us[j]? = some uj → i ≠ j → ui.1.mem ≠ [] → uj.1.mem ≠ [] → ui.2.1 ≠ uj.2.1
/-- No queue's row lies in another one's block. -/
def SepQ (us : List (Sl Qu)) : Prop := ∀ (i j : Nat) (ui uj : Sl Qu) (g : Nat), us[i]? = some ui → us[j]? = some uj → i ≠ j → ui.2.1 = some ⟨g, 0, none⟩ → uj.2.1 ≠ some ⟨g, 0, none⟩
def GrowPS (lo hi : Nat) (w : World) (v : Value) (xs : List Pt) : Prop := ∃ us : List (Sl Pt), us.map (·.1) = xs ∧ w.ownsRow lo 44 14 v xs.length (flat Pt.cells us) ∧ (∀ u ∈ us, MsgAt lo hi w (.slice u.2.1 u.1.mem.length u.2.2) u.1.mem) ∧ SepP us
def GrowRS (lo lm : Nat) (w : World) (v : Value) (xs : List Qu) : Prop := ∃ us : List (Sl Qu), us.map (·.1) = xs ∧ w.ownsRow lo 53 6 v xs.length (flat Qu.cells us) ∧ (∀ u ∈ us, Grow lm w (.slice u.2.1 u.1.msgs.length u.2.2) u.1.msgs) ∧ SepQ us
theorem GrowPS.nil (lo hi : Nat) (w : World) : GrowPS lo hi w (.slice none 0 0) [] := ⟨[], rfl, World.ownsRow_nil _ _ _ _, fun u hu => (by cases hu), fun i j ui uj h => by simp at h⟩
theorem GrowRS.nil (lo lm : Nat) (w : World) : GrowRS lo lm w (.slice none 0 0) [] := ⟨[], rfl, World.ownsRow_nil _ _ _ _, fun u hu => (by cases hu), fun i j ui uj g h => by simp at h⟩
theorem GrowPS.below {lo hi : Nat} {w w' : World} {v : Value} {xs : List Pt} (h : GrowPS lo hi w v xs) (hb : Below w.heap.size w w') (hh : hi ≤ w.heap.size) : GrowPS lo hi w' v xs := by
  obtain ⟨us, e1, e2, e3, e4⟩ := h
  exact ⟨us, e1, own_below e2 hb, fun u hu => MsgAt.below (e3 u hu) hb hh, e4⟩
theorem GrowRS.below {lo lm : Nat} {w w' : World} {v : Value} {xs : List Qu} (h : GrowRS lo lm w v xs) (hb : Below w.heap.size w w') : GrowRS lo lm w' v xs := by
  obtain ⟨us, e1, e2, e3, e4⟩ := h
  exact ⟨us, e1, own_below e2 hb, fun u hu => Grow.below (e3 u hu) hb, e4⟩
theorem msg_keptH {T0 : TypeId} {lo hi : Nat} {w w' : World} {v : Value} {l : Msg} (h : MsgAt lo hi w v l) (hT : 5 ≠ T0) (k : KeptX T0 w w') : MsgAt lo hi w' v l := by
  obtain ⟨A, c, e1, e2, e3, e4, e5⟩ := h
  exact ⟨A, c, e1, e2, e3, e4, RowIn.keptX e5 hT k⟩
theorem GrowPS.keptX {T0 : TypeId} (h1 : 44 ≠ T0) (h2 : 5 ≠ T0) {lo hi : Nat} {w w' : World} {v : Value} {xs : List Pt} (h : GrowPS lo hi w v xs) (k : KeptX T0 w w') : GrowPS lo hi w' v xs := by
  obtain ⟨us, e1, e2, e3, e4⟩ := h
  exact ⟨us, e1, own_keptX e2 h1 k, fun u hu => msg_keptH (e3 u hu) h2 k, e4⟩
theorem GrowRS.keptX {T0 : TypeId} (h1 : 53 ≠ T0) (h2 : 5 ≠ T0) (h3 : 38 ≠ T0) {lo lm : Nat} {w w' : World} {v : Value} {xs : List Qu} (h : GrowRS lo lm w v xs) (k : KeptX T0 w w') : GrowRS lo lm w' v xs := by
  obtain ⟨us, e1, e2, e3, e4⟩ := h
  exact ⟨us, e1, own_keptX e2 h1 k, fun u hu => Grow.keptX h2 h3 (e3 u hu) k, e4⟩
theorem GrowPS.mono {lo lo' hi hi' : Nat} {w : World} {v : Value} {xs : List Pt} (h : GrowPS lo hi w v xs) (hl : lo' ≤ lo) (hh : hi ≤ hi') : GrowPS lo' hi' w v xs := by
  obtain ⟨us, e1, e2, e3, e4⟩ := h
  exact ⟨us, e1, own_lo e2 hl, fun u hu => MsgAt.mono (e3 u hu) hl hh, e4⟩
theorem GrowRS.lo {lo lo' lm : Nat} {w : World} {v : Value} {xs : List Qu} (h : GrowRS lo lm w v xs) (hl : lo' ≤ lo) : GrowRS lo' lm w v xs := by
  obtain ⟨us, e1, e2, e3, e4⟩ := h
  exact ⟨us, e1, own_lo e2 hl, e3, e4⟩
theorem GrowPS.form {lo hi : Nat} {w : World} {v : Value} {xs : List Pt} (h : GrowPS lo hi w v xs) : ∃ A c, v = .slice A xs.length c ∧ Pts w A xs := by
  obtain ⟨us, e1, e2, e3, _⟩ := h
  obtain ⟨A, c, rfl, _, _, _, k4⟩ := own_form3s e2
  exact ⟨A, c, rfl, us, e1, k4, fun u hu => msg_in (e3 u hu)⟩
theorem GrowRS.form {lo lm : Nat} {w : World} {v : Value} {xs : List Qu} (h : GrowRS lo lm w v xs) : ∃ A c, v = .slice A xs.length c ∧ Qus w A xs := by
  obtain ⟨us, e1, e2, e3, _⟩ := h
  obtain ⟨A, c, rfl, _, _, _, k4⟩ := own_form3s e2
  exact ⟨A, c, rfl, us, e1, k4, fun u hu => by
    obtain ⟨A', c', e, h1, h2, _, h3⟩ := Grow.form (e3 u hu)
    injection e with eA _ ec
    rw [eA, ec]
    exact ⟨h1, h2, h3.rows⟩⟩
theorem msg_block {lo hi c : Nat} {w : World} {A : Option Addr} {l : Msg} (h : MsgAt lo hi w (.slice A l.length c) l) (hl : l ≠ []) : ∃ g, A = some ⟨g, 0, none⟩ ∧ lo ≤ g ∧ g < hi := by
  obtain ⟨A', c', e, _, _, h3, h4⟩ := h
  injection e with eA _ _
  subst eA
  rcases h3 with ⟨g, rfl⟩ | h3
  · rcases h4 with h4 | ⟨g', off, cs, e, k1, k2, _⟩
    · exfalso; apply hl; cases l with
      | nil => rfl
      | cons a l => cases h4
    · injection e with e; injection e with e1 _ _; subst e1; exact ⟨g, rfl, k1, k2⟩
  · exact absurd h3 hl
theorem grow_block {lo n c g : Nat} {w : World} {ls : List Msg} (h : Grow lo w (.slice (some ⟨g, 0, none⟩) n c) ls) : lo ≤ g ∧ g < w.heap.size := by
  obtain ⟨vs, _, h2, _⟩ := h
  rcases h2.2 with ⟨hv, _⟩ | ⟨g', cap, cur, hv, h1, hg, _⟩
  · cases hv
  · injection hv with hA _ _; injection hA with hA; injection hA with hA _ _; subst hA; exact ⟨h1, blk_lt hg⟩
theorem get_snoc {α : Type} {l : List α} {a : α} {i : Nat} {x : α} (h : (l ++ [a])[i]? = some x) : (i < l.length ∧ l[i]? = some x) ∨ (i = l.length ∧ x = a) := by
  by_cases hi : i < l.length
  · rw [List.getElem?_append_left hi] at h; exact .inl ⟨hi, h⟩
  · rw [List.getElem?_append_right (by omega)] at h
    have : i - l.length = 0 := by
      have := (List.getElem?_eq_some_iff.1 h).1
      simp at this; omega
    rw [this] at h
    simp at h
    exact .inr ⟨by omega, h.symm⟩
theorem SepP.snoc {us : List (Sl Pt)} {lo B hi : Nat} {w w' : World} {u : Sl Pt} (hs : SepP us) (hm : ∀ x ∈ us, MsgAt lo B w (.slice x.2.1 x.1.mem.length x.2.2) x.1.mem) (hu : MsgAt B hi w' (.slice u.2.1 u.1.mem.length u.2.2) u.1.mem) : SepP (us ++ [u]) := by
  intro i j ui uj hi' hj' hne h1 h2 e
  rcases get_snoc hi' with ⟨_, hi1⟩ | ⟨ei, rfl⟩ <;> rcases get_snoc hj' with ⟨_, hj1⟩ | ⟨ej, rfl⟩
  · exact hs i j ui uj hi1 hj1 hne h1 h2 e
  · obtain ⟨g, e1, _, k1⟩ := msg_block (hm ui (List.mem_of_getElem? hi1)) h1
    obtain ⟨g', e2, k2, _⟩ := msg_block hu h2
    rw [e1, e2] at e; injection e with e; injection e with e _ _; omega
  · obtain ⟨g, e1, _, k1⟩ := msg_block (hm uj (List.mem_of_getElem? hj1)) h2
    obtain ⟨g', e2, k2, _⟩ := msg_block hu h1
    rw [e1, e2] at e; injection e with e; injection e with e _ _; omega
  · omega
theorem SepQ.snoc {us : List (Sl Qu)} {lm B : Nat} {w w' : World} {u : Sl Qu} (hs : SepQ us) (hm : ∀ x ∈ us, Grow lm w (.slice x.2.1 x.1.msgs.length x.2.2) x.1.msgs) (hB : w.heap.size ≤ B) (hu : Grow B w' (.slice u.2.1 u.1.msgs.length u.2.2) u.1.msgs) : SepQ (us ++ [u]) := by
  intro i j ui uj g hi' hj' hne h1 h2
  rcases get_snoc hi' with ⟨_, hi1⟩ | ⟨ei, rfl⟩ <;> rcases get_snoc hj' with ⟨_, hj1⟩ | ⟨ej, rfl⟩
  · exact hs i j ui uj g hi1 hj1 hne h1 h2
  · have k1 := hm ui (List.mem_of_getElem? hi1)
    rw [h1] at k1; rw [h2] at hu
    have := grow_block k1; have := grow_block hu; omega
  · have k1 := hm uj (List.mem_of_getElem? hj1)
    rw [h2] at k1; rw [h1] at hu
    have := grow_block k1; have := grow_block hu; omega
  · omega
theorem GrowPS.step {lo B : Nat} {W W2 w5 : World} {v5 : Value} {us : List (Sl Pt)} {u : Sl Pt} {xs : List Pt} (hus : us.map (·.1) = xs) (hms : ∀ y ∈ us, MsgAt lo B W (.slice y.2.1 y.1.mem.length y.2.2) y.1.mem) (hB : B ≤ W.heap.size) (hu : MsgAt lo W.heap.size W (.slice u.2.1 u.1.mem.length u.2.2) u.1.mem) (hBA : Below W.heap.size W W2) (KX : KeptX 44 W2 w5)
    (ho : w5.ownsRow lo 44 14 v5 (xs.length + 1) (flat Pt.cells us ++ Pt.cells u.1 u.2.1 u.2.2)) (hs : SepP (us ++ [u])) : GrowPS lo w5.heap.size w5 v5 (xs ++ [u.1]) := by
  refine ⟨us ++ [u], by simp [hus], by rw [flat_snoc]; simpa using ho, fun y hy => ?_, hs⟩
  have hz := Nat.le_trans hBA.size KX.1
  rcases List.mem_append.1 hy with hy | hy
  · exact (msg_keptH (MsgAt.below (hms y hy) hBA hB) (by decide) KX).mono (Nat.le_refl _) (Nat.le_trans hB hz)
  · simp at hy; subst hy
    exact (msg_keptH (MsgAt.below hu hBA (Nat.le_refl _)) (by decide) KX).mono (Nat.le_refl _) hz
theorem GrowRS.step {lo lm : Nat} {W W2 w5 : World} {v5 : Value} {us : List (Sl Qu)} {u : Sl Qu} {xs : List Qu} (hus : us.map (·.1) = xs) (hms : ∀ y ∈ us, Grow lm W (.slice y.2.1 y.1.msgs.length y.2.2) y.1.msgs) (hu : Grow lm W (.slice u.2.1 u.1.msgs.length u.2.2) u.1.msgs) (hBA : Below W.heap.size W W2) (KX : KeptX 53 W2 w5)
    (ho : w5.ownsRow lo 53 6 v5 (xs.length + 1) (flat Qu.cells us ++ Qu.cells u.1 u.2.1 u.2.2)) (hs : SepQ (us ++ [u])) : GrowRS lo lm w5 v5 (xs ++ [u.1]) := by
  refine ⟨us ++ [u], by simp [hus], by rw [flat_snoc]; simpa using ho, fun y hy => ?_, hs⟩
  rcases List.mem_append.1 hy with hy | hy
  · exact Grow.keptX (by decide) (by decide) (Grow.below (hms y hy) hBA) KX
  · simp at hy; subst hy
    exact Grow.keptX (by decide) (by decide) (Grow.below hu hBA) KX
/-- A state in rows of its own that lie apart. -/
def CpSep (fr : Int) (n m : Nat) (xs : List Pt) (ys : List Qu) (w : World) (e : Ending) (w' : World) : Prop :=
  Below w.heap.size w w' ∧ ∃ A c B d mid, e = .returned (.agg #[.int .i64 fr, .slice A n c, .slice B m d]) ∧ w.heap.size ≤ mid ∧ mid ≤ w'.heap.size ∧ GrowPS w.heap.size mid w' (.slice A n c) xs ∧ GrowRS w.heap.size mid w' (.slice B m d) ys
set_option maxRecDepth 100000 in
set_option maxHeartbeats 8000000 in
theorem copy_sep (fr : Int) (xs : List Pt) (ys : List Qu) (Ap Aq : Option Addr) (n m cp cq : Nat) (hn : xs.length = n) (hm : ys.length = m) (h63 : n ≤ 1000000) (h64 : m ≤ 1000000) (hml : ∀ x ∈ xs, x.mem.length ≤ 1000000) (hqm : ∀ q ∈ ys, q.msgs.length ≤ 1000000 ∧ ∀ m ∈ q.msgs, m.length ≤ 1000000) (w : World) (h1 : Pts w Ap xs) (h2 : Qus w Aq ys) :
    Calls Try.prog 15 #[.agg #[.int .i64 fr, .slice Ap n cp, .slice Aq m cq]] w (CpSep fr n m xs ys w) := by
  obtain ⟨i0, hi, hz0, hz1, hz2⟩ := info_parts info_ptz
  obtain ⟨j0, ji, jz0, jz1, jz2⟩ := info_parts info_quz
  obtain ⟨l0, li, lz0, lz1, lz2⟩ := info_parts info_row
  have hB2 := ((((Below.refl w.heap.size w).alloc (Nat.le_refl _) (.cells #[.int .i64 fr, .slice Ap n cp, .slice Aq m cq] 25)).alloc (by simp) (.cells #[.int .i64 0, .slice none 0 0, .slice none 0 0] 25)).alloc (by simp; omega) (.cells #[.int .i64 fr, .slice none 0 0, .slice none 0 0] 25))
  have hs2 : (((w.alloc (.cells #[.int .i64 fr, .slice Ap n cp, .slice Aq m cq] 25)).alloc (.cells #[.int .i64 0, .slice none 0 0, .slice none 0 0] 25)).alloc (.cells #[.int .i64 fr, .slice none 0 0, .slice none 0 0] 25)).heap.size = w.heap.size + 3 := by simp
  have g0 := blk_alloc (blk_new w #[.int .i64 fr, .slice Ap n cp, .slice Aq m cq] 25) (.cells #[.int .i64 0, .slice none 0 0, .slice none 0 0] 25)
  have a0 := blk_cell g0 0
  have G0 := Lib.hid (blk_alloc g0 (.cells #[.int .i64 fr, .slice none 0 0, .slice none 0 0] 25))
  have G1 := Lib.hid (blk_alloc (show ((w.alloc (.cells #[.int .i64 fr, .slice Ap n cp, .slice Aq m cq] 25)).alloc (.cells #[.int .i64 0, .slice none 0 0, .slice none 0 0] 25)).heap[w.heap.size + 1]? = some (.cells #[.int .i64 0, .slice none 0 0, .slice none 0 0] 25 (0, 0)) by have := blk_new (w.alloc (.cells #[.int .i64 fr, .slice Ap n cp, .slice Aq m cq] 25)) #[.int .i64 0, .slice none 0 0, .slice none 0 0] 25; simpa using this) (.cells #[.int .i64 fr, .slice none 0 0, .slice none 0 0] 25))
  have G2 := Lib.hid (show (((w.alloc (.cells #[.int .i64 fr, .slice Ap n cp, .slice Aq m cq] 25)).alloc (.cells #[.int .i64 0, .slice none 0 0, .slice none 0 0] 25)).alloc (.cells #[.int .i64 fr, .slice none 0 0, .slice none 0 0] 25)).heap[w.heap.size + 2]? = some (.cells #[.int .i64 fr, .slice none 0 0, .slice none 0 0] 25 (0, 0)) by have := blk_new ((w.alloc (.cells #[.int .i64 fr, .slice Ap n cp, .slice Aq m cq] 25)).alloc (.cells #[.int .i64 0, .slice none 0 0, .slice none 0 0] 25)) #[.int .i64 fr, .slice none 0 0, .slice none 0 0] 25; simpa using this)
  have HB := Lib.hid hB2; have HS := Lib.hid hs2
  have H1 := Lib.hid h1; have H2 := Lib.hid h2
  have HN := Lib.hid hn; have HM := Lib.hid hm; have ML := Lib.hid hml; have QM := Lib.hid hqm
  have h63i : (n : Int) ≤ 1000000 := by omega
  have h64i : (m : Int) ≤ 1000000 := by omega
  clear h1 h2 hn hm hml hqm hB2 hs2 g0
  go_enter Try.func15, Try.ntmps15
  go_wp2_with fail
  clear a0
  generalize (((w.alloc (.cells #[.int .i64 fr, .slice Ap n cp, .slice Aq m cq] 25)).alloc (.cells #[.int .i64 0, .slice none 0 0, .slice none 0 0] 25)).alloc (.cells #[.int .i64 fr, .slice none 0 0, .slice none 0 0] 25)) = wb at *
  go_loopw [4] (fun iv wr => ∃ k : Nat, k ≤ n ∧ iv = .int .i64 k ∧ ∃ v, wr.heap[w.heap.size + 2]? = some (.cells #[.int .i64 fr, v, .slice none 0 0] 25 (0, 0)) ∧ GrowPS (w.heap.size + 3) wr.heap.size wr v (xs.take k) ∧ Below (w.heap.size + 2) wb wr) (fun iv _ => n - (intOf iv).toNat)
  case atStart => exact ⟨0, Nat.zero_le _, rfl, _, G2.out, by rw [List.take_zero]; exact GrowPS.nil _ _ _, Below.refl _ _⟩
  case round =>
    obtain ⟨k, hk, rfl, v, ho, hg, hb⟩ := hrel
    have HO := Lib.hid ho; have BR := Lib.hid hb; have hz := hb.size
    have hzw : w.heap.size + 3 ≤ wr.heap.size := by rw [← HS.out]; exact hz
    have HQL := Lib.hid (show (xs.take k).length = k by rw [List.length_take, HN.out]; omega)
    obtain ⟨Av, cv, rfl, _⟩ := hg.form
    have HG := Lib.hid hg
    clear ho hb hg
    rw [HQL.out] at HG HO
    have HBR := Lib.hid (HB.out.trans (BR.out.mono (Nat.le_add_right _ 2)))
    have SR := Lib.hid (blk_below G0.out BR.out (by omega))
    have s1 := blk_cell SR.out 1
    by_cases hkl : k < n
    · have hki : (k : Int) < (n : Int) := by omega
      obtain ⟨x, hx⟩ : ∃ x, xs[k]? = some x := ⟨_, List.getElem?_eq_getElem (by rw [HN.out]; exact hkl)⟩
      obtain ⟨b, off, rfl, _⟩ := Rws.addr pt_len (by decide) H1.out (by rw [HN.out]; omega)
      obtain ⟨A1, c1, hin, hc⟩ := Rws.at pt_len (Pts.below H1.out HBR.out) hx
      have y0 := hc 0 _ rfl
      have y1 := hc 1 _ rfl
      have y2 := hc 2 _ rfl
      have y3 := hc 3 _ rfl
      have y4 := hc 4 _ rfl
      have y5 := hc 5 _ rfl
      have y6 := hc 6 _ rfl
      have y7 := hc 7 _ rfl
      have y8 := hc 8 _ rfl
      have y9 := hc 9 _ rfl
      have y10 := hc 10 _ rfl
      have y11 := hc 11 _ rfl
      have y12 := hc 12 _ rfl
      have y13 := hc 13 _ rfl
      dsimp only [Pt.cells, Nat.add_zero] at y0 y1 y2 y3 y4 y5 y6 y7 y8 y9 y10 y11 y12 y13
      have HTK := Lib.hid (show xs.take (k + 1) = xs.take k ++ [x] by rw [List.take_add_one, hx]; rfl)
      have XA := Lib.hid (blk_new wr #[.int .i64 x.id, .int .i64 x.size, .bool x.keep, .int .u32 x.r0, .int .u32 x.r1, .int .u32 x.r2, .int .u32 x.r3, .int .u32 x.r4, .int .u32 x.r5, .int .u32 x.r6, .int .u32 x.r7, .int .u32 x.pc, .int .u8 x.st, .slice A1 x.mem.length c1] 44)
      have x13 := blk_cell XA.out 13
      have T := Lib.hid (ref_copy x.mem A1 x.mem.length c1 rfl (ML.out x (List.mem_of_getElem? hx)) (wr.alloc (.cells #[.int .i64 x.id, .int .i64 x.size, .bool x.keep, .int .u32 x.r0, .int .u32 x.r1, .int .u32 x.r2, .int .u32 x.r3, .int .u32 x.r4, .int .u32 x.r5, .int .u32 x.r6, .int .u32 x.r7, .int .u32 x.pc, .int .u8 x.st, .slice A1 x.mem.length c1] 44)) (hin.2.2.below (ext1 wr (.cells #[.int .i64 x.id, .int .i64 x.size, .bool x.keep, .int .u32 x.r0, .int .u32 x.r1, .int .u32 x.r2, .int .u32 x.r3, .int .u32 x.r4, .int .u32 x.r5, .int .u32 x.r6, .int .u32 x.r7, .int .u32 x.pc, .int .u8 x.st, .slice A1 x.mem.length c1] 44))))
      clear hx hc hin
      go_wp2_with fail
      refine T.out.mono ?_
      rintro e w4 ⟨b4, A9, c9, rfl, hmsg⟩
      have z4 : wr.heap.size + 1 ≤ w4.heap.size := by have := b4.size; simpa using this
      have XB := Lib.hid (blk_below XA.out b4 (blk_lt XA.out))
      have OU4 := Lib.hid (blk_below (blk_alloc HO.out (.cells #[.int .i64 x.id, .int .i64 x.size, .bool x.keep, .int .u32 x.r0, .int .u32 x.r1, .int .u32 x.r2, .int .u32 x.r3, .int .u32 x.r4, .int .u32 x.r5, .int .u32 x.r6, .int .u32 x.r7, .int .u32 x.pc, .int .u8 x.st, .slice A1 x.mem.length c1] 44)) b4 (blk_lt (blk_alloc HO.out _)))
      clear T x13 XA s1 y0 y1 y2 y3 y4 y5 y6 y7 y8 y9 y10 y11 y12 y13
      have x13 := blk_cell XB.out 13; have f13 := blk_frozen XB.out 13
      go_upto_region 7 with fail
      have KX4 := Lib.hid (show KeptX 44 w4 (w4.setCell ⟨wr.heap.size, 13, none⟩ (.slice A9 x.mem.length c9)) from KeptX.set XB.out 13 _)
      have XC := Lib.hid (show (w4.setCell ⟨wr.heap.size, 13, none⟩ (.slice A9 x.mem.length c9)).heap[wr.heap.size]? = some (.cells #[.int .i64 x.id, .int .i64 x.size, .bool x.keep, .int .u32 x.r0, .int .u32 x.r1, .int .u32 x.r2, .int .u32 x.r3, .int .u32 x.r4, .int .u32 x.r5, .int .u32 x.r6, .int .u32 x.r7, .int .u32 x.pc, .int .u8 x.st, .slice A9 x.mem.length c9] 44 (0, 0)) from blk_set XB.out 13 _)
      have OUTW := Lib.hid (KX4.out.2 _ _ _ (by decide) OU4.out)
      have BW := Lib.hid (((ext1 wr (.cells #[.int .i64 x.id, .int .i64 x.size, .bool x.keep, .int .u32 x.r0, .int .u32 x.r1, .int .u32 x.r2, .int .u32 x.r3, .int .u32 x.r4, .int .u32 x.r5, .int .u32 x.r6, .int .u32 x.r7, .int .u32 x.pc, .int .u8 x.st, .slice A1 x.mem.length c1] 44)).trans (b4.mono (ext1 wr (.cells #[.int .i64 x.id, .int .i64 x.size, .bool x.keep, .int .u32 x.r0, .int .u32 x.r1, .int .u32 x.r2, .int .u32 x.r3, .int .u32 x.r4, .int .u32 x.r5, .int .u32 x.r6, .int .u32 x.r7, .int .u32 x.pc, .int .u8 x.st, .slice A1 x.mem.length c1] 44)).size)).setCell (p := ⟨wr.heap.size, 13, none⟩) (Nat.le_refl _) (.slice A9 x.mem.length c9))
      have HMSG := Lib.hid (show ownB (w.heap.size + 3) (w4.setCell ⟨wr.heap.size, 13, none⟩ (.slice A9 x.mem.length c9)).heap.size (w4.setCell ⟨wr.heap.size, 13, none⟩ (.slice A9 x.mem.length c9)) A9 c9 x from msg_keptX (hmsg.mono (Nat.le_trans hzw (ext1 wr (.cells #[.int .i64 x.id, .int .i64 x.size, .bool x.keep, .int .u32 x.r0, .int .u32 x.r1, .int .u32 x.r2, .int .u32 x.r3, .int .u32 x.r4, .int .u32 x.r5, .int .u32 x.r6, .int .u32 x.r7, .int .u32 x.pc, .int .u8 x.st, .slice A1 x.mem.length c1] 44)).size) (Nat.le_refl _)) (by decide) KX4.out)
      have HNEW := Lib.hid (hmsg.mono (ext1 wr (.cells #[.int .i64 x.id, .int .i64 x.size, .bool x.keep, .int .u32 x.r0, .int .u32 x.r1, .int .u32 x.r2, .int .u32 x.r3, .int .u32 x.r4, .int .u32 x.r5, .int .u32 x.r6, .int .u32 x.r7, .int .u32 x.pc, .int .u8 x.st, .slice A1 x.mem.length c1] 44)).size (Nat.le_refl _))
      clear KX4 OU4 b4 hmsg x13 f13 XB
      generalize (w4.setCell ⟨wr.heap.size, 13, none⟩ (.slice A9 x.mem.length c9)) = w7 at XC OUTW BW HMSG ⊢
      have o1 := blk_cell OUTW.out 1
      have y0 := blk_cell XC.out 0
      have y1 := blk_cell XC.out 1
      have y2 := blk_cell XC.out 2
      have y3 := blk_cell XC.out 3
      have y4 := blk_cell XC.out 4
      have y5 := blk_cell XC.out 5
      have y6 := blk_cell XC.out 6
      have y7 := blk_cell XC.out 7
      have y8 := blk_cell XC.out 8
      have y9 := blk_cell XC.out 9
      have y10 := blk_cell XC.out 10
      have y11 := blk_cell XC.out 11
      have y12 := blk_cell XC.out 12
      have y13 := blk_cell XC.out 13
      obtain ⟨us, hus, hown0, hms0, hsep⟩ := HG.out
      have hown := own_below hown0 BW.out
      rw [HQL.out] at hown
      have hms := fun u hu => MsgAt.below (hms0 u hu) BW.out (Nat.le_refl _)
      have HSEP := Lib.hid (SepP.snoc (u := (x, A9, c9)) hsep hms0 HNEW.out)
      have HUS := Lib.hid hus; have HOWN := Lib.hid hown; have HMS := Lib.hid hms
      have hsz := Nat.le_trans hz BW.out.size
      have hwz := Nat.le_trans hzw BW.out.size
      have HUL := Lib.hid (show us.length = k by rw [← HQL.out, ← hus, List.length_map])
      clear hus hown hms hown0 hms0 hsep
      go_wp2_with (at_builtin; refine wpList_append_rd _ rfl (.tmp 29) (.tmp 31) 22 rfl (w.heap.size + 3) 44 i0 (.agg #[.int .i64 0, .int .i64 0, .bool false, .int .u32 0, .int .u32 0, .int .u32 0, .int .u32 0, .int .u32 0, .int .u32 0, .int .u32 0, .int .u32 0, .int .u32 0, .int .u8 0, .slice none 0 0]) 14 88 Try.underlying22 hi hz0 hz1 hz2 rfl (by decide) _ k (flat Pt.cells us) rfl (HOWN.out.alloc _) _ 1 _ #[.int .i64 x.id, .int .i64 x.size, .bool x.keep, .int .u32 x.r0, .int .u32 x.r1, .int .u32 x.r2, .int .u32 x.r3, .int .u32 x.r4, .int .u32 x.r5, .int .u32 x.r6, .int .u32 x.r7, .int .u32 x.pc, .int .u8 x.st, .slice A9 x.mem.length c9].toList rfl rfl (Rd.new _ _ _) ?d2 ?d3 ?d4 ?d5 ?_)
      case d2 => simp [Value.oneCell']
      case d3 => unfold maxLen; omega
      case d4 => omega
      case d5 => first | omega | (simp; omega)
      intro v5 w5 hown5 hg5
      have BA9 := Lib.hid (ext1 w7 (.cells #[.int .i64 x.id, .int .i64 x.size, .bool x.keep, .int .u32 x.r0, .int .u32 x.r1, .int .u32 x.r2, .int .u32 x.r3, .int .u32 x.r4, .int .u32 x.r5, .int .u32 x.r6, .int .u32 x.r7, .int .u32 x.pc, .int .u8 x.st, .slice A9 x.mem.length c9] 44))
      have KX := Lib.hid (KeptX.grown (HOWN.out.alloc (.cells #[.int .i64 x.id, .int .i64 x.size, .bool x.keep, .int .u32 x.r0, .int .u32 x.r1, .int .u32 x.r2, .int .u32 x.r3, .int .u32 x.r4, .int .u32 x.r5, .int .u32 x.r6, .int .u32 x.r7, .int .u32 x.pc, .int .u8 x.st, .slice A9 x.mem.length c9] 44)) hg5)
      have O5 := Lib.hid (KX.out.2 _ _ _ (by decide) (blk_alloc OUTW.out (.cells #[.int .i64 x.id, .int .i64 x.size, .bool x.keep, .int .u32 x.r0, .int .u32 x.r1, .int .u32 x.r2, .int .u32 x.r3, .int .u32 x.r4, .int .u32 x.r5, .int .u32 x.r6, .int .u32 x.r7, .int .u32 x.pc, .int .u8 x.st, .slice A9 x.mem.length c9] 44)))
      have hb5 := below_own (B := w.heap.size + 2) ((BR.out.trans (BW.out.mono (by omega))).alloc (by omega) (.cells #[.int .i64 x.id, .int .i64 x.size, .bool x.keep, .int .u32 x.r0, .int .u32 x.r1, .int .u32 x.r2, .int .u32 x.r3, .int .u32 x.r4, .int .u32 x.r5, .int .u32 x.r6, .int .u32 x.r7, .int .u32 x.pc, .int .u8 x.st, .slice A9 x.mem.length c9] 44)) (own_lo (HOWN.out.alloc _) (Nat.le_succ _)) hg5 (by first | omega | (simp; omega))
      have HG5 := Lib.hid (show GrowPS (w.heap.size + 3) w5.heap.size w5 v5 (xs.take (k + 1)) from by
        rw [HTK.out]
        exact GrowPS.step (u := (x, A9, c9)) HUS.out HMS.out BW.out.size HMSG.out BA9.out KX.out (by rw [HQL.out]; exact hown5) HSEP.out)
      have HB5 := Lib.hid hb5
      obtain ⟨A5, c5, hv5, _, _, _, _⟩ := own_form3s hown5
      subst hv5
      have o5 := blk_cell O5.out 1; have of5 := blk_frozen O5.out 1
      clear hown5 hg5 hb5 o1 y0 y1 y2 y3 y4 y5 y6 y7 y8 y9 y10 y11 y12 y13
      go_wp2_with fail
      go_roundw
      case rel => exact ⟨k + 1, by omega, by go_num, _, blk_set O5.out 1 _, (HG5.out.keptX (by decide) (by decide) (KeptX.set O5.out 1 _)).mono (Nat.le_refl _) (by simp), HB5.out.setCell (p := ⟨w.heap.size + 2, 1, none⟩) (Nat.le_refl _) _⟩
      case measure => simp [intOf] <;> omega
    · have hkn : n = k := by omega
      subst hkn
      have HGP := Lib.hid (show GrowPS (w.heap.size + 3) wr.heap.size wr (.slice Av n cv) xs by have h := HG.out; rwa [List.take_of_length_le (by rw [HN.out]; exact Nat.le_refl _)] at h)
      have HOP := HO; have BP := BR; have HBP := HBR; have hzp := hz; have hzwp := hzw
      clear HG HO BR HBR hz hzw HQL hkl
      go_wp2_with fail
      clear s1 SR
      obtain ⟨wp, hwp⟩ : ∃ x : World, x = wr := ⟨_, rfl⟩
      subst hwp
      go_loopw [6] (fun iv wr => ∃ k : Nat, k ≤ m ∧ iv = .int .i64 k ∧ ∃ v, wr.heap[w.heap.size + 2]? = some (.cells #[.int .i64 fr, .slice Av n cv, v] 25 (0, 0)) ∧ GrowPS (w.heap.size + 3) wp.heap.size wr (.slice Av n cv) xs ∧ GrowRS (w.heap.size + 3) wp.heap.size wr v (ys.take k) ∧ Below (w.heap.size + 2) wb wr ∧ wp.heap.size ≤ wr.heap.size) (fun iv _ => m - (intOf iv).toNat)
      case atStart => exact ⟨0, Nat.zero_le _, rfl, _, HOP.out, HGP.out, by rw [List.take_zero]; exact GrowRS.nil _ _ _, BP.out, Nat.le_refl _⟩
      case round =>
        clear HGP HOP BP HBP hzp
        obtain ⟨k, hk, rfl, v, ho, hgp, hg, hb, hwp⟩ := hrel
        have HO := Lib.hid ho; have BR := Lib.hid hb; have hz := hb.size; have HGP := Lib.hid hgp
        have hzw : w.heap.size + 3 ≤ wr.heap.size := by rw [← HS.out]; exact hz
        have HQL := Lib.hid (show (ys.take k).length = k by rw [List.length_take, HM.out]; omega)
        obtain ⟨Bv, dv, rfl, _⟩ := hg.form
        have HG := Lib.hid hg
        clear ho hb hg hgp
        rw [HQL.out] at HG HO
        have HBR := Lib.hid (HB.out.trans (BR.out.mono (Nat.le_add_right _ 2)))
        have SR := Lib.hid (blk_below G0.out BR.out (by omega))
        have s2 := blk_cell SR.out 2
        by_cases hkl : k < m
        · have hki : (k : Int) < (m : Int) := by omega
          obtain ⟨q, hq⟩ : ∃ q, ys[k]? = some q := ⟨_, List.getElem?_eq_getElem (by rw [HM.out]; exact hkl)⟩
          obtain ⟨b, off, rfl, _⟩ := Rws.addr qu_len (by decide) H2.out (by rw [HM.out]; omega)
          obtain ⟨A1, c1, hin, hc⟩ := Rws.at qu_len H2.out hq
          have hcw := fun (j : Nat) (v : Value) (h : (Qu.cells q A1 c1)[j]? = some v) => (HBR.out.cell (p := ⟨_, _, none⟩) (World.block_lt_of_cell? w _ (hc j v h))).trans (hc j v h)
          have y0 := hcw 0 _ rfl
          have y1 := hcw 1 _ rfl
          have y2 := hcw 2 _ rfl
          have y3 := hcw 3 _ rfl
          have y4 := hcw 4 _ rfl
          dsimp only [Qu.cells, Nat.add_zero] at y0 y1 y2 y3 y4
          have HTK := Lib.hid (show ys.take (k + 1) = ys.take k ++ [q] by rw [List.take_add_one, hq]; rfl)
          have HQM := Lib.hid (QM.out q (List.mem_of_getElem? hq))
          obtain ⟨nm, hnm⟩ : ∃ nm, q.msgs.length = nm := ⟨_, rfl⟩
          have HNM := Lib.hid hnm
          have hnmi : (nm : Int) ≤ 1000000 := by have := HQM.out.1; rw [hnm] at this; omega
          have HC := Lib.hid hc; have HIN := Lib.hid hin.2.2
          clear hc hin hcw hq hnm
          obtain ⟨wo, hwo⟩ : ∃ x : World, x = wr := ⟨_, rfl⟩
          subst hwo
          have QA := Lib.hid (blk_new wo #[.int .i64 q.ch.id, .int .i64 q.ch.fr, .int .i64 q.ch.to, .int .i64 q.ch.cap, .int .i64 q.ch.sz, .slice none 0 0] 53)
          have SA := Lib.hid (blk_alloc SR.out (.cells #[.int .i64 q.ch.id, .int .i64 q.ch.fr, .int .i64 q.ch.to, .int .i64 q.ch.cap, .int .i64 q.ch.sz, .slice none 0 0] 53))
          have hza : wo.heap.size + 1 = (wo.alloc (.cells #[.int .i64 q.ch.id, .int .i64 q.ch.fr, .int .i64 q.ch.to, .int .i64 q.ch.cap, .int .i64 q.ch.sz, .slice none 0 0] 53)).heap.size := by simp
          have HZA := Lib.hid hza
          clear hza
          go_wp2_with fail
          clear s2 y0 y1 y2 y3 y4
          have EA := Lib.hid (ext1 wo (.cells #[.int .i64 q.ch.id, .int .i64 q.ch.fr, .int .i64 q.ch.to, .int .i64 q.ch.cap, .int .i64 q.ch.sz, .slice none 0 0] 53))
          generalize (wo.alloc (.cells #[.int .i64 q.ch.id, .int .i64 q.ch.fr, .int .i64 q.ch.to, .int .i64 q.ch.cap, .int .i64 q.ch.sz, .slice none 0 0] 53)) = wa at *
          go_loopw [8] (fun jv wr => ∃ j : Nat, j ≤ nm ∧ jv = .int .i64 j ∧ ∃ u, wr.heap[wo.heap.size]? = some (.cells #[.int .i64 q.ch.id, .int .i64 q.ch.fr, .int .i64 q.ch.to, .int .i64 q.ch.cap, .int .i64 q.ch.sz, u] 53 (0, 0)) ∧ Grow (wo.heap.size + 1) wr u (q.msgs.take j) ∧ Below wo.heap.size wo wr ∧ wo.heap.size + 1 ≤ wr.heap.size) (fun jv _ => nm - (intOf jv).toNat)
          case atStart => exact ⟨0, Nat.zero_le _, rfl, _, QA.out, by rw [List.take_zero]; exact Grow.nil _ _, EA.out, by rw [← HZA.out]; exact Nat.le_refl _⟩
          case round =>
            obtain ⟨j, hj, rfl, u, hqb, hgu, hbi, hzi⟩ := hrel
            have HJL := Lib.hid (show (q.msgs.take j).length = j by rw [List.length_take, HNM.out]; omega)
            obtain ⟨Au, cu, rfl, hcu, hAu, _, _⟩ := hgu.form
            have HQB := Lib.hid hqb; have HGU := Lib.hid hgu; have BI := Lib.hid hbi
            have HAU := Lib.hid hAu
            clear hqb hgu hbi hAu
            rw [HJL.out] at HQB HGU hcu
            have BWI := Lib.hid (HBR.out.trans (BI.out.mono HBR.out.size))
            have SI := Lib.hid (blk_below SR.out BI.out (blk_lt SR.out))
            have s2 := blk_cell SI.out 2
            have y5 := (BWI.out.cell (p := ⟨_, _, none⟩) (World.block_lt_of_cell? w _ (HC.out 5 _ rfl))).trans (HC.out 5 _ rfl)
            rw [HNM.out] at y5
            by_cases hjl : j < nm
            · have hji : (j : Int) < (nm : Int) := by omega
              obtain ⟨mg, hmg⟩ : ∃ mg, q.msgs[j]? = some mg := ⟨_, List.getElem?_eq_getElem (by rw [HNM.out]; exact hjl)⟩
              obtain ⟨b1, o1, rfl⟩ := HIN.out.addr (by rw [HNM.out]; omega)
              obtain ⟨Ax, cx, cxc, _, _, hrx⟩ := (HIN.out.below BWI.out).at hmg
              have HTJ := Lib.hid (show q.msgs.take (j + 1) = q.msgs.take j ++ [mg] by rw [List.take_add_one, hmg]; rfl)
              have HML := Lib.hid (HQM.out.2 mg (List.mem_of_getElem? hmg))
              have HTC := Lib.hid (fun W (hW : Below wr.heap.size wr W) => ref_copy mg Ax mg.length cx rfl HML.out W (hrx.below hW))
              clear hmg hrx
              obtain ⟨vs, hown, hvl, hms⟩ := HGU.out.own
              rw [HJL.out] at hown hvl
              have HOWN := Lib.hid hown; have HVL := Lib.hid hvl; have HMS := Lib.hid hms
              clear hown hvl hms
              have q5 := blk_cell HQB.out 5
              have LTQ := Lib.hid (blk_lt HQB.out)
              go_wp2_with fail
              go_region_law (first
                | (refine step_append_rd rfl (.tmp 60) (.tmp 71) 51 rfl (wo.heap.size + 1) 38 l0 (.slice none 0 0) 1 24 Try.underlying51 li lz0 lz1 lz2 rfl (by decide) _ j vs rfl (HOW5.out.alloc _) _ 1 _ [.slice A9 mg.length c9] rfl rfl (Rd.new _ _ _) (by intro u hu; simp at hu; subst hu; rfl) (by unfold maxLen; omega) (by omega) (by simp; omega) ?_; intro v6 w6 hown6 hg6; obtain ⟨A6, c6, rfl, hc6, hA6, hf6, hr6⟩ := own_form3 hown6; have KX6 := Lib.hid (KeptX.grown (HOW5.out.alloc (.cells #[.slice A9 mg.length c9] 38)) hg6); have O6 := Lib.hid (KX6.out.2 _ _ _ (by decide) (blk_alloc QB5.out (.cells #[.slice A9 mg.length c9] 38))); have hb6 := below_own ((B5.out.mono (show wo.heap.size + 1 ≤ wr.heap.size from hzi)).alloc (by omega) (.cells #[.slice A9 mg.length c9] 38)) (HOW5.out.alloc _) hg6 (by simp; omega); have q5d := blk_cell O6.out 5; have f5d := blk_frozen O6.out 5)
                | (go_simp; go_at_call 28; refine (HTC.out _ (Below.refl _ _).drew).mono ?_; rintro e w5 ⟨b5, A9, c9, rfl, hm5⟩; have B5 := Lib.hid (show Below wr.heap.size wr w5 from ⟨b5.os, b5.tape, b5.output, b5.size, b5.block⟩); have z5 := B5.out.size; have QB5 := Lib.hid (blk_below HQB.out B5.out LTQ.out); have HOW5 := Lib.hid (own_below HOWN.out B5.out); have q5b := blk_cell QB5.out 5; have q5c : ∀ o, (w5.alloc o).cell? ⟨wo.heap.size, 5, none⟩ = some (.slice Au j cu) := fun o => blk_cell (blk_alloc QB5.out o) 5))
              all_goals (go_wp2_with fail; go_roundw)
              all_goals first
                | (simp [intOf]; omega)
                | exact ⟨j + 1, by omega, by go_num, .slice A6 (j + 1) c6, blk_set O6.out 5 _, by rw [HTJ.out]; exact Grow.keptX (by decide) (by decide) (Grow.snoc (vs := vs) (by rw [HJL.out]; exact HOW5.out.alloc (.cells #[.slice A9 mg.length c9] 38)) (by rw [HJL.out]; exact HVL.out) (fun i l hi => by obtain ⟨u, e1, e2⟩ := HMS.out i l hi; exact ⟨u, e1, msg_below (msg_below e2 B5.out) (ext1 w5 (.cells #[.slice A9 mg.length c9] 38))⟩) (msg_below (MsgAt.mono hm5 (show wo.heap.size + 1 ≤ wr.drew.heap.size from hzi) (Nat.le_refl _)) (ext1 w5 (.cells #[.slice A9 mg.length c9] 38))) (by rw [HJL.out]; exact hown6) hg6) (KeptX.set O6.out 5 _), (BI.out.trans (hb6.mono (Nat.le_succ _))).setCell (p := ⟨wo.heap.size, 5, none⟩) (Nat.le_refl _) _, by have := hb6.size; simp; omega⟩
            · have hjn : nm = j := by omega
              subst hjn
              have HGM := Lib.hid (show Grow (wo.heap.size + 1) wr (.slice Au nm cu) q.msgs by have h := HGU.out; rwa [List.take_of_length_le (by rw [HNM.out]; exact Nat.le_refl _)] at h)
              clear HGU
              have BW := BI
              have OUTW := Lib.hid (blk_below HO.out BI.out (blk_lt HO.out))
              have HGN := Lib.hid (show Grow (wo.heap.size + 1) wr (.slice Au q.msgs.length cu) q.msgs by rw [HNM.out]; exact HGM.out)
              have HMSG := Lib.hid (show Grow wp.heap.size wr (.slice Au q.msgs.length cu) q.msgs from Grow.lo HGN.out (by omega))
              have o2 := blk_cell OUTW.out 2
              have y0q := blk_cell HQB.out 0
              have y1q := blk_cell HQB.out 1
              have y2q := blk_cell HQB.out 2
              have y3q := blk_cell HQB.out 3
              have y4q := blk_cell HQB.out 4
              have y5q := blk_cell HQB.out 5
              go_upto_region 16 with fail
              clear s2 y5
              obtain ⟨us, hus, hown0, hms0, hsep⟩ := HG.out
              have hown := own_below hown0 BW.out
              rw [HQL.out] at hown
              have hms := fun u hu => Grow.below (hms0 u hu) BW.out
              have HSEP := Lib.hid (SepQ.snoc (u := (q, Au, cu)) hsep hms0 (Nat.le_succ _) HGN.out)
              have HUS := Lib.hid hus; have HOWN := Lib.hid hown; have HMS := Lib.hid hms
              have hsz := Nat.le_trans hz BW.out.size
              have hwz := Nat.le_trans hzw BW.out.size
              have HUL := Lib.hid (show us.length = k by rw [← HQL.out, ← hus, List.length_map])
              clear hus hown hms hown0 hms0 hsep
              go_wp2_with (at_builtin; refine wpList_append_rd _ rfl (.tmp 75) (.tmp 77) 23 rfl (w.heap.size + 3) 53 j0 (.agg #[.int .i64 0, .int .i64 0, .int .i64 0, .int .i64 0, .int .i64 0, .slice none 0 0]) 6 64 Try.underlying23 ji jz0 jz1 jz2 rfl (by decide) _ k (flat Qu.cells us) rfl (HOWN.out.alloc _) _ 1 _ #[.int .i64 q.ch.id, .int .i64 q.ch.fr, .int .i64 q.ch.to, .int .i64 q.ch.cap, .int .i64 q.ch.sz, .slice Au nm cu].toList rfl rfl (Rd.new _ _ _) ?d2 ?d3 ?d4 ?d5 ?_)
              case d2 => simp [Value.oneCell']
              case d3 => unfold maxLen; omega
              case d4 => omega
              case d5 => first | omega | (simp; omega)
              intro v5 w5 hown5 hg5
              have BA9 := Lib.hid (ext1 wr (.cells #[.int .i64 q.ch.id, .int .i64 q.ch.fr, .int .i64 q.ch.to, .int .i64 q.ch.cap, .int .i64 q.ch.sz, .slice Au nm cu] 53))
              have KX := Lib.hid (KeptX.grown (HOWN.out.alloc (.cells #[.int .i64 q.ch.id, .int .i64 q.ch.fr, .int .i64 q.ch.to, .int .i64 q.ch.cap, .int .i64 q.ch.sz, .slice Au nm cu] 53)) hg5)
              have O5 := Lib.hid (KX.out.2 _ _ _ (by decide) (blk_alloc OUTW.out (.cells #[.int .i64 q.ch.id, .int .i64 q.ch.fr, .int .i64 q.ch.to, .int .i64 q.ch.cap, .int .i64 q.ch.sz, .slice Au nm cu] 53)))
              have hb5 := below_own (B := w.heap.size + 2) ((BR.out.trans (BW.out.mono (by omega))).alloc (by omega) (.cells #[.int .i64 q.ch.id, .int .i64 q.ch.fr, .int .i64 q.ch.to, .int .i64 q.ch.cap, .int .i64 q.ch.sz, .slice Au nm cu] 53)) (own_lo (HOWN.out.alloc _) (Nat.le_succ _)) hg5 (by first | omega | (simp; omega))
              have HG5 := Lib.hid (show GrowRS (w.heap.size + 3) wp.heap.size w5 v5 (ys.take (k + 1)) from by
                rw [HTK.out]
                exact GrowRS.step (u := (q, Au, cu)) HUS.out HMS.out HMSG.out BA9.out KX.out (by rw [HQL.out]; have hh := hown5; rw [← HNM.out] at hh; exact hh) HSEP.out)
              have HB5 := Lib.hid hb5
              obtain ⟨A5, c5, hv5, _, _, _, _⟩ := own_form3s hown5
              subst hv5
              have HP5 := Lib.hid (((HGP.out.below BW.out hwp).below BA9.out (Nat.le_trans hwp BW.out.size)).keptX (by decide) (by decide) KX.out)
              have hw5 : wp.heap.size ≤ w5.heap.size := Nat.le_trans hwp (Nat.le_trans BW.out.size (Nat.le_trans BA9.out.size KX.out.1))
              have o5 := blk_cell O5.out 2; have of5 := blk_frozen O5.out 2
              clear hown5 hg5 hb5 o2 y0q y1q y2q y3q y4q y5q
              go_wp2_with fail
              go_roundw
              case rel => exact ⟨k + 1, by omega, by go_num, _, blk_set O5.out 2 _, HP5.out.keptX (by decide) (by decide) (KeptX.set O5.out 2 _), HG5.out.keptX (by decide) (by decide) (by decide) (KeptX.set O5.out 2 _), HB5.out.setCell (p := ⟨w.heap.size + 2, 2, none⟩) (Nat.le_refl _) _, by simp; omega⟩
              case measure => simp [intOf] <;> omega
        · have hkn : m = k := by omega
          subst hkn
          have HGQ := Lib.hid (show GrowRS (w.heap.size + 3) wp.heap.size wr (.slice Bv m dv) ys by have h := HG.out; rwa [List.take_of_length_le (by rw [HM.out]; exact Nat.le_refl _)] at h)
          have ZR := Lib.hid (blk_below G1.out BR.out (by omega))
          have o0 := blk_cell HO.out 0; have o1 := blk_cell HO.out 1; have o2 := blk_cell HO.out 2
          go_wp2_with (refine wpList_store_at rfl 25 (.tmp 2) (.tmp 80) rfl (w.heap.size + 1) #[.int .i64 fr, .slice Av n cv, .slice Bv m dv] rfl rfl 25 _ ZR.out info_st rfl (by simp [Value.oneCell']) ?_)
          intro w8 hw8
          have KX := Lib.hid (KeptX.row ZR.out #[.int .i64 fr, .slice Av n cv, .slice Bv m dv])
          have B8 := Lib.hid (below_row HBR.out (show w.heap.size ≤ w.heap.size + 1 by omega) #[.int .i64 fr, .slice Av n cv, .slice Bv m dv])
          have R8 := Lib.hid (blk_row ZR.out #[.int .i64 fr, .slice Av n cv, .slice Bv m dv])
          have Z8 := Lib.hid (show w8.heap.size = wr.heap.size by rw [hw8.out, size_row])
          have GP8 := Lib.hid ((GrowPS.mono HGP.out (show w.heap.size ≤ w.heap.size + 3 by omega) (Nat.le_refl _)).keptX (by decide) (by decide) KX.out)
          have GQ8 := Lib.hid ((GrowRS.lo HGQ.out (show w.heap.size ≤ w.heap.size + 3 by omega)).keptX (by decide) (by decide) (by decide) KX.out)
          rw [← hw8.out] at B8 R8 GP8 GQ8
          clear hw8 KX
          go_wp2
          refine ret_row rfl (w.heap.size + 1) 25 _ _ rfl R8.out Try.underlying25 rfl info_st rfl ?_
          exact ⟨B8.out, Av, cv, Bv, dv, wp.heap.size, rfl, by omega, by rw [Z8.out]; exact hwp, GP8.out, GQ8.out⟩
end Go.Proofs.Ytnfjkpeifleogaa.mv
