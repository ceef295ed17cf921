/- Channels: are two queues the same, by the program and by the reference; no condition. -/
import Derived.Test.YtlmecndldclnnaaRows
import Derived.Test.YtlmecndldclnnaaChB
namespace Go.Proofs.Ytlmecndldclnnaa.chan
open Go Go.ChangeShapes Go.WideShapes Go.ChangeAt Go.RowKit Go.Proofs.Ytlmecndldclnnaa.rows
theorem str_eq (a b : Msg) : ((ByteArray.mk a.toArray).toList == (ByteArray.mk b.toArray).toList) = decide (a = b) := by
  rw [ByteArray.toList_mk, ByteArray.toList_mk, Bool.eq_iff_iff]; simp
theorem bytesEqual (a b : Msg) (A B : Option Addr) (c d : Nat) (v : Bool) (hv : decide (a = b) = v) (w : World) (h1 : Rd w A (bcs a)) (h2 : Rd w B (bcs b)) :
    Calls Try.prog 32 #[.slice A a.length c, .slice B b.length d] w fun e w' => e = .returned (.bool v) ∧ w = w' := by
  have k1 := str_rd a A a.length c rfl w h1
  have k2 := str_rd b B b.length d rfl w h2
  have he := str_eq a b
  rw [hv] at he
  generalize (ByteArray.mk a.toArray) = S1 at *
  generalize (ByteArray.mk b.toArray) = S2 at *
  generalize a.length = n at *
  generalize b.length = m at *
  clear h1 h2 hv
  go_enter Try.func32, Try.ntmps32
  go_wp2
  go_ret
  exact ⟨rfl, rfl⟩
theorem take_eq {a b : List Msg} (hl : a.length = b.length) {k : Nat} (h : a.take k = b.take k) {x y : Msg} (hx : a[k]? = some x) (hy : b[k]? = some y) : (x = y → a.take (k + 1) = b.take (k + 1)) ∧ (¬ x = y → ¬ a = b) := by
  have _ := hl
  refine ⟨fun e => by rw [List.take_add_one, List.take_add_one, h, hx, hy, e], fun e he => e ?_⟩
  subst he; rw [hx] at hy; injection hy
set_option maxHeartbeats 2000000 in
theorem equalFunc (la lb : List Msg) (A B : Option Addr) (c d : Nat) (h63 : la.length ≤ 1000000) (w : World) (h1 : Rms w A la) (h2 : Rms w B lb) :
    Calls Try.prog 31 #[.slice A la.length c, .slice B lb.length d, .func (.func 32) #[] #[]] w fun e w' => e = .returned (.bool (decide (la = lb))) ∧ w = w' := by
  by_cases hn : la.length = lb.length
  · have HN := Lib.hid hn
    have h63' : (la.length : Int) ≤ 1000000 := by omega
    have H1 := Lib.hid h1; have H2 := Lib.hid h2
    rw [← hn]
    clear h1 h2 hn
    go_enter Try.func31, Try.ntmps31
    go_wp2
    go_loopw [17] (fun i wr => ∃ k : Nat, k ≤ la.length ∧ i = .int .i64 k ∧ la.take k = lb.take k ∧ wr = w) (fun i _ => la.length - (intOf i).toNat)
    case atStart => exact ⟨0, Nat.zero_le _, rfl, rfl, rfl⟩
    case round =>
      obtain ⟨k, hk, rfl, ht, rfl⟩ := hrel
      have HT := Lib.hid ht; clear ht
      by_cases hkl : k < la.length
      · have hki : (k : Int) < (la.length : Int) := by omega
        have hkb : k < lb.length := by have := HN.out; omega
        obtain ⟨b1, o1, rfl⟩ := H1.out.addr (by omega)
        obtain ⟨b2, o2, rfl⟩ := H2.out.addr (by omega)
        obtain ⟨x, hx⟩ : ∃ x, la[k]? = some x := ⟨_, List.getElem?_eq_getElem hkl⟩
        obtain ⟨y, hy⟩ : ∃ y, lb[k]? = some y := ⟨_, List.getElem?_eq_getElem hkb⟩
        obtain ⟨Ax, cx, kx, _, _, rx⟩ := H1.out.at hx
        obtain ⟨Ay, cy, ky, _, _, ry⟩ := H2.out.at hy
        have HE := Lib.hid (take_eq HN.out HT.out hx hy)
        clear hx hy hkb
        by_cases hxy : x = y
        · have T := Lib.hid (bytesEqual x y Ax Ay cx cy true (decide_eq_true hxy) _ rx ry)
          have HXY := Lib.hid hxy
          clear rx ry hxy
          go_wp2_with fail
          refine T.out.mono ?_
          rintro e w' ⟨rfl, rfl⟩
          go_wp2_with fail
          go_roundw
          case rel => exact ⟨k + 1, by omega, by go_num, HE.out.1 HXY.out, trivial⟩
          case measure => simp [intOf]; omega
        · have T := Lib.hid (bytesEqual x y Ax Ay cx cy false (decide_eq_false hxy) _ rx ry)
          have HXY := Lib.hid hxy
          clear rx ry hxy
          go_wp2_with fail
          refine T.out.mono ?_
          rintro e w' ⟨rfl, rfl⟩
          go_wp2
          go_ret
          exact ⟨by rw [decide_eq_false (HE.out.2 HXY.out)]; rfl, rfl⟩
      · obtain rfl : k = la.length := by omega
        go_wp2
        go_ret
        refine ⟨?_, rfl⟩
        have h := HT.out
        rw [List.take_length, HN.out, List.take_length] at h
        rw [decide_eq_true h]; rfl
  · have hne : ¬ la = lb := fun e => hn (by rw [e])
    rw [decide_eq_false hne]
    have e1 : ((la.length : Int) == (lb.length : Int)) = false := by rw [beq_eq_false_iff_ne]; omega
    have e2 : ((la.length : Int) != (lb.length : Int)) = true := by rw [bne_iff_ne]; omega
    have e3 : (la.length == lb.length) = false := by rw [beq_eq_false_iff_ne]; exact hn
    have e4 : (la.length != lb.length) = true := by rw [bne_iff_ne]; exact hn
    clear h1 h2 hn hne h63
    generalize la.length = n at *
    generalize lb.length = m at *
    go_enter Try.func31, Try.ntmps31
    go_wp2
    go_ret
    exact ⟨rfl, rfl⟩
def sameQ (x : Ch) (la : List Msg) (y : Ch) (lb : List Msg) : Bool := decide (x = y) && decide (la = lb)
theorem ch_cases (x y : Ch) : x = y ∨ x.id ≠ y.id ∨ (x.id = y.id ∧ x.fr ≠ y.fr) ∨ (x.id = y.id ∧ x.fr = y.fr ∧ x.to ≠ y.to) ∨ (x.id = y.id ∧ x.fr = y.fr ∧ x.to = y.to ∧ x.cap ≠ y.cap) ∨ (x.id = y.id ∧ x.fr = y.fr ∧ x.to = y.to ∧ x.cap = y.cap ∧ x.sz ≠ y.sz) := by
  obtain ⟨a, b, c, d, e⟩ := x
  obtain ⟨a', b', c', d', e'⟩ := y
  simp only [Ch.mk.injEq]
  omega
theorem same_d0 (i f t cp s z f2 t2 cp2 s2 : Int) (A B : Option Addr) (n c m d : Nat) (hd : i ≠ z) (w : World) : Calls Try.prog 21 #[.agg (qcells ⟨i, f, t, cp, s⟩ A n c), .agg (qcells ⟨z, f2, t2, cp2, s2⟩ B m d)] w fun e w' => e = .returned (.bool false) ∧ Below w.heap.size w w' := by
  have e1 : (i == z) = false := by rw [beq_eq_false_iff_ne]; exact hd
  have e2 : (i != z) = true := by rw [bne_iff_ne]; exact hd
  have e3 : ¬ i = z := hd
  clear hd
  dsimp only [qcells]
  go_enter Try.func21, Try.ntmps21
  go_wp2
  go_ret
  exact ⟨rfl, ((Below.refl _ _).alloc (Nat.le_refl _) _).alloc (by simp) _⟩
theorem same_d1 (i f t cp s z t2 cp2 s2 : Int) (A B : Option Addr) (n c m d : Nat) (hd : f ≠ z) (w : World) : Calls Try.prog 21 #[.agg (qcells ⟨i, f, t, cp, s⟩ A n c), .agg (qcells ⟨i, z, t2, cp2, s2⟩ B m d)] w fun e w' => e = .returned (.bool false) ∧ Below w.heap.size w w' := by
  have e1 : (f == z) = false := by rw [beq_eq_false_iff_ne]; exact hd
  have e2 : (f != z) = true := by rw [bne_iff_ne]; exact hd
  have e3 : ¬ f = z := hd
  clear hd
  dsimp only [qcells]
  go_enter Try.func21, Try.ntmps21
  go_wp2
  go_ret
  exact ⟨rfl, ((Below.refl _ _).alloc (Nat.le_refl _) _).alloc (by simp) _⟩
theorem same_d2 (i f t cp s z cp2 s2 : Int) (A B : Option Addr) (n c m d : Nat) (hd : t ≠ z) (w : World) : Calls Try.prog 21 #[.agg (qcells ⟨i, f, t, cp, s⟩ A n c), .agg (qcells ⟨i, f, z, cp2, s2⟩ B m d)] w fun e w' => e = .returned (.bool false) ∧ Below w.heap.size w w' := by
  have e1 : (t == z) = false := by rw [beq_eq_false_iff_ne]; exact hd
  have e2 : (t != z) = true := by rw [bne_iff_ne]; exact hd
  have e3 : ¬ t = z := hd
  clear hd
  dsimp only [qcells]
  go_enter Try.func21, Try.ntmps21
  go_wp2
  go_ret
  exact ⟨rfl, ((Below.refl _ _).alloc (Nat.le_refl _) _).alloc (by simp) _⟩
theorem same_d3 (i f t cp s z s2 : Int) (A B : Option Addr) (n c m d : Nat) (hd : cp ≠ z) (w : World) : Calls Try.prog 21 #[.agg (qcells ⟨i, f, t, cp, s⟩ A n c), .agg (qcells ⟨i, f, t, z, s2⟩ B m d)] w fun e w' => e = .returned (.bool false) ∧ Below w.heap.size w w' := by
  have e1 : (cp == z) = false := by rw [beq_eq_false_iff_ne]; exact hd
  have e2 : (cp != z) = true := by rw [bne_iff_ne]; exact hd
  have e3 : ¬ cp = z := hd
  clear hd
  dsimp only [qcells]
  go_enter Try.func21, Try.ntmps21
  go_wp2
  go_ret
  exact ⟨rfl, ((Below.refl _ _).alloc (Nat.le_refl _) _).alloc (by simp) _⟩
theorem same_d4 (i f t cp s z  : Int) (A B : Option Addr) (n c m d : Nat) (hd : s ≠ z) (w : World) : Calls Try.prog 21 #[.agg (qcells ⟨i, f, t, cp, s⟩ A n c), .agg (qcells ⟨i, f, t, cp, z⟩ B m d)] w fun e w' => e = .returned (.bool false) ∧ Below w.heap.size w w' := by
  have e1 : (s == z) = false := by rw [beq_eq_false_iff_ne]; exact hd
  have e2 : (s != z) = true := by rw [bne_iff_ne]; exact hd
  have e3 : ¬ s = z := hd
  clear hd
  dsimp only [qcells]
  go_enter Try.func21, Try.ntmps21
  go_wp2
  go_ret
  exact ⟨rfl, ((Below.refl _ _).alloc (Nat.le_refl _) _).alloc (by simp) _⟩
theorem rsame_d0 (i f t cp s z f2 t2 cp2 s2 : Int) (A B : Option Addr) (n c m d : Nat) (hd : i ≠ z) (w : World) : Calls Try.prog 13 #[.agg (qcells ⟨i, f, t, cp, s⟩ A n c), .agg (qcells ⟨z, f2, t2, cp2, s2⟩ B m d)] w fun e w' => e = .returned (.bool false) ∧ Below w.heap.size w w' := by
  have e1 : (i == z) = false := by rw [beq_eq_false_iff_ne]; exact hd
  have e2 : (i != z) = true := by rw [bne_iff_ne]; exact hd
  have e3 : ¬ i = z := hd
  clear hd
  dsimp only [qcells]
  go_enter Try.func13, Try.ntmps13
  go_wp2
  go_ret
  exact ⟨rfl, ((Below.refl _ _).alloc (Nat.le_refl _) _).alloc (by simp) _⟩
theorem rsame_d1 (i f t cp s z t2 cp2 s2 : Int) (A B : Option Addr) (n c m d : Nat) (hd : f ≠ z) (w : World) : Calls Try.prog 13 #[.agg (qcells ⟨i, f, t, cp, s⟩ A n c), .agg (qcells ⟨i, z, t2, cp2, s2⟩ B m d)] w fun e w' => e = .returned (.bool false) ∧ Below w.heap.size w w' := by
  have e1 : (f == z) = false := by rw [beq_eq_false_iff_ne]; exact hd
  have e2 : (f != z) = true := by rw [bne_iff_ne]; exact hd
  have e3 : ¬ f = z := hd
  clear hd
  dsimp only [qcells]
  go_enter Try.func13, Try.ntmps13
  go_wp2
  go_ret
  exact ⟨rfl, ((Below.refl _ _).alloc (Nat.le_refl _) _).alloc (by simp) _⟩
theorem rsame_d2 (i f t cp s z cp2 s2 : Int) (A B : Option Addr) (n c m d : Nat) (hd : t ≠ z) (w : World) : Calls Try.prog 13 #[.agg (qcells ⟨i, f, t, cp, s⟩ A n c), .agg (qcells ⟨i, f, z, cp2, s2⟩ B m d)] w fun e w' => e = .returned (.bool false) ∧ Below w.heap.size w w' := by
  have e1 : (t == z) = false := by rw [beq_eq_false_iff_ne]; exact hd
  have e2 : (t != z) = true := by rw [bne_iff_ne]; exact hd
  have e3 : ¬ t = z := hd
  clear hd
  dsimp only [qcells]
  go_enter Try.func13, Try.ntmps13
  go_wp2
  go_ret
  exact ⟨rfl, ((Below.refl _ _).alloc (Nat.le_refl _) _).alloc (by simp) _⟩
theorem rsame_d3 (i f t cp s z s2 : Int) (A B : Option Addr) (n c m d : Nat) (hd : cp ≠ z) (w : World) : Calls Try.prog 13 #[.agg (qcells ⟨i, f, t, cp, s⟩ A n c), .agg (qcells ⟨i, f, t, z, s2⟩ B m d)] w fun e w' => e = .returned (.bool false) ∧ Below w.heap.size w w' := by
  have e1 : (cp == z) = false := by rw [beq_eq_false_iff_ne]; exact hd
  have e2 : (cp != z) = true := by rw [bne_iff_ne]; exact hd
  have e3 : ¬ cp = z := hd
  clear hd
  dsimp only [qcells]
  go_enter Try.func13, Try.ntmps13
  go_wp2
  go_ret
  exact ⟨rfl, ((Below.refl _ _).alloc (Nat.le_refl _) _).alloc (by simp) _⟩
theorem rsame_d4 (i f t cp s z  : Int) (A B : Option Addr) (n c m d : Nat) (hd : s ≠ z) (w : World) : Calls Try.prog 13 #[.agg (qcells ⟨i, f, t, cp, s⟩ A n c), .agg (qcells ⟨i, f, t, cp, z⟩ B m d)] w fun e w' => e = .returned (.bool false) ∧ Below w.heap.size w w' := by
  have e1 : (s == z) = false := by rw [beq_eq_false_iff_ne]; exact hd
  have e2 : (s != z) = true := by rw [bne_iff_ne]; exact hd
  have e3 : ¬ s = z := hd
  clear hd
  dsimp only [qcells]
  go_enter Try.func13, Try.ntmps13
  go_wp2
  go_ret
  exact ⟨rfl, ((Below.refl _ _).alloc (Nat.le_refl _) _).alloc (by simp) _⟩
theorem same_eq (i f t cp s : Int) (la lb : List Msg) (A B : Option Addr) (c d : Nat) (h63 : la.length ≤ 1000000) (w : World) (h1 : Rms w A la) (h2 : Rms w B lb) :
    Calls Try.prog 21 #[.agg (qcells ⟨i, f, t, cp, s⟩ A la.length c), .agg (qcells ⟨i, f, t, cp, s⟩ B lb.length d)] w fun e w' => e = .returned (.bool (decide (la = lb))) ∧ Below w.heap.size w w' := by
  have hX : Below w.heap.size w ((w.alloc (.cells (qcells ⟨i, f, t, cp, s⟩ A la.length c) 26)).alloc (.cells (qcells ⟨i, f, t, cp, s⟩ B lb.length d) 26)) := ((Below.refl _ _).alloc (Nat.le_refl _) _).alloc (by simp) _
  have T := equalFunc la lb A B c d h63 ((w.alloc (.cells (qcells ⟨i, f, t, cp, s⟩ A la.length c) 26)).alloc (.cells (qcells ⟨i, f, t, cp, s⟩ B lb.length d) 26)) (h1.below hX) (h2.below hX)
  dsimp only [qcells] at T hX ⊢
  generalize decide (la = lb) = r at *
  generalize la.length = n at *
  generalize lb.length = m at *
  have HT := Lib.hid T; have HX := Lib.hid hX
  clear T hX h1 h2
  go_enter Try.func21, Try.ntmps21
  go_wp2_with fail
  refine HT.out.mono ?_
  rintro e w' ⟨rfl, rfl⟩
  go_wp2
  go_ret
  exact ⟨rfl, HX.out⟩
theorem same (x y : Ch) (la lb : List Msg) (A B : Option Addr) (c d : Nat) (h63 : la.length ≤ 1000000) (w : World) (h1 : Rms w A la) (h2 : Rms w B lb) :
    Calls Try.prog 21 #[.agg (qcells x A la.length c), .agg (qcells y B lb.length d)] w fun e w' => e = .returned (.bool (sameQ x la y lb)) ∧ Below w.heap.size w w' := by
  unfold sameQ
  by_cases hxy : x = y
  · subst hxy
    rw [decide_eq_true rfl, Bool.true_and]
    exact same_eq x.id x.fr x.to x.cap x.sz la lb A B c d h63 w h1 h2
  · rw [decide_eq_false hxy, Bool.false_and]
    obtain ⟨i, f, t, cp, s⟩ := x
    obtain ⟨i2, f2, t2, cp2, s2⟩ := y
    rcases ch_cases ⟨i, f, t, cp, s⟩ ⟨i2, f2, t2, cp2, s2⟩ with h | h | ⟨e1, h⟩ | ⟨e1, e2, h⟩ | ⟨e1, e2, e3, h⟩ | ⟨e1, e2, e3, e4, h⟩
    · exact (hxy h).elim
    · exact same_d0 i f t cp s i2 f2 t2 cp2 s2 A B _ c _ d h w
    · simp only at e1; subst e1; exact same_d1 i f t cp s f2 t2 cp2 s2 A B _ c _ d h w
    · simp only at e1 e2; subst e1 e2; exact same_d2 i f t cp s t2 cp2 s2 A B _ c _ d h w
    · simp only at e1 e2 e3; subst e1 e2 e3; exact same_d3 i f t cp s cp2 s2 A B _ c _ d h w
    · simp only at e1 e2 e3 e4; subst e1 e2 e3 e4; exact same_d4 i f t cp s s2 A B _ c _ d h w
set_option maxHeartbeats 2000000 in
theorem rsame_eq (i f t cp s : Int) (la lb : List Msg) (A B : Option Addr) (c d : Nat) (h63 : la.length ≤ 1000000) (w : World) (h1 : Rms w A la) (h2 : Rms w B lb) :
    Calls Try.prog 13 #[.agg (qcells ⟨i, f, t, cp, s⟩ A la.length c), .agg (qcells ⟨i, f, t, cp, s⟩ B lb.length d)] w fun e w' => e = .returned (.bool (decide (la = lb))) ∧ Below w.heap.size w w' := by
  have hX : Below w.heap.size w ((w.alloc (.cells (qcells ⟨i, f, t, cp, s⟩ A la.length c) 26)).alloc (.cells (qcells ⟨i, f, t, cp, s⟩ B lb.length d) 26)) := ((Below.refl _ _).alloc (Nat.le_refl _) _).alloc (by simp) _
  have g0 : ((w.alloc (.cells (qcells ⟨i, f, t, cp, s⟩ A la.length c) 26)).alloc (.cells (qcells ⟨i, f, t, cp, s⟩ B lb.length d) 26)).heap[w.heap.size]? = some (.cells (qcells ⟨i, f, t, cp, s⟩ A la.length c) 26 (0, 0)) := blk_alloc (blk_new w _ _) _
  have g1 : ((w.alloc (.cells (qcells ⟨i, f, t, cp, s⟩ A la.length c) 26)).alloc (.cells (qcells ⟨i, f, t, cp, s⟩ B lb.length d) 26)).heap[w.heap.size + 1]? = some (.cells (qcells ⟨i, f, t, cp, s⟩ B lb.length d) 26 (0, 0)) := by
    have := blk_new (w.alloc (.cells (qcells ⟨i, f, t, cp, s⟩ A la.length c) 26)) (qcells ⟨i, f, t, cp, s⟩ B lb.length d) 26; simpa using this
  have H1 := Lib.hid (h1.below hX); have H2 := Lib.hid (h2.below hX)
  have hsz : ((w.alloc (.cells (qcells ⟨i, f, t, cp, s⟩ A la.length c) 26)).alloc (.cells (qcells ⟨i, f, t, cp, s⟩ B lb.length d) 26)).heap.size = w.heap.size + 2 := by simp
  have G0 := Lib.hid g0; have G1 := Lib.hid g1; have HX := Lib.hid hX
  have h63' : (la.length : Int) ≤ 1000000 := by omega
  clear h1 h2 g0 g1 hX
  by_cases hn : la.length = lb.length
  · have HN := Lib.hid hn
    rw [← hn] at H2 G0 G1 HX H1 hsz ⊢
    dsimp only [qcells] at hsz ⊢
    clear hn
    go_enter Try.func13, Try.ntmps13
    go_wp2
    generalize hW : (w.alloc (.cells #[.int .i64 i, .int .i64 f, .int .i64 t, .int .i64 cp, .int .i64 s, .slice A la.length c] 26)).alloc (.cells #[.int .i64 i, .int .i64 f, .int .i64 t, .int .i64 cp, .int .i64 s, .slice B la.length d] 26) = W at *
    have P0 : Hid (W.heap[w.heap.size]? = some (.cells (qcells ⟨i, f, t, cp, s⟩ A la.length c) 26 (0, 0))) := Lib.hid (by rw [← hW]; exact G0.out)
    have P1 : Hid (W.heap[w.heap.size + 1]? = some (.cells (qcells ⟨i, f, t, cp, s⟩ B la.length d) 26 (0, 0))) := Lib.hid (by rw [← hW]; exact G1.out)
    have Q1 : Hid (Rms W A la) := Lib.hid (by rw [← hW]; exact H1.out)
    have Q2 : Hid (Rms W B lb) := Lib.hid (by rw [← hW]; exact H2.out)
    have BW : Hid (Below w.heap.size w W) := Lib.hid (by rw [← hW]; exact HX.out)
    clear G0 G1 H1 H2 HX hW
    go_loopw [5] (fun i wr => ∃ k : Nat, k ≤ la.length ∧ i = .int .i64 k ∧ la.take k = lb.take k ∧ Below W.heap.size W wr) (fun i _ => la.length - (intOf i).toNat)
    case atStart => exact ⟨0, Nat.zero_le _, rfl, rfl, Below.refl _ _⟩
    case round =>
      obtain ⟨k, hk, rfl, ht, hb⟩ := hrel
      have HT := Lib.hid ht; have HB := Lib.hid hb; clear ht hb
      have p0 := blk_below P0.out HB.out (by omega); have p1 := blk_below P1.out HB.out (by omega)
      have c5 : wr.cell? ⟨w.heap.size, 5, none⟩ = some (.slice A la.length c) := blk_cell p0 5
      have d5 : wr.cell? ⟨w.heap.size + 1, 5, none⟩ = some (.slice B la.length d) := blk_cell p1 5
      clear p0 p1
      by_cases hkl : k < la.length
      · have hki : (k : Int) < (la.length : Int) := by omega
        have hkb : k < lb.length := by have := HN.out; omega
        obtain ⟨b1, o1, rfl⟩ := Q1.out.addr (by omega)
        obtain ⟨b2, o2, rfl⟩ := Q2.out.addr (by omega)
        obtain ⟨x, hx⟩ : ∃ x, la[k]? = some x := ⟨_, List.getElem?_eq_getElem hkl⟩
        obtain ⟨y, hy⟩ : ∃ y, lb[k]? = some y := ⟨_, List.getElem?_eq_getElem hkb⟩
        obtain ⟨Ax, cx, kx, _, _, rx⟩ := (Q1.out.below HB.out).at hx
        obtain ⟨Ay, cy, ky, _, _, ry⟩ := (Q2.out.below HB.out).at hy
        have HE := Lib.hid (take_eq HN.out HT.out hx hy)
        have S1 := fun nq : Nat => str_rd x Ax x.length cx rfl (wr.drewN nq) rx
        have S2 := fun nq : Nat => str_rd y Ay y.length cy rfl (wr.drewN nq) ry
        have he := str_eq x y
        clear hx hy hkb rx ry
        generalize (ByteArray.mk x.toArray) = SX at *
        generalize (ByteArray.mk y.toArray) = SY at *
        by_cases hxy : x = y
        · rw [decide_eq_true hxy] at he
          have hen : (SX.toList != SY.toList) = false := by rw [bne, he]; rfl
          have HXY := Lib.hid hxy
          clear hxy
          go_wp2_with fail
          go_quiet (fail)
          go_wp2_with fail
          go_roundw
          case rel => exact ⟨k + 1, by omega, by go_num, HE.out.1 HXY.out, below_drewN HB.out _⟩
          case measure => simp [intOf]; omega
        · rw [decide_eq_false hxy] at he
          have hen : (SX.toList != SY.toList) = true := by rw [bne, he]; rfl
          have HXY := Lib.hid hxy
          clear hxy
          go_wp2_with fail
          go_quiet (fail)
          go_wp2
          go_ret
          exact ⟨by rw [decide_eq_false (HE.out.2 HXY.out)]; rfl, BW.out.trans ((below_drewN HB.out _).mono (by omega))⟩
      · obtain rfl : k = la.length := by omega
        go_wp2
        go_ret
        refine ⟨?_, BW.out.trans (HB.out.mono (by omega))⟩
        have h := HT.out
        rw [List.take_length, HN.out, List.take_length] at h
        rw [decide_eq_true h]; rfl
  · have hne : ¬ la = lb := fun e => hn (by rw [e])
    rw [decide_eq_false hne]
    have e1 : ((la.length : Int) == (lb.length : Int)) = false := by rw [beq_eq_false_iff_ne]; omega
    have e2 : ((la.length : Int) != (lb.length : Int)) = true := by rw [bne_iff_ne]; omega
    have e3 : (la.length == lb.length) = false := by rw [beq_eq_false_iff_ne]; exact hn
    have e4 : (la.length != lb.length) = true := by rw [bne_iff_ne]; exact hn
    dsimp only [qcells] at hsz ⊢
    clear hn hne h63 H1 H2 G0 G1
    generalize la.length = n at *
    generalize lb.length = m at *
    go_enter Try.func13, Try.ntmps13
    go_wp2
    go_ret
    exact ⟨rfl, HX.out⟩
theorem rsame (x y : Ch) (la lb : List Msg) (A B : Option Addr) (c d : Nat) (h63 : la.length ≤ 1000000) (w : World) (h1 : Rms w A la) (h2 : Rms w B lb) :
    Calls Try.prog 13 #[.agg (qcells x A la.length c), .agg (qcells y B lb.length d)] w fun e w' => e = .returned (.bool (sameQ x la y lb)) ∧ Below w.heap.size w w' := by
  unfold sameQ
  by_cases hxy : x = y
  · subst hxy
    rw [decide_eq_true rfl, Bool.true_and]
    exact rsame_eq x.id x.fr x.to x.cap x.sz la lb A B c d h63 w h1 h2
  · rw [decide_eq_false hxy, Bool.false_and]
    obtain ⟨i, f, t, cp, s⟩ := x
    obtain ⟨i2, f2, t2, cp2, s2⟩ := y
    rcases ch_cases ⟨i, f, t, cp, s⟩ ⟨i2, f2, t2, cp2, s2⟩ with h | h | ⟨e1, h⟩ | ⟨e1, e2, h⟩ | ⟨e1, e2, e3, h⟩ | ⟨e1, e2, e3, e4, h⟩
    · exact (hxy h).elim
    · exact rsame_d0 i f t cp s i2 f2 t2 cp2 s2 A B _ c _ d h w
    · simp only at e1; subst e1; exact rsame_d1 i f t cp s f2 t2 cp2 s2 A B _ c _ d h w
    · simp only at e1 e2; subst e1 e2; exact rsame_d2 i f t cp s t2 cp2 s2 A B _ c _ d h w
    · simp only at e1 e2 e3; subst e1 e2 e3; exact rsame_d3 i f t cp s cp2 s2 A B _ c _ d h w
    · simp only at e1 e2 e3 e4; subst e1 e2 e3 e4; exact rsame_d4 i f t cp s s2 A B _ c _ d h w
end Go.Proofs.Ytlmecndldclnnaa.chan
