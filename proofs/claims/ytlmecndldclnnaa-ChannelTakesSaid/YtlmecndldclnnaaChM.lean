/- Channels: the reference's Put; no condition. -/
import Derived.Test.YtlmecndldclnnaaRows
import Derived.Test.YtlmecndldclnnaaChD
import Derived.RegionTactic
import Derived.Deep.RegionHeld3
namespace Go.Proofs.Ytlmecndldclnnaa.chan
open Go Go.ChangeShapes Go.WideShapes Go.ChangeAt Go.RowKit Go.Proofs.Ytlmecndldclnnaa.rows
set_option maxRecDepth 100000 in
set_option maxHeartbeats 1000000 in
theorem rput_arg (i f t cp s : Int) (A : Option Addr) (n c : Nat) (ls : List Msg) (hn : ls.length = n) (h63 : n ≤ 1000000) (hq : mayQ ⟨i, f, t, cp, s⟩ ls = false) (Am : Option Addr) (r cm : Nat) (w : World) (h : Rms w A ls) :
    Calls Try.prog 12 #[.agg #[.int .i64 i, .int .i64 f, .int .i64 t, .int .i64 cp, .int .i64 s, .slice (A) n c], .slice Am r cm] w fun e w' => e = .returned (.tuple #[.agg #[.int .i64 0, .int .i64 0, .int .i64 0, .int .i64 0, .int .i64 0, .slice (none) 0 0], .int .i64 2]) ∧ Below w.heap.size w w' := by
  have g1 := Lib.hid (show ((w.alloc (.cells #[.int .i64 i, .int .i64 f, .int .i64 t, .int .i64 cp, .int .i64 s, .slice (A) n c] 26)).alloc (.cells #[.int .i64 0, .int .i64 0, .int .i64 0, .int .i64 0, .int .i64 0, .slice (none) 0 0] 26)).heap[w.heap.size + 1]? = some (.cells #[.int .i64 0, .int .i64 0, .int .i64 0, .int .i64 0, .int .i64 0, .slice (none) 0 0] 26 (0, 0)) by have := blk_new (w.alloc (.cells #[.int .i64 i, .int .i64 f, .int .i64 t, .int .i64 cp, .int .i64 s, .slice (A) n c] 26)) #[.int .i64 0, .int .i64 0, .int .i64 0, .int .i64 0, .int .i64 0, .slice (none) 0 0] 26; simpa using this)
  have hX := Lib.hid (((Below.refl w.heap.size w).alloc (Nat.le_refl _) (.cells #[.int .i64 i, .int .i64 f, .int .i64 t, .int .i64 cp, .int .i64 s, .slice (A) n c] 26)).alloc (by simp) (.cells #[.int .i64 0, .int .i64 0, .int .i64 0, .int .i64 0, .int .i64 0, .slice (none) 0 0] 26))
  have T := rmayQueue ⟨i, f, t, cp, s⟩ A c ls (by omega) ((w.alloc (.cells #[.int .i64 i, .int .i64 f, .int .i64 t, .int .i64 cp, .int .i64 s, .slice (A) n c] 26)).alloc (.cells #[.int .i64 0, .int .i64 0, .int .i64 0, .int .i64 0, .int .i64 0, .slice (none) 0 0] 26)) (h.below hX.out)
  rw [hq, hn] at T
  dsimp only [qcells] at T
  have HT := Lib.hid T
  clear T h hq hn
  go_enter Try.func12, Try.ntmps12
  go_wp2_with fail
  refine HT.out.mono ?_
  rintro e w1 ⟨rfl, b1⟩
  have G1 := Lib.hid (blk_below g1.out b1 (blk_lt g1.out))
  have HB := Lib.hid (hX.out.trans (b1.mono hX.out.size))
  have r0 := blk_cell G1.out 0
  have f0 := blk_frozen G1.out 0
  have r1 := blk_cell G1.out 1
  have f1 := blk_frozen G1.out 1
  have r2 := blk_cell G1.out 2
  have f2 := blk_frozen G1.out 2
  have r3 := blk_cell G1.out 3
  have f3 := blk_frozen G1.out 3
  have r4 := blk_cell G1.out 4
  have f4 := blk_frozen G1.out 4
  have r5 := blk_cell G1.out 5
  have f5 := blk_frozen G1.out 5
  clear b1
  go_wp2
  refine ret_row_tmp rfl (w.heap.size + 1) 26 _ _ rfl (q_set G1.out rfl _ _ _ _ _ _) Try.underlying26 rfl (by kernel_rfl) rfl ?_
  exact ⟨rfl, q_below HB.out (by omega) _ _ _ _ _ _⟩
set_option maxRecDepth 100000 in
set_option maxHeartbeats 1000000 in
theorem rput_long (i f t cp s : Int) (A : Option Addr) (n c : Nat) (ls : List Msg) (hn : ls.length = n) (h63 : n ≤ 1000000) (hq : mayQ ⟨i, f, t, cp, s⟩ ls = true) (Am : Option Addr) (r cm : Nat) (hl : s < (r : Int)) (w : World) (h : Rms w A ls) :
    Calls Try.prog 12 #[.agg #[.int .i64 i, .int .i64 f, .int .i64 t, .int .i64 cp, .int .i64 s, .slice (A) n c], .slice Am r cm] w fun e w' => e = .returned (.tuple #[.agg #[.int .i64 0, .int .i64 0, .int .i64 0, .int .i64 0, .int .i64 0, .slice (none) 0 0], .int .i64 3]) ∧ Below w.heap.size w w' := by
  have g0 := Lib.hid (blk_alloc (blk_new w #[.int .i64 i, .int .i64 f, .int .i64 t, .int .i64 cp, .int .i64 s, .slice (A) n c] 26) (.cells #[.int .i64 0, .int .i64 0, .int .i64 0, .int .i64 0, .int .i64 0, .slice (none) 0 0] 26))
  have g1 := Lib.hid (show ((w.alloc (.cells #[.int .i64 i, .int .i64 f, .int .i64 t, .int .i64 cp, .int .i64 s, .slice (A) n c] 26)).alloc (.cells #[.int .i64 0, .int .i64 0, .int .i64 0, .int .i64 0, .int .i64 0, .slice (none) 0 0] 26)).heap[w.heap.size + 1]? = some (.cells #[.int .i64 0, .int .i64 0, .int .i64 0, .int .i64 0, .int .i64 0, .slice (none) 0 0] 26 (0, 0)) by have := blk_new (w.alloc (.cells #[.int .i64 i, .int .i64 f, .int .i64 t, .int .i64 cp, .int .i64 s, .slice (A) n c] 26)) #[.int .i64 0, .int .i64 0, .int .i64 0, .int .i64 0, .int .i64 0, .slice (none) 0 0] 26; simpa using this)
  have hX := Lib.hid (((Below.refl w.heap.size w).alloc (Nat.le_refl _) (.cells #[.int .i64 i, .int .i64 f, .int .i64 t, .int .i64 cp, .int .i64 s, .slice (A) n c] 26)).alloc (by simp) (.cells #[.int .i64 0, .int .i64 0, .int .i64 0, .int .i64 0, .int .i64 0, .slice (none) 0 0] 26))
  have T := rmayQueue ⟨i, f, t, cp, s⟩ A c ls (by omega) ((w.alloc (.cells #[.int .i64 i, .int .i64 f, .int .i64 t, .int .i64 cp, .int .i64 s, .slice (A) n c] 26)).alloc (.cells #[.int .i64 0, .int .i64 0, .int .i64 0, .int .i64 0, .int .i64 0, .slice (none) 0 0] 26)) (h.below hX.out)
  rw [hq, hn] at T
  dsimp only [qcells] at T
  have HT := Lib.hid T
  clear T h hq hn
  go_enter Try.func12, Try.ntmps12
  go_wp2_with fail
  refine HT.out.mono ?_
  rintro e w1 ⟨rfl, b1⟩
  have G0 := Lib.hid (blk_below g0.out b1 (blk_lt g0.out))
  have G1 := Lib.hid (blk_below g1.out b1 (blk_lt g1.out))
  have HB := Lib.hid (hX.out.trans (b1.mono hX.out.size))
  have a4 := blk_cell G0.out 4
  have r0 := blk_cell G1.out 0
  have f0 := blk_frozen G1.out 0
  have r1 := blk_cell G1.out 1
  have f1 := blk_frozen G1.out 1
  have r2 := blk_cell G1.out 2
  have f2 := blk_frozen G1.out 2
  have r3 := blk_cell G1.out 3
  have f3 := blk_frozen G1.out 3
  have r4 := blk_cell G1.out 4
  have f4 := blk_frozen G1.out 4
  have r5 := blk_cell G1.out 5
  have f5 := blk_frozen G1.out 5
  clear b1
  go_wp2
  refine ret_row_tmp rfl (w.heap.size + 1) 26 _ _ rfl (q_set G1.out rfl _ _ _ _ _ _) Try.underlying26 rfl (by kernel_rfl) rfl ?_
  exact ⟨rfl, q_below HB.out (by omega) _ _ _ _ _ _⟩
theorem own_low {w : World} {base : Nat} {e : TypeId} {size n : Nat} {v : Value} {xs : List Value} (h : w.ownsRow base e size v n xs) {p : Addr} (hp : p.block < base) (u : Value) : (w.setCell p u).ownsRow base e size v n xs := by
  refine ⟨h.1, ?_⟩
  rcases h.2 with hn | ⟨g, cap, cur, rfl, hb0, hgg, rest⟩
  · exact .inl hn
  · exact .inr ⟨g, cap, cur, rfl, hb0, blk_far hgg (by omega) u, rest⟩
theorem Grow.low {lo : Nat} {w : World} {v : Value} {ls : List Msg} (h : Grow lo w v ls) {p : Addr} (hp : p.block < lo) (u : Value) : Grow lo (w.setCell p u) v ls := by
  obtain ⟨vs, h1, h2, h3⟩ := h
  refine ⟨vs, h1, own_low h2 hp u, fun k l hk => ?_⟩
  obtain ⟨x, e1, A, c, e2, e3, e4, e5, e6⟩ := h3 k l hk
  refine ⟨x, e1, A, c, e2, e3, e4, e5, ?_⟩
  rcases e6 with h | ⟨g, off, cs, rfl, k1, k2, hc, hx⟩
  · exact .inl h
  · exact .inr ⟨g, off, cs, rfl, k1, by simpa using k2, blk_far hc (by omega) u, hx⟩
/-- A message has been put behind the others: w3 is the world in which its copy lies, o the row of one that the append takes, w5 the world behind the append. -/
theorem Grow.pushed {lo gb nr ml c0 c1 c5 : Nat} {wr w3 w5 : World} {A0 A1 A5 : Option Addr} {vs xs : List Value} {ls : List Msg} {l : Msg} {o : Obj} (hnr : ls.length = nr) (hml : l.length = ml) (hxs : bcs l = xs) (hvl : vs.length = nr)
    (hms : ∀ (k : Nat) (l : Msg), ls[k]? = some l → ∃ u, vs[k]? = some u ∧ MsgAt lo wr.heap.size wr u l) (hb3 : Below wr.heap.size wr w3)
    (hol3 : w3.ownsRow lo 27 1 (.slice A0 nr c0) nr vs) (hc1 : ml ≤ c1) (hA1 : A1 = none → c1 = 0) (hf1 : (∃ g, A1 = some ⟨g, 0, none⟩) ∨ xs = []) (hr1 : RowIn 5 wr.heap.size w3.heap.size w3 A1 xs)
    (hlo : lo ≤ wr.heap.size) (hg5 : (w3.alloc o).grownBy w5 (Value.slice A0 nr c0).ownBlock) (hown5 : w5.ownsRow lo 27 1 (.slice A5 (nr + 1) c5) (nr + 1) (vs ++ [.slice A1 ml c1])) (hgb : gb < lo) (u : Value) :
    Grow lo (w5.setCell ⟨gb, 5, none⟩ u) (.slice A5 (nr + 1) c5) (ls ++ [l]) := by
  subst hnr; subst hml; subst hxs
  have hal : Below w3.heap.size w3 (w3.alloc o) := (Below.refl _ _).alloc (Nat.le_refl _) o
  have hls : w3.heap.size ≤ (w3.alloc o).heap.size := by simp
  refine Grow.low (Grow.snoc (hol3.alloc o) hvl (fun k x hk => ?_) (l := l) ?_ hown5 hg5) hgb u
  · obtain ⟨y, e1, e2⟩ := hms k x hk
    exact ⟨y, e1, ((e2.below hb3 (Nat.le_refl _)).below hal hb3.size).mono (Nat.le_refl _) (Nat.le_trans hb3.size hls)⟩
  · refine ⟨A1, c1, rfl, hc1, hA1, ?_, (hr1.below hal (Nat.le_refl _)).mono hlo hls⟩
    rcases hf1 with h | h
    · exact .inl h
    · exact .inr (List.eq_nil_of_length_eq_zero (by have := bcs_length l; rw [h] at this; simpa using this.symm))
/-- What the reference's loop has put into its answer. -/
def rrows (x : Ch) (ls : List Msg) (k : Nat) : List Msg := if (ls.length : Int) = x.cap then (ls.take k).drop 1 else ls.take k
theorem Grow.q {lo n c : Nat} {w : World} {A : Option Addr} {ls : List Msg} (h : Grow lo w (.slice A n c) ls) : n = ls.length ∧ QAt lo w.heap.size w A c ls := by
  obtain ⟨A', c', e, h1, h2, h3, h4⟩ := h.form
  injection e with e1 e2 e3
  subst e1; subst e3
  exact ⟨e2, h1, h2, h4⟩
theorem rrows_next {x : Ch} {ls : List Msg} {k : Nat} {l : Msg} (hl : ls[k]? = some l) (hd : 0 < k ∨ (ls.length : Int) < x.cap) : rrows x ls (k + 1) = rrows x ls k ++ [l] := by
  have hk := (List.getElem?_eq_some_iff.1 hl).1
  have e : ls.take (k + 1) = ls.take k ++ [l] := by rw [List.take_add_one, hl]; rfl
  unfold rrows
  split
  · rw [e, List.drop_append_of_le_length (by rw [List.length_take]; omega)]
  · exact e
theorem rrows_skip {x : Ch} {ls : List Msg} (h : (ls.length : Int) = x.cap) : rrows x ls 1 = rrows x ls 0 := by
  unfold rrows
  rw [if_pos h, if_pos h]
  cases ls <;> rfl
end Go.Proofs.Ytlmecndldclnnaa.chan
