/- Channels: the reference's Take; no condition. -/
import Derived.Test.YtlmecndldclnnaaRows
import Derived.Test.YtlmecndldclnnaaChM
import Derived.Deep.RegionLaw
import Derived.Lib.SmallJoins
import Derived.Deep.RegionHeld3
namespace Go.Proofs.Ytlmecndldclnnaa.chan
open Go Go.ChangeShapes Go.WideShapes Go.ChangeAt Go.RowKit Go.Proofs.Ytlmecndldclnnaa.rows
set_option maxRecDepth 100000 in
set_option maxHeartbeats 1000000 in
theorem rtake_arg (i f t cp s : Int) (A : Option Addr) (n c : Nat) (ls : List Msg) (hn : ls.length = n) (h63 : n ≤ 1000000) (hq : mayQ ⟨i, f, t, cp, s⟩ ls = false) (w : World) (h : Rms w A ls) :
    Calls Try.prog 18 #[.agg #[.int .i64 i, .int .i64 f, .int .i64 t, .int .i64 cp, .int .i64 s, .slice (A) n c]] w fun e w' => e = .returned (.tuple #[.slice none 0 0, .agg #[.int .i64 0, .int .i64 0, .int .i64 0, .int .i64 0, .int .i64 0, .slice (none) 0 0], .int .i64 2]) ∧ Below w.heap.size w w' := by
  have g0 := Lib.hid (blk_alloc (blk_new w #[.int .i64 i, .int .i64 f, .int .i64 t, .int .i64 cp, .int .i64 s, .slice (A) n c] 26) (.cells #[.int .i64 0, .int .i64 0, .int .i64 0, .int .i64 0, .int .i64 0, .slice (none) 0 0] 26))
  have g1 := Lib.hid (show ((w.alloc (.cells #[.int .i64 i, .int .i64 f, .int .i64 t, .int .i64 cp, .int .i64 s, .slice (A) n c] 26)).alloc (.cells #[.int .i64 0, .int .i64 0, .int .i64 0, .int .i64 0, .int .i64 0, .slice (none) 0 0] 26)).heap[w.heap.size + 1]? = some (.cells #[.int .i64 0, .int .i64 0, .int .i64 0, .int .i64 0, .int .i64 0, .slice (none) 0 0] 26 (0, 0)) by have := blk_new (w.alloc (.cells #[.int .i64 i, .int .i64 f, .int .i64 t, .int .i64 cp, .int .i64 s, .slice (A) n c] 26)) #[.int .i64 0, .int .i64 0, .int .i64 0, .int .i64 0, .int .i64 0, .slice (none) 0 0] 26; simpa using this)
  have hX := Lib.hid (((Below.refl w.heap.size w).alloc (Nat.le_refl _) (.cells #[.int .i64 i, .int .i64 f, .int .i64 t, .int .i64 cp, .int .i64 s, .slice (A) n c] 26)).alloc (by simp) (.cells #[.int .i64 0, .int .i64 0, .int .i64 0, .int .i64 0, .int .i64 0, .slice (none) 0 0] 26))
  have T := rmayQueue ⟨i, f, t, cp, s⟩ A c ls (by omega) ((w.alloc (.cells #[.int .i64 i, .int .i64 f, .int .i64 t, .int .i64 cp, .int .i64 s, .slice (A) n c] 26)).alloc (.cells #[.int .i64 0, .int .i64 0, .int .i64 0, .int .i64 0, .int .i64 0, .slice (none) 0 0] 26)) (h.below hX.out)
  rw [hq, hn] at T
  dsimp only [qcells] at T
  have HT := Lib.hid T
  clear T h hq hn
  go_enter Try.func18, Try.ntmps18
  go_wp2_with fail
  refine HT.out.mono ?_
  rintro e w1 ⟨rfl, b1⟩
  have G1 := Lib.hid (blk_below g1.out b1 (blk_lt g1.out))
  have HB := Lib.hid (hX.out.trans (b1.mono hX.out.size))
  have r0 := blk_cell G1.out 0
  have f0 := blk_frozen G1.out 0
  have r1 := blk_cell G1.out 1
  have f1 := blk_frozen G1.out 1
  have r2 := blk_cell G1.out 2
  have f2 := blk_frozen G1.out 2
  have r3 := blk_cell G1.out 3
  have f3 := blk_frozen G1.out 3
  have r4 := blk_cell G1.out 4
  have f4 := blk_frozen G1.out 4
  have r5 := blk_cell G1.out 5
  have f5 := blk_frozen G1.out 5
  clear b1
  go_wp2
  refine ret_tmp_row_tmp rfl (w.heap.size + 1) 26 _ _ rfl (q_set G1.out rfl _ _ _ _ _ _) Try.underlying26 rfl (by kernel_rfl) rfl ?_
  exact ⟨rfl, q_below HB.out (by omega) _ _ _ _ _ _⟩
set_option maxRecDepth 100000 in
set_option maxHeartbeats 1000000 in
theorem rtake_none (i f t cp s : Int) (A : Option Addr) (n c : Nat) (ls : List Msg) (hn : ls.length = n) (h0 : n = 0) (hq : mayQ ⟨i, f, t, cp, s⟩ ls = true) (w : World) (h : Rms w A ls) :
    Calls Try.prog 18 #[.agg #[.int .i64 i, .int .i64 f, .int .i64 t, .int .i64 cp, .int .i64 s, .slice (A) n c]] w fun e w' => e = .returned (.tuple #[.slice none 0 0, .agg #[.int .i64 0, .int .i64 0, .int .i64 0, .int .i64 0, .int .i64 0, .slice (none) 0 0], .int .i64 100]) ∧ Below w.heap.size w w' := by
  have g0 := Lib.hid (blk_alloc (blk_new w #[.int .i64 i, .int .i64 f, .int .i64 t, .int .i64 cp, .int .i64 s, .slice (A) n c] 26) (.cells #[.int .i64 0, .int .i64 0, .int .i64 0, .int .i64 0, .int .i64 0, .slice (none) 0 0] 26))
  have g1 := Lib.hid (show ((w.alloc (.cells #[.int .i64 i, .int .i64 f, .int .i64 t, .int .i64 cp, .int .i64 s, .slice (A) n c] 26)).alloc (.cells #[.int .i64 0, .int .i64 0, .int .i64 0, .int .i64 0, .int .i64 0, .slice (none) 0 0] 26)).heap[w.heap.size + 1]? = some (.cells #[.int .i64 0, .int .i64 0, .int .i64 0, .int .i64 0, .int .i64 0, .slice (none) 0 0] 26 (0, 0)) by have := blk_new (w.alloc (.cells #[.int .i64 i, .int .i64 f, .int .i64 t, .int .i64 cp, .int .i64 s, .slice (A) n c] 26)) #[.int .i64 0, .int .i64 0, .int .i64 0, .int .i64 0, .int .i64 0, .slice (none) 0 0] 26; simpa using this)
  have hX := Lib.hid (((Below.refl w.heap.size w).alloc (Nat.le_refl _) (.cells #[.int .i64 i, .int .i64 f, .int .i64 t, .int .i64 cp, .int .i64 s, .slice (A) n c] 26)).alloc (by simp) (.cells #[.int .i64 0, .int .i64 0, .int .i64 0, .int .i64 0, .int .i64 0, .slice (none) 0 0] 26))
  have T := rmayQueue ⟨i, f, t, cp, s⟩ A c ls (by omega) ((w.alloc (.cells #[.int .i64 i, .int .i64 f, .int .i64 t, .int .i64 cp, .int .i64 s, .slice (A) n c] 26)).alloc (.cells #[.int .i64 0, .int .i64 0, .int .i64 0, .int .i64 0, .int .i64 0, .slice (none) 0 0] 26)) (h.below hX.out)
  rw [hq, hn] at T
  dsimp only [qcells] at T
  have HT := Lib.hid T
  subst h0
  clear T h hq hn
  go_enter Try.func18, Try.ntmps18
  go_wp2_with fail
  refine HT.out.mono ?_
  rintro e w1 ⟨rfl, b1⟩
  have G0 := Lib.hid (blk_below g0.out b1 (blk_lt g0.out))
  have G1 := Lib.hid (blk_below g1.out b1 (blk_lt g1.out))
  have HB := Lib.hid (hX.out.trans (b1.mono hX.out.size))
  have a5 := blk_cell G0.out 5
  have r0 := blk_cell G1.out 0
  have f0 := blk_frozen G1.out 0
  have r1 := blk_cell G1.out 1
  have f1 := blk_frozen G1.out 1
  have r2 := blk_cell G1.out 2
  have f2 := blk_frozen G1.out 2
  have r3 := blk_cell G1.out 3
  have f3 := blk_frozen G1.out 3
  have r4 := blk_cell G1.out 4
  have f4 := blk_frozen G1.out 4
  have r5 := blk_cell G1.out 5
  have f5 := blk_frozen G1.out 5
  clear b1
  go_wp2
  refine ret_tmp_row_tmp rfl (w.heap.size + 1) 26 _ _ rfl (q_set G1.out rfl _ _ _ _ _ _) Try.underlying26 rfl (by kernel_rfl) rfl ?_
  exact ⟨rfl, q_below HB.out (by omega) _ _ _ _ _ _⟩
theorem cell_far6 {w : World} {g : Nat} {p : Addr} (hp : p.block ≠ g) (u0 u1 u2 u3 u4 u5 : Value) : ((((((w.setCell ⟨g, 0, none⟩ u0).setCell ⟨g, 1, none⟩ u1).setCell ⟨g, 2, none⟩ u2).setCell ⟨g, 3, none⟩ u3).setCell ⟨g, 4, none⟩ u4).setCell ⟨g, 5, none⟩ u5).cell? p = w.cell? p := by
  have f : ∀ (W : World) (k : Nat) (u : Value), (W.setCell ⟨g, k, none⟩ u).cell? p = W.cell? p := fun W k u => World.cell?_setCell_far W ⟨g, k, none⟩ p u (fun e => hp e.symm)
  rw [f, f, f, f, f, f]
/-- What the reference's loop has put into its answer. -/
def trows (ls : List Msg) (k : Nat) : List Msg := (ls.take k).drop 1
theorem trows_next {ls : List Msg} {k : Nat} {l : Msg} (hl : ls[k]? = some l) (hd : 0 < k) : trows ls (k + 1) = trows ls k ++ [l] := by
  have hk := (List.getElem?_eq_some_iff.1 hl).1
  have e : ls.take (k + 1) = ls.take k ++ [l] := by rw [List.take_add_one, hl]; rfl
  unfold trows
  rw [e, List.drop_append_of_le_length (by rw [List.length_take]; omega)]
set_option maxRecDepth 100000 in
set_option maxHeartbeats 4000000 in
theorem rtake_ok (i f t cp s : Int) (A : Option Addr) (n c : Nat) (m : Msg) (ms : List Msg) (hn : (m :: ms).length = n) (hq : mayQ ⟨i, f, t, cp, s⟩ (m :: ms) = true) (w : World) (h : Rms w A (m :: ms)) :
    Calls Try.prog 18 #[.agg #[.int .i64 i, .int .i64 f, .int .i64 t, .int .i64 cp, .int .i64 s, .slice (A) n c]] w (TOut (m, ⟨i, f, t, cp, s⟩, ms, 0) w) := by
  obtain ⟨ls, hls⟩ : ∃ ls, m :: ms = ls := ⟨_, rfl⟩
  rw [hls] at hn hq h
  have h0 : 0 < n := by rw [← hn, ← hls]; simp
  obtain ⟨i0, hi, hz0, hz1, hz2⟩ := info_parts info_row
  obtain ⟨i1, gi, gz0, gz1, gz2⟩ := info_parts info_byte
  have hy := mayQ_yes hq
  have hmay := mayC_iff.1 hy.1
  obtain ⟨_, hlen, hsz2⟩ := hy
  simp only at hmay hlen hsz2
  rw [hn] at hlen
  have g0 := Lib.hid (blk_alloc (blk_new w #[.int .i64 i, .int .i64 f, .int .i64 t, .int .i64 cp, .int .i64 s, .slice (A) n c] 26) (.cells #[.int .i64 0, .int .i64 0, .int .i64 0, .int .i64 0, .int .i64 0, .slice (none) 0 0] 26))
  have g1 := Lib.hid (show ((w.alloc (.cells #[.int .i64 i, .int .i64 f, .int .i64 t, .int .i64 cp, .int .i64 s, .slice (A) n c] 26)).alloc (.cells #[.int .i64 0, .int .i64 0, .int .i64 0, .int .i64 0, .int .i64 0, .slice (none) 0 0] 26)).heap[w.heap.size + 1]? = some (.cells #[.int .i64 0, .int .i64 0, .int .i64 0, .int .i64 0, .int .i64 0, .slice (none) 0 0] 26 (0, 0)) by have := blk_new (w.alloc (.cells #[.int .i64 i, .int .i64 f, .int .i64 t, .int .i64 cp, .int .i64 s, .slice (A) n c] 26)) #[.int .i64 0, .int .i64 0, .int .i64 0, .int .i64 0, .int .i64 0, .slice (none) 0 0] 26; simpa using this)
  have hX := Lib.hid (((Below.refl w.heap.size w).alloc (Nat.le_refl _) (.cells #[.int .i64 i, .int .i64 f, .int .i64 t, .int .i64 cp, .int .i64 s, .slice (A) n c] 26)).alloc (by simp) (.cells #[.int .i64 0, .int .i64 0, .int .i64 0, .int .i64 0, .int .i64 0, .slice (none) 0 0] 26))
  have T := rmayQueue ⟨i, f, t, cp, s⟩ A c ls (by omega) ((w.alloc (.cells #[.int .i64 i, .int .i64 f, .int .i64 t, .int .i64 cp, .int .i64 s, .slice (A) n c] 26)).alloc (.cells #[.int .i64 0, .int .i64 0, .int .i64 0, .int .i64 0, .int .i64 0, .slice (none) 0 0] 26)) (h.below hX.out)
  rw [hq, hn] at T
  dsimp only [qcells] at T
  have HT := Lib.hid T; have HN := Lib.hid hn; have HLS := Lib.hid hls
  have HW := Lib.hid h; have H := Lib.hid (h.below hX.out)
  have HS2 := Lib.hid hsz2; have HMAY := Lib.hid hmay
  have hn4 : n ≤ 4 := by omega
  have hn0 : ((n : Int) == 0) = false := by simp; omega
  clear T h hq hn hsz2 hmay hls
  go_enter Try.func18, Try.ntmps18
  go_wp2_with fail
  refine HT.out.mono ?_
  rintro e w1 ⟨rfl, b1⟩
  have G0 := Lib.hid (blk_alloc (blk_below g0.out b1 (blk_lt g0.out)) (.cells #[.int .i64 i, .int .i64 f, .int .i64 t, .int .i64 cp, .int .i64 s, .slice (none) 0 0] 26))
  have G1 := Lib.hid (blk_alloc (blk_below g1.out b1 (blk_lt g1.out)) (.cells #[.int .i64 i, .int .i64 f, .int .i64 t, .int .i64 cp, .int .i64 s, .slice (none) 0 0] 26))
  have G2 := Lib.hid (blk_new w1 #[.int .i64 i, .int .i64 f, .int .i64 t, .int .i64 cp, .int .i64 s, .slice (none) 0 0] 26)
  have HB := Lib.hid ((hX.out.trans (b1.mono hX.out.size)).alloc (Nat.le_trans hX.out.size b1.size) (.cells #[.int .i64 i, .int .i64 f, .int .i64 t, .int .i64 cp, .int .i64 s, .slice (none) 0 0] 26))
  have s1 : w.heap.size + 2 ≤ w1.heap.size := by have := b1.size; simpa using this
  have Z2 := Lib.hid (show (w1.alloc (.cells #[.int .i64 i, .int .i64 f, .int .i64 t, .int .i64 cp, .int .i64 s, .slice (none) 0 0] 26)).heap.size = w1.heap.size + 1 by simp)
  have a0 := blk_cell (blk_below g0.out b1 (blk_lt g0.out)) 0
  have a1 := blk_cell (blk_below g0.out b1 (blk_lt g0.out)) 1
  have a2 := blk_cell (blk_below g0.out b1 (blk_lt g0.out)) 2
  have a3 := blk_cell (blk_below g0.out b1 (blk_lt g0.out)) 3
  have a4 := blk_cell (blk_below g0.out b1 (blk_lt g0.out)) 4
  have a5 := blk_cell (blk_below g0.out b1 (blk_lt g0.out)) 5
  clear b1
  go_wp2_with fail
  clear a0 a1 a2 a3 a4 a5
  generalize w1.alloc (.cells #[.int .i64 i, .int .i64 f, .int .i64 t, .int .i64 cp, .int .i64 s, .slice (none) 0 0] 26) = w2 at *
  go_loopw [6] (fun iv wr => ∃ k : Nat, k ≤ n ∧ 1 ≤ k ∧ iv = .int .i64 k ∧ ∃ v, wr.heap[w1.heap.size]? = some (.cells #[.int .i64 i, .int .i64 f, .int .i64 t, .int .i64 cp, .int .i64 s, v] 26 (0, 0)) ∧ Grow w2.heap.size wr v (trows ls k) ∧ Below w1.heap.size w2 wr) (fun iv _ => n - (intOf iv).toNat)
  case atStart => exact ⟨1, by omega, Nat.le_refl _, rfl, .slice none 0 0, G2.out, (by rw [← HLS.out]; exact Grow.nil _ _), Below.refl _ _⟩
  case round =>
    obtain ⟨k, hk, hk1, rfl, v, ho, hg, hb⟩ := hrel
    have gP := Lib.hid (blk_below G0.out hb (by omega))
    have a5 := blk_cell gP.out 5
    have hz := hb.size
    have HB2 := Lib.hid hb
    have hk0 : (0 : Int) ≤ (k : Int) := by omega
    obtain ⟨b, off, rfl⟩ := H.out.addr (by rw [HN.out]; omega)
    by_cases hkl : k < n
    · have hki : (k : Int) < (n : Int) := by omega
      obtain ⟨l, hl'⟩ : ∃ l, ls[k]? = some l := ⟨_, List.getElem?_eq_getElem (by rw [HN.out]; exact hkl)⟩
      obtain ⟨A', c', cl, hlc, hA', hrl⟩ := (HW.out.below (HB.out.trans (hb.mono (by omega)))).at hl'
      obtain ⟨A0, c0, rfl, hc0, hA0, _, _⟩ := hg.form
      have o5 := blk_cell ho 5
      have of5 := blk_frozen ho 5
      have hlen := bcs_length l
      have h1 := bcs_one l
      obtain ⟨xs, hxs⟩ : ∃ xs, bcs l = xs := ⟨_, rfl⟩
      obtain ⟨ml, hml⟩ : ∃ ml, l.length = ml := ⟨_, rfl⟩
      obtain ⟨nr, hnr⟩ : ∃ nr, (trows ls k).length = nr := ⟨_, rfl⟩
      have hown : (wr.alloc (.cells #[] 5)).ownsRow wr.heap.size 5 1 (.slice (some ⟨wr.heap.size, 0, none⟩) 0 0) 0 [] := World.ownsRow_lit wr #[] 0 (Nat.le_refl _) (by decide) rfl
      have hr2 := hrl.alloc (.cells #[] 5)
      rw [hxs] at hr2 hlen h1
      rw [hml] at hlen cl
      rw [hnr] at o5
      have hnr4 : nr ≤ 4 := by rw [← hnr]; unfold trows; simp; omega
      have HLN := Lib.hid hlen; have HML := Lib.hid hml; have HNR := Lib.hid hnr; have HXS := Lib.hid hxs; have HG := Lib.hid hg; have HO := Lib.hid ho; have HRL := Lib.hid hr2; have HOW := Lib.hid hown
      have hml6 : ml ≤ 1000000 := by have := HS2.out l (List.mem_of_getElem? hl'); have := HMAY.out; omega
      have hvl0 : ∃ vs, wr.ownsRow w2.heap.size 27 1 (.slice A0 nr c0) nr vs ∧ vs.length = nr ∧ ∀ (j : Nat) (l : Msg), (trows ls k)[j]? = some l → ∃ u, vs[j]? = some u ∧ MsgAt w2.heap.size wr.heap.size wr u l := by
        have h := HG.out.own
        rw [HNR.out] at h
        exact h
      obtain ⟨vs, hownl, hvl, hms⟩ := hvl0
      have HOWL := Lib.hid hownl; have HVL := Lib.hid hvl; have HMS := Lib.hid hms
      have lt0 : w1.heap.size < w2.heap.size := by rw [Z2.out]; omega
      have LT0 := Lib.hid lt0
      have a5' : ∀ o, (wr.alloc o).cell? ⟨w.heap.size, 5, none⟩ = some (.slice (some ⟨b, off, none⟩) n c) := fun o => Lib.cell?_alloc_marked o a5
      have cl' : ∀ o, (wr.alloc o).cell? ⟨b, off + k, none⟩ = some (.slice A' ml c') := fun o => Lib.cell?_alloc_marked o cl
      have o5' : ∀ o, (wr.alloc o).cell? ⟨w1.heap.size, 5, none⟩ = some (.slice A0 nr c0) := fun o => Lib.cell?_alloc_marked o o5
      have LTR := Lib.hid (show w1.heap.size < wr.heap.size by omega)
      have HZ2 := Lib.hid (show w2.heap.size ≤ wr.heap.size from hz)
      have HNX := Lib.hid (trows_next hl' (by omega))
      clear hlen hml hnr hxs hg ho hr2 hrl hown hl' hb hownl hvl hms
      go_wp2_with fail
      go_region_law (first
          | (refine step_append_rd rfl (.tmp 28) (.tmp 33) 27 rfl wr.heap.size 5 i1 (.int .u8 0) 1 1 Try.underlying27 gi gz0 gz1 gz2 rfl (by decide) _ 0 [] rfl (HOW.out.drew) _ ml _ xs rfl (by rw [HLN.out]; omega) (HRL.out.drew) h1 (by unfold maxLen; omega) (by omega) (by simp) ?_; intro v1 w3 hown3 hg3; obtain ⟨A1, c1, rfl, hc1, hA1, hf1, hr1⟩ := own_form3 hown3; have hb3 := below_own (((Below.refl wr.heap.size wr).alloc (Nat.le_refl _) (.cells #[] 5)).drew) (HOW.out.drew) hg3 (by simp); have o5b := (hb3.cell (p := ⟨w1.heap.size, 5, none⟩) LTR.out).trans o5; have o5c : ∀ o, (w3.alloc o).cell? ⟨w1.heap.size, 5, none⟩ = some (.slice A0 nr c0) := fun o => Lib.cell?_alloc_marked o o5b; have HOL3 := Lib.hid (own_below HOWL.out hb3); rw [Nat.zero_add])
          | (refine step_append_rd rfl (.tmp 27) (.tmp 35) 24 rfl w2.heap.size 27 i0 (.slice none 0 0) 1 24 Try.underlying24 hi hz0 hz1 hz2 rfl (by decide) _ nr vs rfl (HOL3.out.alloc _) _ 1 _ [.slice A1 ml c1] rfl rfl (Rd.new _ _ _) (by intro u hu; simp at hu; subst hu; rfl) (by unfold maxLen; omega) (by omega) (by have h1 := HZ2.out; have h2 := hb3.size; simp; omega) ?_; intro v5 w5 hown5 hg5; obtain ⟨A5, c5, rfl, hc5, hA5, hf5, hr5⟩ := own_form3 hown5; have hb5 := below_own ((hb3.mono HZ2.out).alloc (Nat.le_trans HZ2.out hb3.size) _) (HOL3.out.alloc _) hg5 (by have h1 := HZ2.out; have h2 := hb3.size; simp; omega); have O5 := Lib.hid (blk_below HO.out hb5 LT0.out); have o5d := blk_cell O5.out 5; have of5d := blk_frozen O5.out 5))
      all_goals (go_wp2_with fail; go_roundw)
      all_goals first
        | (simp [intOf]; omega)
        | exact ⟨k + 1, by omega, by omega, by go_num, .slice A5 (nr + 1) c5, blk_set O5.out 5 _, by rw [HNX.out]; exact Grow.pushed HNR.out HML.out HXS.out HVL.out HMS.out hb3 HOL3.out (by omega) hA1 hf1 hr1 HZ2.out hg5 hown5 LT0.out _, (HB2.out.trans (hb5.mono (Nat.le_of_lt LT0.out))).setCell (p := ⟨w1.heap.size, 5, none⟩) (Nat.le_refl _) _⟩
    · obtain rfl : k = n := by omega
      have hrw : trows ls k = ms := by unfold trows; rw [← HN.out, List.take_length, ← HLS.out]; rfl
      rw [hrw] at hg
      obtain ⟨A0, c0, rfl, hc0, hA0, _, _⟩ := hg.form
      have ltb : b < w.heap.size := by
        obtain ⟨A'', c'', cl0, _⟩ := HW.out.at (k := 0) (l := m) (by rw [← HLS.out]; rfl)
        exact World.block_lt_of_cell? w _ cl0
      obtain ⟨A', c', cl, hlc, hA', hrl⟩ := (HW.out.below (HB.out.trans (hb.mono (by omega)))).at (k := 0) (l := m) (by rw [← HLS.out]; rfl)
      have hlen := bcs_length m
      have h1 := bcs_one m
      obtain ⟨xs, hxs⟩ : ∃ xs, bcs m = xs := ⟨_, rfl⟩
      obtain ⟨ml, hml⟩ : ∃ ml, m.length = ml := ⟨_, rfl⟩
      have hown : (wr.alloc (.cells #[] 5)).ownsRow wr.heap.size 5 1 (.slice (some ⟨wr.heap.size, 0, none⟩) 0 0) 0 [] := World.ownsRow_lit wr #[] 0 (Nat.le_refl _) (by decide) rfl
      have hr2 := hrl.alloc (.cells #[] 5)
      have hml6 : ml ≤ 1000000 := by have := HS2.out m (by rw [← HLS.out]; simp); have := HMAY.out; omega
      rw [hxs] at hr2 hlen h1
      rw [hml] at hlen cl
      rw [Nat.add_zero] at cl
      have lt0 : w1.heap.size < w2.heap.size := by rw [Z2.out]; omega
      have HLN := Lib.hid hlen; have HML := Lib.hid hml; have HXS := Lib.hid hxs; have HG := Lib.hid hg; have HO := Lib.hid ho; have HRL := Lib.hid hr2; have HOW := Lib.hid hown; have LT0 := Lib.hid lt0
      have GR0 := Lib.hid (blk_below G1.out hb (by omega))
      have S1 := Lib.hid s1
      have LTR := Lib.hid (show w1.heap.size < wr.heap.size by omega)
      have LTP := Lib.hid (show w.heap.size < wr.heap.size by omega)
      have LTQ := Lib.hid (show w.heap.size + 1 < wr.heap.size by omega)
      have NEP := Lib.hid (show w.heap.size ≠ w.heap.size + 1 by omega)
      have NER := Lib.hid (show w1.heap.size ≠ w.heap.size + 1 by omega)
      have NEB := Lib.hid (show b ≠ w.heap.size + 1 by omega)
      have LTB := Lib.hid (show b < wr.heap.size from World.block_lt_of_cell? wr _ cl)
      have o0 := blk_cell HO.out 0
      have o1 := blk_cell HO.out 1
      have o2 := blk_cell HO.out 2
      have o3 := blk_cell HO.out 3
      have o4 := blk_cell HO.out 4
      have o5 := blk_cell HO.out 5
      have r0 := blk_cell GR0.out 0
      have f0 := blk_frozen GR0.out 0
      have r1 := blk_cell GR0.out 1
      have f1 := blk_frozen GR0.out 1
      have r2 := blk_cell GR0.out 2
      have f2 := blk_frozen GR0.out 2
      have r3 := blk_cell GR0.out 3
      have f3 := blk_frozen GR0.out 3
      have r4 := blk_cell GR0.out 4
      have f4 := blk_frozen GR0.out 4
      have r5 := blk_cell GR0.out 5
      have f5 := blk_frozen GR0.out 5
      clear hlen hml hxs hg ho hr2 hrl hown hb lt0
      go_wp2_with fail
      have hS0 : wr.drew.cell? ⟨w.heap.size, 5, none⟩ = some (.slice (some ⟨b, off, none⟩) k c) ∧ wr.drew.cell? ⟨b, off, none⟩ = some (.slice A' ml c') ∧ wr.drew.cell? ⟨w1.heap.size, 0, none⟩ = some (.int .i64 i) ∧ wr.drew.cell? ⟨w1.heap.size, 1, none⟩ = some (.int .i64 f) ∧ wr.drew.cell? ⟨w1.heap.size, 2, none⟩ = some (.int .i64 t) ∧ wr.drew.cell? ⟨w1.heap.size, 3, none⟩ = some (.int .i64 cp) ∧ wr.drew.cell? ⟨w1.heap.size, 4, none⟩ = some (.int .i64 s) ∧ wr.drew.cell? ⟨w1.heap.size, 5, none⟩ = some (.slice A0 ms.length c0) := ⟨a5, cl, o0, o1, o2, o3, o4, o5⟩
      have hS1 : ((wr.alloc (.cells #[] 5)).drew).cell? ⟨w.heap.size, 5, none⟩ = some (.slice (some ⟨b, off, none⟩) k c) ∧ ((wr.alloc (.cells #[] 5)).drew).cell? ⟨b, off, none⟩ = some (.slice A' ml c') ∧ ((wr.alloc (.cells #[] 5)).drew).cell? ⟨w1.heap.size, 0, none⟩ = some (.int .i64 i) ∧ ((wr.alloc (.cells #[] 5)).drew).cell? ⟨w1.heap.size, 1, none⟩ = some (.int .i64 f) ∧ ((wr.alloc (.cells #[] 5)).drew).cell? ⟨w1.heap.size, 2, none⟩ = some (.int .i64 t) ∧ ((wr.alloc (.cells #[] 5)).drew).cell? ⟨w1.heap.size, 3, none⟩ = some (.int .i64 cp) ∧ ((wr.alloc (.cells #[] 5)).drew).cell? ⟨w1.heap.size, 4, none⟩ = some (.int .i64 s) ∧ ((wr.alloc (.cells #[] 5)).drew).cell? ⟨w1.heap.size, 5, none⟩ = some (.slice A0 ms.length c0) := ⟨Lib.cell?_alloc_marked _ a5, Lib.cell?_alloc_marked _ cl, Lib.cell?_alloc_marked _ o0, Lib.cell?_alloc_marked _ o1, Lib.cell?_alloc_marked _ o2, Lib.cell?_alloc_marked _ o3, Lib.cell?_alloc_marked _ o4, Lib.cell?_alloc_marked _ o5⟩
      have hS1' : (wr.drew.alloc (.cells #[] 5)).cell? ⟨w.heap.size, 5, none⟩ = some (.slice (some ⟨b, off, none⟩) k c) ∧ (wr.drew.alloc (.cells #[] 5)).cell? ⟨b, off, none⟩ = some (.slice A' ml c') ∧ (wr.drew.alloc (.cells #[] 5)).cell? ⟨w1.heap.size, 0, none⟩ = some (.int .i64 i) ∧ (wr.drew.alloc (.cells #[] 5)).cell? ⟨w1.heap.size, 1, none⟩ = some (.int .i64 f) ∧ (wr.drew.alloc (.cells #[] 5)).cell? ⟨w1.heap.size, 2, none⟩ = some (.int .i64 t) ∧ (wr.drew.alloc (.cells #[] 5)).cell? ⟨w1.heap.size, 3, none⟩ = some (.int .i64 cp) ∧ (wr.drew.alloc (.cells #[] 5)).cell? ⟨w1.heap.size, 4, none⟩ = some (.int .i64 s) ∧ (wr.drew.alloc (.cells #[] 5)).cell? ⟨w1.heap.size, 5, none⟩ = some (.slice A0 ms.length c0) := hS1
      have HS0 := Lib.hid hS0; have HS1 := Lib.hid hS1; have HS1' := Lib.hid hS1'
      clear hS0 hS1 hS1'
      go_region_held3 (fun w' => w'.cell? ⟨w.heap.size, 5, none⟩ = some (.slice (some ⟨b, off, none⟩) k c) ∧ w'.cell? ⟨b, off, none⟩ = some (.slice A' ml c') ∧ w'.cell? ⟨w1.heap.size, 0, none⟩ = some (.int .i64 i) ∧ w'.cell? ⟨w1.heap.size, 1, none⟩ = some (.int .i64 f) ∧ w'.cell? ⟨w1.heap.size, 2, none⟩ = some (.int .i64 t) ∧ w'.cell? ⟨w1.heap.size, 3, none⟩ = some (.int .i64 cp) ∧ w'.cell? ⟨w1.heap.size, 4, none⟩ = some (.int .i64 s) ∧ w'.cell? ⟨w1.heap.size, 5, none⟩ = some (.slice A0 ms.length c0))
        (with_reducible (first | exact HS0.out | exact HS1.out | exact HS1'.out | exact HS2.out | exact HS3.out _ _ _ _ _ _))
        ((refine step_append_rd rfl (.tmp 38) (.tmp 42) 27 rfl wr.heap.size 5 i1 (.int .u8 0) 1 1 Try.underlying27 gi gz0 gz1 gz2 rfl (by decide) _ 0 [] rfl (HOW.out.drew) _ ml _ xs rfl (by rw [HLN.out]; omega) (HRL.out.drew) h1 (by unfold maxLen; omega) (by omega) (by simp) ?_; intro v1 w3 hown3 hg3; obtain ⟨A1, c1, rfl, hc1, hA1, hf1, hr1⟩ := own_form3 hown3; rw [Nat.zero_add]; have hb3 := below_own (((Below.refl wr.heap.size wr).alloc (Nat.le_refl _) (.cells #[] 5)).drew) (HOW.out.drew) hg3 (by simp); have HS2 := Lib.hid (show w3.cell? ⟨w.heap.size, 5, none⟩ = some (.slice (some ⟨b, off, none⟩) k c) ∧ w3.cell? ⟨b, off, none⟩ = some (.slice A' ml c') ∧ w3.cell? ⟨w1.heap.size, 0, none⟩ = some (.int .i64 i) ∧ w3.cell? ⟨w1.heap.size, 1, none⟩ = some (.int .i64 f) ∧ w3.cell? ⟨w1.heap.size, 2, none⟩ = some (.int .i64 t) ∧ w3.cell? ⟨w1.heap.size, 3, none⟩ = some (.int .i64 cp) ∧ w3.cell? ⟨w1.heap.size, 4, none⟩ = some (.int .i64 s) ∧ w3.cell? ⟨w1.heap.size, 5, none⟩ = some (.slice A0 ms.length c0) from ⟨(hb3.cell (p := ⟨w.heap.size, 5, none⟩) LTP.out).trans a5, (hb3.cell (p := ⟨b, off, none⟩) LTB.out).trans cl, (hb3.cell (p := ⟨w1.heap.size, 0, none⟩) LTR.out).trans o0, (hb3.cell (p := ⟨w1.heap.size, 1, none⟩) LTR.out).trans o1, (hb3.cell (p := ⟨w1.heap.size, 2, none⟩) LTR.out).trans o2, (hb3.cell (p := ⟨w1.heap.size, 3, none⟩) LTR.out).trans o3, (hb3.cell (p := ⟨w1.heap.size, 4, none⟩) LTR.out).trans o4, (hb3.cell (p := ⟨w1.heap.size, 5, none⟩) LTR.out).trans o5⟩); have HS3 := Lib.hid (show ∀ u0 u1 u2 u3 u4 u5 : Value, ((((((w3.setCell ⟨w.heap.size + 1, 0, none⟩ u0).setCell ⟨w.heap.size + 1, 1, none⟩ u1).setCell ⟨w.heap.size + 1, 2, none⟩ u2).setCell ⟨w.heap.size + 1, 3, none⟩ u3).setCell ⟨w.heap.size + 1, 4, none⟩ u4).setCell ⟨w.heap.size + 1, 5, none⟩ u5).cell? ⟨w.heap.size, 5, none⟩ = some (.slice (some ⟨b, off, none⟩) k c) ∧ ((((((w3.setCell ⟨w.heap.size + 1, 0, none⟩ u0).setCell ⟨w.heap.size + 1, 1, none⟩ u1).setCell ⟨w.heap.size + 1, 2, none⟩ u2).setCell ⟨w.heap.size + 1, 3, none⟩ u3).setCell ⟨w.heap.size + 1, 4, none⟩ u4).setCell ⟨w.heap.size + 1, 5, none⟩ u5).cell? ⟨b, off, none⟩ = some (.slice A' ml c') ∧ ((((((w3.setCell ⟨w.heap.size + 1, 0, none⟩ u0).setCell ⟨w.heap.size + 1, 1, none⟩ u1).setCell ⟨w.heap.size + 1, 2, none⟩ u2).setCell ⟨w.heap.size + 1, 3, none⟩ u3).setCell ⟨w.heap.size + 1, 4, none⟩ u4).setCell ⟨w.heap.size + 1, 5, none⟩ u5).cell? ⟨w1.heap.size, 0, none⟩ = some (.int .i64 i) ∧ ((((((w3.setCell ⟨w.heap.size + 1, 0, none⟩ u0).setCell ⟨w.heap.size + 1, 1, none⟩ u1).setCell ⟨w.heap.size + 1, 2, none⟩ u2).setCell ⟨w.heap.size + 1, 3, none⟩ u3).setCell ⟨w.heap.size + 1, 4, none⟩ u4).setCell ⟨w.heap.size + 1, 5, none⟩ u5).cell? ⟨w1.heap.size, 1, none⟩ = some (.int .i64 f) ∧ ((((((w3.setCell ⟨w.heap.size + 1, 0, none⟩ u0).setCell ⟨w.heap.size + 1, 1, none⟩ u1).setCell ⟨w.heap.size + 1, 2, none⟩ u2).setCell ⟨w.heap.size + 1, 3, none⟩ u3).setCell ⟨w.heap.size + 1, 4, none⟩ u4).setCell ⟨w.heap.size + 1, 5, none⟩ u5).cell? ⟨w1.heap.size, 2, none⟩ = some (.int .i64 t) ∧ ((((((w3.setCell ⟨w.heap.size + 1, 0, none⟩ u0).setCell ⟨w.heap.size + 1, 1, none⟩ u1).setCell ⟨w.heap.size + 1, 2, none⟩ u2).setCell ⟨w.heap.size + 1, 3, none⟩ u3).setCell ⟨w.heap.size + 1, 4, none⟩ u4).setCell ⟨w.heap.size + 1, 5, none⟩ u5).cell? ⟨w1.heap.size, 3, none⟩ = some (.int .i64 cp) ∧ ((((((w3.setCell ⟨w.heap.size + 1, 0, none⟩ u0).setCell ⟨w.heap.size + 1, 1, none⟩ u1).setCell ⟨w.heap.size + 1, 2, none⟩ u2).setCell ⟨w.heap.size + 1, 3, none⟩ u3).setCell ⟨w.heap.size + 1, 4, none⟩ u4).setCell ⟨w.heap.size + 1, 5, none⟩ u5).cell? ⟨w1.heap.size, 4, none⟩ = some (.int .i64 s) ∧ ((((((w3.setCell ⟨w.heap.size + 1, 0, none⟩ u0).setCell ⟨w.heap.size + 1, 1, none⟩ u1).setCell ⟨w.heap.size + 1, 2, none⟩ u2).setCell ⟨w.heap.size + 1, 3, none⟩ u3).setCell ⟨w.heap.size + 1, 4, none⟩ u4).setCell ⟨w.heap.size + 1, 5, none⟩ u5).cell? ⟨w1.heap.size, 5, none⟩ = some (.slice A0 ms.length c0) from fun u0 u1 u2 u3 u4 u5 => ⟨(cell_far6 (p := ⟨w.heap.size, 5, none⟩) NEP.out _ _ _ _ _ _).trans ((hb3.cell (p := ⟨w.heap.size, 5, none⟩) LTP.out).trans a5), (cell_far6 (p := ⟨b, off, none⟩) NEB.out _ _ _ _ _ _).trans ((hb3.cell (p := ⟨b, off, none⟩) LTB.out).trans cl), (cell_far6 (p := ⟨w1.heap.size, 0, none⟩) NER.out _ _ _ _ _ _).trans ((hb3.cell (p := ⟨w1.heap.size, 0, none⟩) LTR.out).trans o0), (cell_far6 (p := ⟨w1.heap.size, 1, none⟩) NER.out _ _ _ _ _ _).trans ((hb3.cell (p := ⟨w1.heap.size, 1, none⟩) LTR.out).trans o1), (cell_far6 (p := ⟨w1.heap.size, 2, none⟩) NER.out _ _ _ _ _ _).trans ((hb3.cell (p := ⟨w1.heap.size, 2, none⟩) LTR.out).trans o2), (cell_far6 (p := ⟨w1.heap.size, 3, none⟩) NER.out _ _ _ _ _ _).trans ((hb3.cell (p := ⟨w1.heap.size, 3, none⟩) LTR.out).trans o3), (cell_far6 (p := ⟨w1.heap.size, 4, none⟩) NER.out _ _ _ _ _ _).trans ((hb3.cell (p := ⟨w1.heap.size, 4, none⟩) LTR.out).trans o4), (cell_far6 (p := ⟨w1.heap.size, 5, none⟩) NER.out _ _ _ _ _ _).trans ((hb3.cell (p := ⟨w1.heap.size, 5, none⟩) LTR.out).trans o5)⟩); have GR3 := Lib.hid (blk_below GR0.out hb3 LTQ.out); have rr0 := blk_cell GR3.out 0; have ff0 := blk_frozen GR3.out 0; have rr1 := blk_cell GR3.out 1; have ff1 := blk_frozen GR3.out 1; have rr2 := blk_cell GR3.out 2; have ff2 := blk_frozen GR3.out 2; have rr3 := blk_cell GR3.out 3; have ff3 := blk_frozen GR3.out 3; have rr4 := blk_cell GR3.out 4; have ff4 := blk_frozen GR3.out 4; have rr5 := blk_cell GR3.out 5; have ff5 := blk_frozen GR3.out 5))
      have hq := Grow.q (HG.out.below hb3)
      have hmsg : MsgAt w.heap.size w3.heap.size w3 (.slice A1 ml c1) m := ⟨A1, c1, by rw [HML.out], by rw [HML.out]; omega, hA1, hf1.elim .inl (fun e => .inr (List.eq_nil_of_length_eq_zero (by have h := HLN.out; rw [show xs = [] from e] at h; rw [HML.out]; simpa using h.symm))), by rw [HXS.out]; exact hr1.mono (Nat.le_of_lt LTP.out) (Nat.le_refl _)⟩
      have HQ6 := Lib.hid (q_set GR3.out rfl (.int .i64 i) (.int .i64 f) (.int .i64 t) (.int .i64 cp) (.int .i64 s) (.slice A0 ms.length c0))
      have HM6 := Lib.hid (msg_far6 hmsg GR3.out (.int .i64 i) (.int .i64 f) (.int .i64 t) (.int .i64 cp) (.int .i64 s) (.slice A0 ms.length c0))
      have HO6 := Lib.hid (own2_far6 hq.2.2.2 GR3.out (.int .i64 i) (.int .i64 f) (.int .i64 t) (.int .i64 cp) (.int .i64 s) (.slice A0 ms.length c0))
      have HB6 := Lib.hid (q_below ((HB.out.trans (HB2.out.mono (by have := S1.out; omega))).trans (hb3.mono (Nat.le_of_lt LTP.out))) (show w.heap.size ≤ w.heap.size + 1 by omega) (.int .i64 i) (.int .i64 f) (.int .i64 t) (.int .i64 cp) (.int .i64 s) (.slice A0 ms.length c0))
      have HZ6 := Lib.hid (size6 w3 (w.heap.size + 1) (.int .i64 i) (.int .i64 f) (.int .i64 t) (.int .i64 cp) (.int .i64 s) (.slice A0 ms.length c0))
      have HQA := Lib.hid (show ms.length ≤ c0 ∧ (A0 = none → c0 = 0) from ⟨hq.2.1, hq.2.2.1⟩)
      clear rr0 rr1 rr2 rr3 rr4 rr5 ff0 ff1 ff2 ff3 ff4 ff5 hq hmsg HS3
      generalize ((((((w3.setCell ⟨w.heap.size + 1, 0, none⟩ (.int .i64 i)).setCell ⟨w.heap.size + 1, 1, none⟩ (.int .i64 f)).setCell ⟨w.heap.size + 1, 2, none⟩ (.int .i64 t)).setCell ⟨w.heap.size + 1, 3, none⟩ (.int .i64 cp)).setCell ⟨w.heap.size + 1, 4, none⟩ (.int .i64 s)).setCell ⟨w.heap.size + 1, 5, none⟩ (.slice A0 ms.length c0)) = w6 at *
      go_wp2
      refine ret_tmp_row_tmp rfl (w.heap.size + 1) 26 _ _ rfl HQ6.out Try.underlying26 rfl (by kernel_rfl) rfl ?_
      exact ⟨.slice A1 ml c1, A0, c0, rfl, by rw [HZ6.out]; exact HM6.out, ⟨HQA.out.1, HQA.out.2, by rw [HZ6.out]; exact HO6.out.mono (by have := S1.out; have := LT0.out; omega) (Nat.le_refl _)⟩, HB6.out⟩
end Go.Proofs.Ytlmecndldclnnaa.chan
