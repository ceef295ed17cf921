/- Channels: a message less, where there is one; no condition. -/
import Derived.Test.YtlmecndldclnnaaRows
import Derived.Test.YtlmecndldclnnaaChD
import Derived.RegionTactic
import Derived.BigRegion
namespace Go.Proofs.Ytlmecndldclnnaa.chan
open Go Go.ChangeShapes Go.WideShapes Go.ChangeAt Go.RowKit Go.Proofs.Ytlmecndldclnnaa.rows
set_option maxRecDepth 100000 in
set_option maxHeartbeats 4000000 in
theorem take_one (i f t cp s : Int) (b off c : Nat)  (m : Msg) (r : List Msg) (hn : (m :: r).length = 1) (hq : mayQ ⟨i, f, t, cp, s⟩ (m :: r) = true) (w : World) (h : Rms w (some ⟨b, off, none⟩) (m :: r)) :
    Calls Try.prog 17 #[.agg (qcells ⟨i, f, t, cp, s⟩ (some ⟨b, off, none⟩) 1 c)] w (TOut (takeR ⟨i, f, t, cp, s⟩ (m :: r)) w) := by
  have g0 := Lib.hid (blk_alloc (blk_new w (qcells ⟨i, f, t, cp, s⟩ (some ⟨b, off, none⟩) 1 c) 26) (.cells (qcells ⟨0, 0, 0, 0, 0⟩ none 0 0) 26))
  have g1 := Lib.hid (show ((w.alloc (.cells (qcells ⟨i, f, t, cp, s⟩ (some ⟨b, off, none⟩) 1 c) 26)).alloc (.cells (qcells ⟨0, 0, 0, 0, 0⟩ none 0 0) 26)).heap[w.heap.size + 1]? = some (.cells (qcells ⟨0, 0, 0, 0, 0⟩ none 0 0) 26 (0, 0)) by
    have := blk_new (w.alloc (.cells (qcells ⟨i, f, t, cp, s⟩ (some ⟨b, off, none⟩) 1 c) 26)) (qcells ⟨0, 0, 0, 0, 0⟩ none 0 0) 26; simpa using this)
  have hsz : ((w.alloc (.cells (qcells ⟨i, f, t, cp, s⟩ (some ⟨b, off, none⟩) 1 c) 26)).alloc (.cells (qcells ⟨0, 0, 0, 0, 0⟩ none 0 0) 26)).heap.size = w.heap.size + 2 := by simp
  have hX : Below w.heap.size w ((w.alloc (.cells (qcells ⟨i, f, t, cp, s⟩ (some ⟨b, off, none⟩) 1 c) 26)).alloc (.cells (qcells ⟨0, 0, 0, 0, 0⟩ none 0 0) 26)) := ((Below.refl _ _).alloc (Nat.le_refl _) _).alloc (by simp) _
  have hy := mayQ_yes hq
  have hmay := mayC_iff.1 hy.1
  obtain ⟨_, hlen, hsz2⟩ := hy
  simp only at hmay hlen hsz2
  have T := mayQueue ⟨i, f, t, cp, s⟩ (some ⟨b, off, none⟩) c (m :: r) (by omega) ((w.alloc (.cells (qcells ⟨i, f, t, cp, s⟩ (some ⟨b, off, none⟩) 1 c) 26)).alloc (.cells (qcells ⟨0, 0, 0, 0, 0⟩ none 0 0) 26)) (h.below hX)
  rw [hq, hn] at T
  have HV := Lib.hid (show takeR ⟨i, f, t, cp, s⟩ (m :: r) = (m, ⟨i, f, t, cp, s⟩, r, 0) by unfold takeR; rw [hq, if_pos rfl])
  have TC := fun (w : World) (h : Rms w (some ⟨b, off, none⟩) (m :: r)) => copied (some ⟨b, off, none⟩) c (m :: r) (by omega) (fun l hl => by have := hsz2 l hl; omega) w h
  rw [hn] at TC
  dsimp only [qcells] at T hsz hX ⊢
  have H := Lib.hid (h.below hX)
  have HT := Lib.hid T; have HTC := Lib.hid TC; have HN := Lib.hid hn
  have hn4 : 1 ≤ 4 := by omega
  clear T h hq TC hn hmay hlen hsz2
  go_enter Try.func17, Try.ntmps17
  go_wp2_with fail
  refine HT.out.mono ?_
  rintro e w1 ⟨rfl, b1⟩
  have h0 := blk_below g0.out b1 (by omega); have h1 := blk_below g1.out b1 (by omega)
  have a10 : w1.cell? ⟨w.heap.size, 0, none⟩ = some (.int .i64 i) := blk_cell h0 0
  have a11 : w1.cell? ⟨w.heap.size, 1, none⟩ = some (.int .i64 f) := blk_cell h0 1
  have a12 : w1.cell? ⟨w.heap.size, 2, none⟩ = some (.int .i64 t) := blk_cell h0 2
  have a13 : w1.cell? ⟨w.heap.size, 3, none⟩ = some (.int .i64 cp) := blk_cell h0 3
  have a14 : w1.cell? ⟨w.heap.size, 4, none⟩ = some (.int .i64 s) := blk_cell h0 4
  have a15 : w1.cell? ⟨w.heap.size, 5, none⟩ = some (.slice (some ⟨b, off, none⟩) 1 c) := blk_cell h0 5
  have q10 : w1.cell? ⟨w.heap.size + 1, 0, none⟩ = some (.int .i64 0) := blk_cell h1 0
  have q11 : w1.cell? ⟨w.heap.size + 1, 1, none⟩ = some (.int .i64 0) := blk_cell h1 1
  have q12 : w1.cell? ⟨w.heap.size + 1, 2, none⟩ = some (.int .i64 0) := blk_cell h1 2
  have q13 : w1.cell? ⟨w.heap.size + 1, 3, none⟩ = some (.int .i64 0) := blk_cell h1 3
  have q14 : w1.cell? ⟨w.heap.size + 1, 4, none⟩ = some (.int .i64 0) := blk_cell h1 4
  have q15 : w1.cell? ⟨w.heap.size + 1, 5, none⟩ = some (.slice none 0 0) := blk_cell h1 5
  have f10 := blk_frozen h1 0
  have f11 := blk_frozen h1 1
  have f12 := blk_frozen h1 2
  have f13 := blk_frozen h1 3
  have f14 := blk_frozen h1 4
  have f15 := blk_frozen h1 5
  have K0 := Lib.hid h0; have K1 := Lib.hid h1
  have H1 := Lib.hid (H.out.below b1)
  have z1 : w.heap.size + 2 ≤ w1.heap.size := by have := b1.size; omega
  have B1 := Lib.hid (hX.trans (b1.mono (by omega))); clear b1 h0 h1
  go_wp2_with fail
  refine (HTC.out _ H1.out).mono ?_
  rintro e w2 ⟨v2, rfl, hg2, b2⟩
  clear a10 a11 a12 a13 a14 a15 q10 q11 q12 q13 q14 q15 f10 f11 f12 f13 f14 f15
  have z2 := b2.size
  have N0 := blk_below K0.out b2 (by omega); have N1 := blk_below K1.out b2 (by omega)
  have B2 := Lib.hid (B1.out.trans (b2.mono (by omega)))
  obtain ⟨A2, c2, rfl, hc2, _, hA2, o2⟩ := hg2.form
  obtain ⟨g, rfl⟩ : ∃ g, A2 = some ⟨g, 0, none⟩ := hA2.elim id (fun e => by cases e)
  obtain ⟨vs, ho, hvl, hms⟩ := hg2.own
  obtain ⟨u0, hu0, hm0⟩ := hms 0 m rfl
  have cg : w2.cell? ⟨g, 0, none⟩ = some u0 := by have := ho.cellAt 0 (by rw [HN.out]; omega); rw [this, hu0]
  have hgne0 : w.heap.size ≠ g := fun e => own_ne ho N0 (by decide) (by simp [Value.ownBlock, e])
  have hgne1 : w.heap.size + 1 ≠ g := fun e => own_ne ho N1 (by decide) (by simp [Value.ownBlock, e])
  have hgne0' : g ≠ w.heap.size := fun e => hgne0 e.symm
  have hgne1' : g ≠ w.heap.size + 1 := fun e => hgne1 e.symm
  have a20 : w2.cell? ⟨w.heap.size, 0, none⟩ = some (.int .i64 i) := blk_cell N0 0
  have a21 : w2.cell? ⟨w.heap.size, 1, none⟩ = some (.int .i64 f) := blk_cell N0 1
  have a22 : w2.cell? ⟨w.heap.size, 2, none⟩ = some (.int .i64 t) := blk_cell N0 2
  have a23 : w2.cell? ⟨w.heap.size, 3, none⟩ = some (.int .i64 cp) := blk_cell N0 3
  have a24 : w2.cell? ⟨w.heap.size, 4, none⟩ = some (.int .i64 s) := blk_cell N0 4
  have a25 : w2.cell? ⟨w.heap.size, 5, none⟩ = some (.slice (some ⟨b, off, none⟩) 1 c) := blk_cell N0 5
  have q20 : w2.cell? ⟨w.heap.size + 1, 0, none⟩ = some (.int .i64 0) := blk_cell N1 0
  have q21 : w2.cell? ⟨w.heap.size + 1, 1, none⟩ = some (.int .i64 0) := blk_cell N1 1
  have q22 : w2.cell? ⟨w.heap.size + 1, 2, none⟩ = some (.int .i64 0) := blk_cell N1 2
  have q23 : w2.cell? ⟨w.heap.size + 1, 3, none⟩ = some (.int .i64 0) := blk_cell N1 3
  have q24 : w2.cell? ⟨w.heap.size + 1, 4, none⟩ = some (.int .i64 0) := blk_cell N1 4
  have q25 : w2.cell? ⟨w.heap.size + 1, 5, none⟩ = some (.slice none 0 0) := blk_cell N1 5
  have f20 := blk_frozen N1 0
  have f21 := blk_frozen N1 1
  have f22 := blk_frozen N1 2
  have f23 := blk_frozen N1 3
  have f24 := blk_frozen N1 4
  have f25 := blk_frozen N1 5
  have fb5 := blk_frozen N0 5
  have P0 := Lib.hid N0; have P1 := Lib.hid N1; have O2 := Lib.hid o2; have M0 := Lib.hid hm0
  have hn2 : (m :: r).length = 1 := HN.out
  rw [hn2] at hc2 ⊢
  have e7 : (1 : Int) ≤ (c2 : Int) := by omega
  clear hn2 hg2 b2 ho hvl hms hu0 hm0 N0 N1 o2 hA2
  obtain ⟨Au, cu, rfl, _, _, _, _⟩ := M0.out
  go_wp2_with fail
  have p0 := blk_eq (blk_set P0.out 5 (.slice (some ⟨g, 0, none⟩) 0 0)) (show _ = (#[.int .i64 i, .int .i64 f, .int .i64 t, .int .i64 cp, .int .i64 s, .slice (some ⟨g, 0, none⟩) 0 0] : Array Value) from rfl)
  have p1 := blk_far P1.out (p := ⟨w.heap.size, 5, none⟩) (show w.heap.size + 1 ≠ w.heap.size by omega) (.slice (some ⟨g, 0, none⟩) 0 0)
  have cg3 := (cell_set_ne (w := w2) (k := 5) (j := 0) (u := .slice (some ⟨g, 0, none⟩) 0 0) hgne0').trans cg
  have mm3 := msg_far (k := 5) M0.out P0.out (by decide) (.slice (some ⟨g, 0, none⟩) 0 0)
  have oo3 := own2_far (k := 5) O2.out P0.out (by decide) (by decide) (.slice (some ⟨g, 0, none⟩) 0 0)
  have bb3 := B2.out.setCell (p := ⟨w.heap.size, 5, none⟩) (Nat.le_refl _) (.slice (some ⟨g, 0, none⟩) 0 0)
  have zz3 : (w2.setCell ⟨w.heap.size, 5, none⟩ (.slice (some ⟨g, 0, none⟩) 0 0)).heap.size = w2.heap.size := by simp
  clear a20 a21 a22 a23 a24 a25 q20 q21 q22 q23 q24 q25 f20 f21 f22 f23 f24 f25
  generalize w2.setCell ⟨w.heap.size, 5, none⟩ (.slice (some ⟨g, 0, none⟩) 0 0) = w3 at *
  have a30 : w3.cell? ⟨w.heap.size, 0, none⟩ = some (.int .i64 i) := blk_cell p0 0
  have a31 : w3.cell? ⟨w.heap.size, 1, none⟩ = some (.int .i64 f) := blk_cell p0 1
  have a32 : w3.cell? ⟨w.heap.size, 2, none⟩ = some (.int .i64 t) := blk_cell p0 2
  have a33 : w3.cell? ⟨w.heap.size, 3, none⟩ = some (.int .i64 cp) := blk_cell p0 3
  have a34 : w3.cell? ⟨w.heap.size, 4, none⟩ = some (.int .i64 s) := blk_cell p0 4
  have a35 : w3.cell? ⟨w.heap.size, 5, none⟩ = some (.slice (some ⟨g, 0, none⟩) 0 0) := blk_cell p0 5
  have q30 : w3.cell? ⟨w.heap.size + 1, 0, none⟩ = some (.int .i64 0) := blk_cell p1 0
  have q31 : w3.cell? ⟨w.heap.size + 1, 1, none⟩ = some (.int .i64 0) := blk_cell p1 1
  have q32 : w3.cell? ⟨w.heap.size + 1, 2, none⟩ = some (.int .i64 0) := blk_cell p1 2
  have q33 : w3.cell? ⟨w.heap.size + 1, 3, none⟩ = some (.int .i64 0) := blk_cell p1 3
  have q34 : w3.cell? ⟨w.heap.size + 1, 4, none⟩ = some (.int .i64 0) := blk_cell p1 4
  have q35 : w3.cell? ⟨w.heap.size + 1, 5, none⟩ = some (.slice none 0 0) := blk_cell p1 5
  have f30 := blk_frozen p1 0
  have f31 := blk_frozen p1 1
  have f32 := blk_frozen p1 2
  have f33 := blk_frozen p1 3
  have f34 := blk_frozen p1 4
  have f35 := blk_frozen p1 5
  have P03 := Lib.hid p0; have P13 := Lib.hid p1; have MM3 := Lib.hid mm3; have OO3 := Lib.hid oo3; have BB3 := Lib.hid bb3
  clear p0 p1 mm3 oo3 bb3 cg fb5
  go_big_region
  go_wp2
  refine ret_tmp_row_tmp rfl (w.heap.size + 1) 26 _ _ rfl (blk_drew (q_set P13.out rfl _ _ _ _ _ _)) Try.underlying26 rfl (by kernel_rfl) rfl ?_
  have hmm := msg_drew (msg_far6 MM3.out P13.out (.int .i64 i) (.int .i64 f) (.int .i64 t) (.int .i64 cp) (.int .i64 s) (.slice (some ⟨g, 0, none⟩) 0 0))
  have hbb := (q_below (g := w.heap.size + 1) BB3.out (by omega) (.int .i64 i) (.int .i64 f) (.int .i64 t) (.int .i64 cp) (.int .i64 s) (.slice (some ⟨g, 0, none⟩) 0 0)).drew
  rw [HV.out]
  have hr : r = [] := List.eq_nil_of_length_eq_zero (by have := HN.out; simpa using this)
  subst hr
  exact ⟨_, some ⟨g, 0, none⟩, 0, rfl, hmm.mono (by omega) (by show _ ≤ (World.drew _).heap.size; rw [size_drew', size6]; omega), ⟨Nat.le_refl _, (fun h => by cases h), Own2.nil⟩, hbb⟩
set_option maxRecDepth 100000 in
set_option maxHeartbeats 4000000 in
theorem take_more (i f t cp s : Int) (b off c : Nat) (k : Nat) (m : Msg) (r : List Msg) (hn : (m :: r).length = (k + 2)) (hq : mayQ ⟨i, f, t, cp, s⟩ (m :: r) = true) (w : World) (h : Rms w (some ⟨b, off, none⟩) (m :: r)) :
    Calls Try.prog 17 #[.agg (qcells ⟨i, f, t, cp, s⟩ (some ⟨b, off, none⟩) (k + 2) c)] w (TOut (takeR ⟨i, f, t, cp, s⟩ (m :: r)) w) := by
  have g0 := Lib.hid (blk_alloc (blk_new w (qcells ⟨i, f, t, cp, s⟩ (some ⟨b, off, none⟩) (k + 2) c) 26) (.cells (qcells ⟨0, 0, 0, 0, 0⟩ none 0 0) 26))
  have g1 := Lib.hid (show ((w.alloc (.cells (qcells ⟨i, f, t, cp, s⟩ (some ⟨b, off, none⟩) (k + 2) c) 26)).alloc (.cells (qcells ⟨0, 0, 0, 0, 0⟩ none 0 0) 26)).heap[w.heap.size + 1]? = some (.cells (qcells ⟨0, 0, 0, 0, 0⟩ none 0 0) 26 (0, 0)) by
    have := blk_new (w.alloc (.cells (qcells ⟨i, f, t, cp, s⟩ (some ⟨b, off, none⟩) (k + 2) c) 26)) (qcells ⟨0, 0, 0, 0, 0⟩ none 0 0) 26; simpa using this)
  have hsz : ((w.alloc (.cells (qcells ⟨i, f, t, cp, s⟩ (some ⟨b, off, none⟩) (k + 2) c) 26)).alloc (.cells (qcells ⟨0, 0, 0, 0, 0⟩ none 0 0) 26)).heap.size = w.heap.size + 2 := by simp
  have hX : Below w.heap.size w ((w.alloc (.cells (qcells ⟨i, f, t, cp, s⟩ (some ⟨b, off, none⟩) (k + 2) c) 26)).alloc (.cells (qcells ⟨0, 0, 0, 0, 0⟩ none 0 0) 26)) := ((Below.refl _ _).alloc (Nat.le_refl _) _).alloc (by simp) _
  have hy := mayQ_yes hq
  have hmay := mayC_iff.1 hy.1
  obtain ⟨_, hlen, hsz2⟩ := hy
  simp only at hmay hlen hsz2
  have T := mayQueue ⟨i, f, t, cp, s⟩ (some ⟨b, off, none⟩) c (m :: r) (by omega) ((w.alloc (.cells (qcells ⟨i, f, t, cp, s⟩ (some ⟨b, off, none⟩) (k + 2) c) 26)).alloc (.cells (qcells ⟨0, 0, 0, 0, 0⟩ none 0 0) 26)) (h.below hX)
  rw [hq, hn] at T
  have HV := Lib.hid (show takeR ⟨i, f, t, cp, s⟩ (m :: r) = (m, ⟨i, f, t, cp, s⟩, r, 0) by unfold takeR; rw [hq, if_pos rfl])
  have TC := fun (w : World) (h : Rms w (some ⟨b, off, none⟩) (m :: r)) => copied (some ⟨b, off, none⟩) c (m :: r) (by omega) (fun l hl => by have := hsz2 l hl; omega) w h
  rw [hn] at TC
  dsimp only [qcells] at T hsz hX ⊢
  have H := Lib.hid (h.below hX)
  have HT := Lib.hid T; have HTC := Lib.hid TC; have HN := Lib.hid hn
  have hn4 : (k + 2) ≤ 4 := by omega
  clear T h hq TC hn hmay hlen hsz2
  go_enter Try.func17, Try.ntmps17
  go_wp2_with fail
  refine HT.out.mono ?_
  rintro e w1 ⟨rfl, b1⟩
  have h0 := blk_below g0.out b1 (by omega); have h1 := blk_below g1.out b1 (by omega)
  have a10 : w1.cell? ⟨w.heap.size, 0, none⟩ = some (.int .i64 i) := blk_cell h0 0
  have a11 : w1.cell? ⟨w.heap.size, 1, none⟩ = some (.int .i64 f) := blk_cell h0 1
  have a12 : w1.cell? ⟨w.heap.size, 2, none⟩ = some (.int .i64 t) := blk_cell h0 2
  have a13 : w1.cell? ⟨w.heap.size, 3, none⟩ = some (.int .i64 cp) := blk_cell h0 3
  have a14 : w1.cell? ⟨w.heap.size, 4, none⟩ = some (.int .i64 s) := blk_cell h0 4
  have a15 : w1.cell? ⟨w.heap.size, 5, none⟩ = some (.slice (some ⟨b, off, none⟩) (k + 2) c) := blk_cell h0 5
  have q10 : w1.cell? ⟨w.heap.size + 1, 0, none⟩ = some (.int .i64 0) := blk_cell h1 0
  have q11 : w1.cell? ⟨w.heap.size + 1, 1, none⟩ = some (.int .i64 0) := blk_cell h1 1
  have q12 : w1.cell? ⟨w.heap.size + 1, 2, none⟩ = some (.int .i64 0) := blk_cell h1 2
  have q13 : w1.cell? ⟨w.heap.size + 1, 3, none⟩ = some (.int .i64 0) := blk_cell h1 3
  have q14 : w1.cell? ⟨w.heap.size + 1, 4, none⟩ = some (.int .i64 0) := blk_cell h1 4
  have q15 : w1.cell? ⟨w.heap.size + 1, 5, none⟩ = some (.slice none 0 0) := blk_cell h1 5
  have f10 := blk_frozen h1 0
  have f11 := blk_frozen h1 1
  have f12 := blk_frozen h1 2
  have f13 := blk_frozen h1 3
  have f14 := blk_frozen h1 4
  have f15 := blk_frozen h1 5
  have K0 := Lib.hid h0; have K1 := Lib.hid h1
  have H1 := Lib.hid (H.out.below b1)
  have z1 : w.heap.size + 2 ≤ w1.heap.size := by have := b1.size; omega
  have B1 := Lib.hid (hX.trans (b1.mono (by omega))); clear b1 h0 h1
  go_wp2_with fail
  refine (HTC.out _ H1.out).mono ?_
  rintro e w2 ⟨v2, rfl, hg2, b2⟩
  clear a10 a11 a12 a13 a14 a15 q10 q11 q12 q13 q14 q15 f10 f11 f12 f13 f14 f15
  have z2 := b2.size
  have N0 := blk_below K0.out b2 (by omega); have N1 := blk_below K1.out b2 (by omega)
  have B2 := Lib.hid (B1.out.trans (b2.mono (by omega)))
  obtain ⟨A2, c2, rfl, hc2, _, hA2, o2⟩ := hg2.form
  obtain ⟨g, rfl⟩ : ∃ g, A2 = some ⟨g, 0, none⟩ := hA2.elim id (fun e => by cases e)
  obtain ⟨vs, ho, hvl, hms⟩ := hg2.own
  obtain ⟨u0, hu0, hm0⟩ := hms 0 m rfl
  have cg : w2.cell? ⟨g, 0, none⟩ = some u0 := by have := ho.cellAt 0 (by rw [HN.out]; omega); rw [this, hu0]
  have hgne0 : w.heap.size ≠ g := fun e => own_ne ho N0 (by decide) (by simp [Value.ownBlock, e])
  have hgne1 : w.heap.size + 1 ≠ g := fun e => own_ne ho N1 (by decide) (by simp [Value.ownBlock, e])
  have hgne0' : g ≠ w.heap.size := fun e => hgne0 e.symm
  have hgne1' : g ≠ w.heap.size + 1 := fun e => hgne1 e.symm
  have a20 : w2.cell? ⟨w.heap.size, 0, none⟩ = some (.int .i64 i) := blk_cell N0 0
  have a21 : w2.cell? ⟨w.heap.size, 1, none⟩ = some (.int .i64 f) := blk_cell N0 1
  have a22 : w2.cell? ⟨w.heap.size, 2, none⟩ = some (.int .i64 t) := blk_cell N0 2
  have a23 : w2.cell? ⟨w.heap.size, 3, none⟩ = some (.int .i64 cp) := blk_cell N0 3
  have a24 : w2.cell? ⟨w.heap.size, 4, none⟩ = some (.int .i64 s) := blk_cell N0 4
  have a25 : w2.cell? ⟨w.heap.size, 5, none⟩ = some (.slice (some ⟨b, off, none⟩) (k + 2) c) := blk_cell N0 5
  have q20 : w2.cell? ⟨w.heap.size + 1, 0, none⟩ = some (.int .i64 0) := blk_cell N1 0
  have q21 : w2.cell? ⟨w.heap.size + 1, 1, none⟩ = some (.int .i64 0) := blk_cell N1 1
  have q22 : w2.cell? ⟨w.heap.size + 1, 2, none⟩ = some (.int .i64 0) := blk_cell N1 2
  have q23 : w2.cell? ⟨w.heap.size + 1, 3, none⟩ = some (.int .i64 0) := blk_cell N1 3
  have q24 : w2.cell? ⟨w.heap.size + 1, 4, none⟩ = some (.int .i64 0) := blk_cell N1 4
  have q25 : w2.cell? ⟨w.heap.size + 1, 5, none⟩ = some (.slice none 0 0) := blk_cell N1 5
  have f20 := blk_frozen N1 0
  have f21 := blk_frozen N1 1
  have f22 := blk_frozen N1 2
  have f23 := blk_frozen N1 3
  have f24 := blk_frozen N1 4
  have f25 := blk_frozen N1 5
  have fb5 := blk_frozen N0 5
  have P0 := Lib.hid N0; have P1 := Lib.hid N1; have O2 := Lib.hid o2; have M0 := Lib.hid hm0
  have hn2 : (m :: r).length = (k + 2) := HN.out
  rw [hn2] at hc2 ⊢
  have e7 : ((k + 2) : Int) ≤ (c2 : Int) := by omega
  clear hn2 hg2 b2 ho hvl hms hu0 hm0 N0 N1 o2 hA2
  obtain ⟨Au, cu, rfl, _, _, _, _⟩ := M0.out
  go_wp2_with fail
  have p0 := blk_eq (blk_set P0.out 5 (.slice (some ⟨g, 1, none⟩) (k + 1) (k + 1))) (show _ = (#[.int .i64 i, .int .i64 f, .int .i64 t, .int .i64 cp, .int .i64 s, .slice (some ⟨g, 1, none⟩) (k + 1) (k + 1)] : Array Value) from rfl)
  have p1 := blk_far P1.out (p := ⟨w.heap.size, 5, none⟩) (show w.heap.size + 1 ≠ w.heap.size by omega) (.slice (some ⟨g, 1, none⟩) (k + 1) (k + 1))
  have cg3 := (cell_set_ne (w := w2) (k := 5) (j := 0) (u := .slice (some ⟨g, 1, none⟩) (k + 1) (k + 1)) hgne0').trans cg
  have mm3 := msg_far (k := 5) M0.out P0.out (by decide) (.slice (some ⟨g, 1, none⟩) (k + 1) (k + 1))
  have oo3 := own2_far (k := 5) O2.out P0.out (by decide) (by decide) (.slice (some ⟨g, 1, none⟩) (k + 1) (k + 1))
  have bb3 := B2.out.setCell (p := ⟨w.heap.size, 5, none⟩) (Nat.le_refl _) (.slice (some ⟨g, 1, none⟩) (k + 1) (k + 1))
  have zz3 : (w2.setCell ⟨w.heap.size, 5, none⟩ (.slice (some ⟨g, 1, none⟩) (k + 1) (k + 1))).heap.size = w2.heap.size := by simp
  clear a20 a21 a22 a23 a24 a25 q20 q21 q22 q23 q24 q25 f20 f21 f22 f23 f24 f25
  generalize w2.setCell ⟨w.heap.size, 5, none⟩ (.slice (some ⟨g, 1, none⟩) (k + 1) (k + 1)) = w3 at *
  have a30 : w3.cell? ⟨w.heap.size, 0, none⟩ = some (.int .i64 i) := blk_cell p0 0
  have a31 : w3.cell? ⟨w.heap.size, 1, none⟩ = some (.int .i64 f) := blk_cell p0 1
  have a32 : w3.cell? ⟨w.heap.size, 2, none⟩ = some (.int .i64 t) := blk_cell p0 2
  have a33 : w3.cell? ⟨w.heap.size, 3, none⟩ = some (.int .i64 cp) := blk_cell p0 3
  have a34 : w3.cell? ⟨w.heap.size, 4, none⟩ = some (.int .i64 s) := blk_cell p0 4
  have a35 : w3.cell? ⟨w.heap.size, 5, none⟩ = some (.slice (some ⟨g, 1, none⟩) (k + 1) (k + 1)) := blk_cell p0 5
  have q30 : w3.cell? ⟨w.heap.size + 1, 0, none⟩ = some (.int .i64 0) := blk_cell p1 0
  have q31 : w3.cell? ⟨w.heap.size + 1, 1, none⟩ = some (.int .i64 0) := blk_cell p1 1
  have q32 : w3.cell? ⟨w.heap.size + 1, 2, none⟩ = some (.int .i64 0) := blk_cell p1 2
  have q33 : w3.cell? ⟨w.heap.size + 1, 3, none⟩ = some (.int .i64 0) := blk_cell p1 3
  have q34 : w3.cell? ⟨w.heap.size + 1, 4, none⟩ = some (.int .i64 0) := blk_cell p1 4
  have q35 : w3.cell? ⟨w.heap.size + 1, 5, none⟩ = some (.slice none 0 0) := blk_cell p1 5
  have f30 := blk_frozen p1 0
  have f31 := blk_frozen p1 1
  have f32 := blk_frozen p1 2
  have f33 := blk_frozen p1 3
  have f34 := blk_frozen p1 4
  have f35 := blk_frozen p1 5
  have P03 := Lib.hid p0; have P13 := Lib.hid p1; have MM3 := Lib.hid mm3; have OO3 := Lib.hid oo3; have BB3 := Lib.hid bb3
  clear p0 p1 mm3 oo3 bb3 cg fb5
  go_big_region
  go_wp2
  refine ret_tmp_row_tmp rfl (w.heap.size + 1) 26 _ _ rfl (blk_drew (q_set P13.out rfl _ _ _ _ _ _)) Try.underlying26 rfl (by kernel_rfl) rfl ?_
  have hmm := msg_drew (msg_far6 MM3.out P13.out (.int .i64 i) (.int .i64 f) (.int .i64 t) (.int .i64 cp) (.int .i64 s) (.slice (some ⟨g, 1, none⟩) (k + 1) (k + 1)))
  have hbb := (q_below (g := w.heap.size + 1) BB3.out (by omega) (.int .i64 i) (.int .i64 f) (.int .i64 t) (.int .i64 cp) (.int .i64 s) (.slice (some ⟨g, 1, none⟩) (k + 1) (k + 1))).drew
  rw [HV.out]
  have hoo := own2_drew (own2_far6 OO3.out.drop1 P13.out (.int .i64 i) (.int .i64 f) (.int .i64 t) (.int .i64 cp) (.int .i64 s) (.slice (some ⟨g, 1, none⟩) (k + 1) (k + 1)))
  have hrl : r.length = k + 1 := by have := HN.out; simp at this; omega
  exact ⟨_, some ⟨g, 1, none⟩, k + 1, by rw [show ((m, (⟨i, f, t, cp, s⟩ : Ch), r, (0 : Int)) : Msg × Ch × List Msg × Int).2.2.1.length = k + 1 from hrl]; rfl, hmm.mono (by omega) (by show _ ≤ (World.drew _).heap.size; rw [size_drew', size6]; omega), ⟨by rw [show ((m, (⟨i, f, t, cp, s⟩ : Ch), r, (0 : Int)) : Msg × Ch × List Msg × Int).2.2.1.length = k + 1 from hrl]; exact Nat.le_refl _, (fun h => by cases h), hoo.mono (by omega) (by show _ ≤ (World.drew _).heap.size; rw [size_drew', size6]; omega)⟩, hbb⟩
theorem take (x : Ch) (A : Option Addr) (c : Nat) (ls : List Msg) (h63 : ls.length ≤ 1000000) (w : World) (h : Rms w A ls) :
    Calls Try.prog 17 #[.agg (qcells x A ls.length c)] w (TOut (takeR x ls) w) := by
  obtain ⟨i, f, t, cp, s⟩ := x
  cases hq : mayQ ⟨i, f, t, cp, s⟩ ls with
  | false => exact take_arg i f t cp s A ls.length c ls rfl h63 hq w h
  | true =>
    cases ls with
    | nil => exact take_none i f t cp s A 0 c [] rfl h63 hq rfl w h
    | cons m r =>
      obtain ⟨b, off, rfl⟩ := h.addr (by simp)
      cases r with
      | nil => exact take_one i f t cp s b off c m [] rfl hq w h
      | cons m2 r => exact take_more i f t cp s b off c r.length m (m2 :: r) rfl hq w h
end Go.Proofs.Ytlmecndldclnnaa.chan
