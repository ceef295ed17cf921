/- Channels: the reference's Put, where a message is put; no condition. -/
import Derived.Test.YtlmecndldclnnaaRows
import Derived.Test.YtlmecndldclnnaaChM
import Derived.Deep.RegionLaw
import Derived.Lib.SmallJoins
namespace Go.Proofs.Ytlmecndldclnnaa.chan
open Go Go.ChangeShapes Go.WideShapes Go.ChangeAt Go.RowKit Go.Proofs.Ytlmecndldclnnaa.rows
set_option maxRecDepth 100000 in
set_option maxHeartbeats 2000000 in
theorem rput_ok (i f t cp s : Int) (A : Option Addr) (n c : Nat) (ls : List Msg) (hn : ls.length = n) (hq : mayQ ⟨i, f, t, cp, s⟩ ls = true) (m : Msg) (Am : Option Addr) (r cm : Nat) (hr : m.length = r) (hmc : r ≤ cm) (hl : (r : Int) ≤ s) (w : World) (h : Rms w A ls) (hm : Rd w Am (bcs m)) :
    Calls Try.prog 12 #[.agg #[.int .i64 i, .int .i64 f, .int .i64 t, .int .i64 cp, .int .i64 s, .slice (A) n c], .slice Am r cm] w fun e w' => ∃ A c, e = .returned (.tuple #[.agg #[.int .i64 i, .int .i64 f, .int .i64 t, .int .i64 cp, .int .i64 s, .slice (A) ((rrows ⟨i, f, t, cp, s⟩ ls n).length + 1) c], .int .i64 0]) ∧ QAt w.heap.size w'.heap.size w' A c (rrows ⟨i, f, t, cp, s⟩ ls n ++ [m]) ∧ Below w.heap.size w w' := by
  have _ := hmc
  obtain ⟨i0, hi, hz0, hz1, hz2⟩ := info_parts info_row
  obtain ⟨i1, gi, gz0, gz1, gz2⟩ := info_parts info_byte
  have hy := mayQ_yes hq
  have hmay := mayC_iff.1 hy.1
  obtain ⟨_, hlen, hsz2⟩ := hy
  simp only at hmay hlen hsz2
  have g0 := Lib.hid (blk_alloc (blk_new w #[.int .i64 i, .int .i64 f, .int .i64 t, .int .i64 cp, .int .i64 s, .slice (A) n c] 26) (.cells #[.int .i64 0, .int .i64 0, .int .i64 0, .int .i64 0, .int .i64 0, .slice (none) 0 0] 26))
  have g1 := Lib.hid (show ((w.alloc (.cells #[.int .i64 i, .int .i64 f, .int .i64 t, .int .i64 cp, .int .i64 s, .slice (A) n c] 26)).alloc (.cells #[.int .i64 0, .int .i64 0, .int .i64 0, .int .i64 0, .int .i64 0, .slice (none) 0 0] 26)).heap[w.heap.size + 1]? = some (.cells #[.int .i64 0, .int .i64 0, .int .i64 0, .int .i64 0, .int .i64 0, .slice (none) 0 0] 26 (0, 0)) by have := blk_new (w.alloc (.cells #[.int .i64 i, .int .i64 f, .int .i64 t, .int .i64 cp, .int .i64 s, .slice (A) n c] 26)) #[.int .i64 0, .int .i64 0, .int .i64 0, .int .i64 0, .int .i64 0, .slice (none) 0 0] 26; simpa using this)
  have hX := Lib.hid (((Below.refl w.heap.size w).alloc (Nat.le_refl _) (.cells #[.int .i64 i, .int .i64 f, .int .i64 t, .int .i64 cp, .int .i64 s, .slice (A) n c] 26)).alloc (by simp) (.cells #[.int .i64 0, .int .i64 0, .int .i64 0, .int .i64 0, .int .i64 0, .slice (none) 0 0] 26))
  have T := rmayQueue ⟨i, f, t, cp, s⟩ A c ls (by omega) ((w.alloc (.cells #[.int .i64 i, .int .i64 f, .int .i64 t, .int .i64 cp, .int .i64 s, .slice (A) n c] 26)).alloc (.cells #[.int .i64 0, .int .i64 0, .int .i64 0, .int .i64 0, .int .i64 0, .slice (none) 0 0] 26)) (h.below hX.out)
  rw [hq, hn] at T
  rw [hn] at hlen
  dsimp only [qcells] at T
  have HT := Lib.hid T; have HN := Lib.hid hn; have HR := Lib.hid hr
  have HW := Lib.hid h; have H := Lib.hid (h.below hX.out); have HM0 := Lib.hid hm
  have HS2 := Lib.hid hsz2; have HMAY := Lib.hid hmay
  have hn4 : n ≤ 4 := by omega
  clear T h hm hq hn hr hsz2 hmay
  go_enter Try.func12, Try.ntmps12
  go_wp2_with fail
  refine HT.out.mono ?_
  rintro e w1 ⟨rfl, b1⟩
  have G0 := Lib.hid (blk_alloc (blk_below g0.out b1 (blk_lt g0.out)) (.cells #[.int .i64 i, .int .i64 f, .int .i64 t, .int .i64 cp, .int .i64 s, .slice (none) 0 0] 26))
  have G1 := Lib.hid (blk_alloc (blk_below g1.out b1 (blk_lt g1.out)) (.cells #[.int .i64 i, .int .i64 f, .int .i64 t, .int .i64 cp, .int .i64 s, .slice (none) 0 0] 26))
  have G2 := Lib.hid (blk_new w1 #[.int .i64 i, .int .i64 f, .int .i64 t, .int .i64 cp, .int .i64 s, .slice (none) 0 0] 26)
  have HB := Lib.hid ((hX.out.trans (b1.mono hX.out.size)).alloc (Nat.le_trans hX.out.size b1.size) (.cells #[.int .i64 i, .int .i64 f, .int .i64 t, .int .i64 cp, .int .i64 s, .slice (none) 0 0] 26))
  have H1 := Lib.hid ((H.out.below b1).below ((Below.refl _ _).alloc (Nat.le_refl _) (.cells #[.int .i64 i, .int .i64 f, .int .i64 t, .int .i64 cp, .int .i64 s, .slice (none) 0 0] 26)))
  have s1 : w.heap.size + 2 ≤ w1.heap.size := by have := b1.size; simpa using this
  have Z2 := Lib.hid (show (w1.alloc (.cells #[.int .i64 i, .int .i64 f, .int .i64 t, .int .i64 cp, .int .i64 s, .slice (none) 0 0] 26)).heap.size = w1.heap.size + 1 by simp)
  have a0 := blk_cell (blk_below g0.out b1 (blk_lt g0.out)) 0
  have a1 := blk_cell (blk_below g0.out b1 (blk_lt g0.out)) 1
  have a2 := blk_cell (blk_below g0.out b1 (blk_lt g0.out)) 2
  have a3 := blk_cell (blk_below g0.out b1 (blk_lt g0.out)) 3
  have a4 := blk_cell (blk_below g0.out b1 (blk_lt g0.out)) 4
  have a5 := blk_cell (blk_below g0.out b1 (blk_lt g0.out)) 5
  clear b1
  go_wp2_with fail
  clear a0 a1 a2 a3 a4 a5
  generalize w1.alloc (.cells #[.int .i64 i, .int .i64 f, .int .i64 t, .int .i64 cp, .int .i64 s, .slice (none) 0 0] 26) = w2 at *
  go_loopw [7] (fun iv wr => ∃ k : Nat, k ≤ n ∧ iv = .int .i64 k ∧ ∃ v, wr.heap[w1.heap.size]? = some (.cells #[.int .i64 i, .int .i64 f, .int .i64 t, .int .i64 cp, .int .i64 s, v] 26 (0, 0)) ∧ Grow w2.heap.size wr v (rrows ⟨i, f, t, cp, s⟩ ls k) ∧ Below w1.heap.size w2 wr) (fun iv _ => n - (intOf iv).toNat)
  case atStart => exact ⟨0, Nat.zero_le _, rfl, .slice none 0 0, G2.out, (by unfold rrows; split <;> exact Grow.nil _ _), Below.refl _ _⟩
  case round =>
    obtain ⟨k, hk, rfl, v, ho, hg, hb⟩ := hrel
    have gP := Lib.hid (blk_below G0.out hb (by omega))
    have a3 := blk_cell gP.out 3
    have a5 := blk_cell gP.out 5
    have hz := hb.size
    have HB2 := Lib.hid hb
    by_cases hkl : k < n
    · have hki : (k : Int) < (n : Int) := by omega
      have hk0 : (0 : Int) ≤ (k : Int) := by omega
      obtain ⟨b, off, rfl⟩ := H.out.addr (by rw [HN.out]; omega)
      obtain ⟨l, hl'⟩ : ∃ l, ls[k]? = some l := ⟨_, List.getElem?_eq_getElem (by rw [HN.out]; exact hkl)⟩
      obtain ⟨A', c', cl, hlc, hA', hrl⟩ := (HW.out.below (HB.out.trans (hb.mono (by omega)))).at hl'
      by_cases hd : 0 < k ∨ (n : Int) < cp
      · obtain ⟨A0, c0, rfl, hc0, hA0, _, _⟩ := hg.form
        have o5 := blk_cell ho 5
        have of5 := blk_frozen ho 5
        have hlen := bcs_length l
        have h1 := bcs_one l
        obtain ⟨xs, hxs⟩ : ∃ xs, bcs l = xs := ⟨_, rfl⟩
        obtain ⟨ml, hml⟩ : ∃ ml, l.length = ml := ⟨_, rfl⟩
        obtain ⟨nr, hnr⟩ : ∃ nr, (rrows ⟨i, f, t, cp, s⟩ ls k).length = nr := ⟨_, rfl⟩
        have hown : (wr.alloc (.cells #[] 5)).ownsRow wr.heap.size 5 1 (.slice (some ⟨wr.heap.size, 0, none⟩) 0 0) 0 [] := World.ownsRow_lit wr #[] 0 (Nat.le_refl _) (by decide) rfl
        have hr2 := hrl.alloc (.cells #[] 5)
        rw [hxs] at hr2 hlen h1
        rw [hml] at hlen cl
        rw [hnr] at o5
        have hnr4 : nr ≤ 4 := by
          rw [← hnr]; unfold rrows
          split <;> simp <;> omega
        have HLN := Lib.hid hlen; have HML := Lib.hid hml; have HNR := Lib.hid hnr; have HXS := Lib.hid hxs; have HG := Lib.hid hg; have HO := Lib.hid ho; have HRL := Lib.hid hr2; have HOW := Lib.hid hown
        have hml6 : ml ≤ 1000000 := by have := HS2.out l (List.mem_of_getElem? hl'); have := HMAY.out; omega
        have hvl0 : ∃ vs, wr.ownsRow w2.heap.size 27 1 (.slice A0 nr c0) nr vs ∧ vs.length = nr ∧ ∀ (j : Nat) (l : Msg), (rrows ⟨i, f, t, cp, s⟩ ls k)[j]? = some l → ∃ u, vs[j]? = some u ∧ MsgAt w2.heap.size wr.heap.size wr u l := by
          have h := HG.out.own
          rw [HNR.out] at h
          exact h
        obtain ⟨vs, hownl, hvl, hms⟩ := hvl0
        have HOWL := Lib.hid hownl; have HVL := Lib.hid hvl; have HMS := Lib.hid hms
        have HCL := Lib.hid cl; have HA5 := Lib.hid a5
        have hb2 : Below w2.heap.size wr wr := Below.refl _ _
        have lt0 : w1.heap.size < w2.heap.size := by rw [Z2.out]; omega
        have LT0 := Lib.hid lt0
        have ltr : b < wr.heap.size := World.block_lt_of_cell? wr _ cl
        have a5' : ∀ o, (wr.alloc o).cell? ⟨w.heap.size, 5, none⟩ = some (.slice (some ⟨b, off, none⟩) n c) := fun o => Lib.cell?_alloc_marked o a5
        have cl' : ∀ o, (wr.alloc o).cell? ⟨b, off + k, none⟩ = some (.slice A' ml c') := fun o => Lib.cell?_alloc_marked o cl
        have o5' : ∀ o, (wr.alloc o).cell? ⟨w1.heap.size, 5, none⟩ = some (.slice A0 nr c0) := fun o => Lib.cell?_alloc_marked o o5
        have LTR := Lib.hid (show w1.heap.size < wr.heap.size by omega)
        have HZ2 := Lib.hid (show w2.heap.size ≤ wr.heap.size from hz)
        have HNX := Lib.hid (rrows_next (x := ⟨i, f, t, cp, s⟩) hl' (by rw [HN.out]; exact hd))
        clear hlen hml hnr hxs hg ho hr2 hrl hown hl' hb hownl hvl hms hb2
        by_cases hk1 : 0 < k
        · have hd' : (0 : Int) < (k : Int) := by omega
          go_wp2_with fail
          go_region_law (first
            | (refine step_append_rd rfl (.tmp 42) (.tmp 47) 27 rfl wr.heap.size 5 i1 (.int .u8 0) 1 1 Try.underlying27 gi gz0 gz1 gz2 rfl (by decide) _ 0 [] rfl (HOW.out.drew) _ ml _ xs rfl (by rw [HLN.out]; omega) (HRL.out.drew) h1 (by unfold maxLen; omega) (by omega) (by simp) ?_; intro v1 w3 hown3 hg3; obtain ⟨A1, c1, rfl, hc1, hA1, hf1, hr1⟩ := own_form3 hown3; have hb3 := below_own (((Below.refl wr.heap.size wr).alloc (Nat.le_refl _) (.cells #[] 5)).drew) (HOW.out.drew) hg3 (by simp); have o5b := (hb3.cell (p := ⟨w1.heap.size, 5, none⟩) LTR.out).trans o5; have o5c : ∀ o, (w3.alloc o).cell? ⟨w1.heap.size, 5, none⟩ = some (.slice A0 nr c0) := fun o => Lib.cell?_alloc_marked o o5b; have HOL3 := Lib.hid (own_below HOWL.out hb3); rw [Nat.zero_add])
            | (refine step_append_rd rfl (.tmp 41) (.tmp 49) 24 rfl w2.heap.size 27 i0 (.slice none 0 0) 1 24 Try.underlying24 hi hz0 hz1 hz2 rfl (by decide) _ nr vs rfl (HOL3.out.alloc _) _ 1 _ [.slice A1 ml c1] rfl rfl (Rd.new _ _ _) (by intro u hu; simp at hu; subst hu; rfl) (by unfold maxLen; omega) (by omega) (by have h1 := HZ2.out; have h2 := hb3.size; simp; omega) ?_; intro v5 w5 hown5 hg5; obtain ⟨A5, c5, rfl, hc5, hA5, hf5, hr5⟩ := own_form3 hown5; have hb5 := below_own ((hb3.mono HZ2.out).alloc (Nat.le_trans HZ2.out hb3.size) _) (HOL3.out.alloc _) hg5 (by have h1 := HZ2.out; have h2 := hb3.size; simp; omega); have O5 := Lib.hid (blk_below HO.out hb5 LT0.out); have o5d := blk_cell O5.out 5; have of5d := blk_frozen O5.out 5))
          all_goals (go_wp2_with fail; go_roundw)
          all_goals first
            | (simp [intOf]; omega)
            | exact ⟨k + 1, by omega, by go_num, .slice A5 (nr + 1) c5, blk_set O5.out 5 _, by rw [HNX.out]; exact Grow.pushed HNR.out HML.out HXS.out HVL.out HMS.out hb3 HOL3.out (by omega) hA1 hf1 hr1 HZ2.out hg5 hown5 LT0.out _, (HB2.out.trans (hb5.mono (Nat.le_of_lt LT0.out))).setCell (p := ⟨w1.heap.size, 5, none⟩) (Nat.le_refl _) _⟩
        · have hd' : ¬ (0 : Int) < (k : Int) := by omega
          have hcap : (n : Int) < cp := by omega
          go_wp2_with fail
          go_region_law (first
            | (refine step_append_rd rfl (.tmp 42) (.tmp 47) 27 rfl wr.heap.size 5 i1 (.int .u8 0) 1 1 Try.underlying27 gi gz0 gz1 gz2 rfl (by decide) _ 0 [] rfl (HOW.out.drew) _ ml _ xs rfl (by rw [HLN.out]; omega) (HRL.out.drew) h1 (by unfold maxLen; omega) (by omega) (by simp) ?_; intro v1 w3 hown3 hg3; obtain ⟨A1, c1, rfl, hc1, hA1, hf1, hr1⟩ := own_form3 hown3; have hb3 := below_own (((Below.refl wr.heap.size wr).alloc (Nat.le_refl _) (.cells #[] 5)).drew) (HOW.out.drew) hg3 (by simp); have o5b := (hb3.cell (p := ⟨w1.heap.size, 5, none⟩) LTR.out).trans o5; have o5c : ∀ o, (w3.alloc o).cell? ⟨w1.heap.size, 5, none⟩ = some (.slice A0 nr c0) := fun o => Lib.cell?_alloc_marked o o5b; have HOL3 := Lib.hid (own_below HOWL.out hb3); rw [Nat.zero_add])
            | (refine step_append_rd rfl (.tmp 41) (.tmp 49) 24 rfl w2.heap.size 27 i0 (.slice none 0 0) 1 24 Try.underlying24 hi hz0 hz1 hz2 rfl (by decide) _ nr vs rfl (HOL3.out.alloc _) _ 1 _ [.slice A1 ml c1] rfl rfl (Rd.new _ _ _) (by intro u hu; simp at hu; subst hu; rfl) (by unfold maxLen; omega) (by omega) (by have h1 := HZ2.out; have h2 := hb3.size; simp; omega) ?_; intro v5 w5 hown5 hg5; obtain ⟨A5, c5, rfl, hc5, hA5, hf5, hr5⟩ := own_form3 hown5; have hb5 := below_own ((hb3.mono HZ2.out).alloc (Nat.le_trans HZ2.out hb3.size) _) (HOL3.out.alloc _) hg5 (by have h1 := HZ2.out; have h2 := hb3.size; simp; omega); have O5 := Lib.hid (blk_below HO.out hb5 LT0.out); have o5d := blk_cell O5.out 5; have of5d := blk_frozen O5.out 5))
          all_goals (go_wp2_with fail; go_roundw)
          all_goals first
            | (simp [intOf]; omega)
            | exact ⟨k + 1, by omega, by go_num, .slice A5 (nr + 1) c5, blk_set O5.out 5 _, by rw [HNX.out]; exact Grow.pushed HNR.out HML.out HXS.out HVL.out HMS.out hb3 HOL3.out (by omega) hA1 hf1 hr1 HZ2.out hg5 hown5 LT0.out _, (HB2.out.trans (hb5.mono (Nat.le_of_lt LT0.out))).setCell (p := ⟨w1.heap.size, 5, none⟩) (Nat.le_refl _) _⟩
      · have hd' : ¬ (0 : Int) < (k : Int) := by omega
        have hcap : ¬ (n : Int) < cp := by omega
        have HSK := Lib.hid (show rrows ⟨i, f, t, cp, s⟩ ls (k + 1) = rrows ⟨i, f, t, cp, s⟩ ls k by
          obtain rfl : k = 0 := by omega
          exact rrows_skip (by rw [HN.out]; show (n : Int) = cp; omega))
        have HG := Lib.hid hg; have HO := Lib.hid ho
        clear hg ho hb cl hrl
        go_wp2_with fail
        go_roundw
        all_goals first
          | (simp [intOf]; omega)
          | exact ⟨k + 1, by omega, by go_num, v, HO.out, by rw [HSK.out]; exact HG.out, HB2.out⟩
    · obtain rfl : k = n := by omega
      obtain ⟨A0, c0, rfl, hc0, hA0, _, _⟩ := hg.form
      have o5 := blk_cell ho 5
      have of5 := blk_frozen ho 5
      have hlen := bcs_length m
      have h1 := bcs_one m
      have hrl := HM0.out.below (HB.out.trans (hb.mono (by omega)))
      obtain ⟨xs, hxs⟩ : ∃ xs, bcs m = xs := ⟨_, rfl⟩
      obtain ⟨nr, hnr⟩ : ∃ nr, (rrows ⟨i, f, t, cp, s⟩ ls k).length = nr := ⟨_, rfl⟩
      have hown : (wr.alloc (.cells #[] 5)).ownsRow wr.heap.size 5 1 (.slice (some ⟨wr.heap.size, 0, none⟩) 0 0) 0 [] := World.ownsRow_lit wr #[] 0 (Nat.le_refl _) (by decide) rfl
      have hr2 := hrl.alloc (.cells #[] 5)
      rw [hxs] at hr2 hlen h1
      rw [HR.out] at hlen
      rw [hnr] at o5
      have hnr4 : nr ≤ 4 := by
        rw [← hnr]; unfold rrows
        split <;> simp <;> omega
      have hml6 : r ≤ 1000000 := by have := HMAY.out; omega
      have HLN := Lib.hid hlen; have HNR := Lib.hid hnr; have HXS := Lib.hid hxs; have HG := Lib.hid hg; have HO := Lib.hid ho; have HRL := Lib.hid hr2; have HOW := Lib.hid hown
      have hvl0 : ∃ vs, wr.ownsRow w2.heap.size 27 1 (.slice A0 nr c0) nr vs ∧ vs.length = nr ∧ ∀ (j : Nat) (l : Msg), (rrows ⟨i, f, t, cp, s⟩ ls k)[j]? = some l → ∃ u, vs[j]? = some u ∧ MsgAt w2.heap.size wr.heap.size wr u l := by
        have h := HG.out.own
        rw [HNR.out] at h
        exact h
      obtain ⟨vs, hownl, hvl, hms⟩ := hvl0
      have HOWL := Lib.hid hownl; have HVL := Lib.hid hvl; have HMS := Lib.hid hms
      have lt0 : w1.heap.size < w2.heap.size := by rw [Z2.out]; omega
      have LT0 := Lib.hid lt0
      have o5' : ∀ o, (wr.alloc o).cell? ⟨w1.heap.size, 5, none⟩ = some (.slice A0 nr c0) := fun o => Lib.cell?_alloc_marked o o5
      have LTR := Lib.hid (show w1.heap.size < wr.heap.size by omega)
      have HZ2 := Lib.hid (show w2.heap.size ≤ wr.heap.size from hz)
      have GR0 := Lib.hid (blk_below G1.out hb (by omega))
      have S1 := Lib.hid s1
      clear hlen hnr hxs hg ho hr2 hrl hown hb hownl hvl hms
      go_wp2_with fail
      go_region_law (first
        | (refine step_append_rd rfl (.tmp 54) (.tmp 55) 27 rfl wr.heap.size 5 i1 (.int .u8 0) 1 1 Try.underlying27 gi gz0 gz1 gz2 rfl (by decide) _ 0 [] rfl (HOW.out.drew) _ r _ xs rfl (by rw [HLN.out]; omega) (HRL.out.drew) h1 (by unfold maxLen; omega) (by omega) (by simp) ?_; intro v1 w3 hown3 hg3; obtain ⟨A1, c1, rfl, hc1, hA1, hf1, hr1⟩ := own_form3 hown3; have hb3 := below_own (((Below.refl wr.heap.size wr).alloc (Nat.le_refl _) (.cells #[] 5)).drew) (HOW.out.drew) hg3 (by simp); have o5b := (hb3.cell (p := ⟨w1.heap.size, 5, none⟩) LTR.out).trans o5; have o5c : ∀ o, (w3.alloc o).cell? ⟨w1.heap.size, 5, none⟩ = some (.slice A0 nr c0) := fun o => Lib.cell?_alloc_marked o o5b; have HOL3 := Lib.hid (own_below HOWL.out hb3); rw [Nat.zero_add])
        | (refine step_append_rd rfl (.tmp 53) (.tmp 57) 24 rfl w2.heap.size 27 i0 (.slice none 0 0) 1 24 Try.underlying24 hi hz0 hz1 hz2 rfl (by decide) _ nr vs rfl (HOL3.out.alloc _) _ 1 _ [.slice A1 r c1] rfl rfl (Rd.new _ _ _) (by intro u hu; simp at hu; subst hu; rfl) (by unfold maxLen; omega) (by omega) (by have h1 := HZ2.out; have h2 := hb3.size; simp; omega) ?_; intro v5 w5 hown5 hg5; obtain ⟨A5, c5, rfl, hc5, hA5, hf5, hr5⟩ := own_form3 hown5; have hb5 := below_own ((hb3.mono HZ2.out).alloc (Nat.le_trans HZ2.out hb3.size) _) (HOL3.out.alloc _) hg5 (by have h1 := HZ2.out; have h2 := hb3.size; simp; omega); have O5 := Lib.hid (blk_below HO.out hb5 LT0.out); have o5d := blk_cell O5.out 5; have of5d := blk_frozen O5.out 5))
      all_goals
        have GO := Lib.hid (blk_set O5.out 5 (.slice A5 (nr + 1) c5))
        have G1R := Lib.hid (blk_far (blk_below GR0.out hb5 (by have := S1.out; have := LT0.out; omega)) (p := ⟨w1.heap.size, 5, none⟩) (by have := S1.out; show _ ≠ w1.heap.size; omega) (.slice A5 (nr + 1) c5))
        have GG := Lib.hid (Grow.pushed HNR.out HR.out HXS.out HVL.out HMS.out hb3 HOL3.out (by omega) hA1 hf1 hr1 HZ2.out hg5 hown5 LT0.out (.slice A5 (nr + 1) c5))
        have BL := Lib.hid ((HB.out.trans ((HB2.out.trans (hb5.mono (Nat.le_of_lt LT0.out))).mono (by have := S1.out; omega))).setCell (p := ⟨w1.heap.size, 5, none⟩) (by have := S1.out; show _ ≤ w1.heap.size; omega) (.slice A5 (nr + 1) c5))
        clear o5d of5d O5 hr5 hown5 hg5 hb5 o5 of5 o5'
        generalize w5.setCell ⟨w1.heap.size, 5, none⟩ (.slice A5 (nr + 1) c5) = w6 at *
        have o0 := blk_cell GO.out 0
        have r0 := blk_cell G1R.out 0
        have f0 := blk_frozen G1R.out 0
        have o1 := blk_cell GO.out 1
        have r1 := blk_cell G1R.out 1
        have f1 := blk_frozen G1R.out 1
        have o2 := blk_cell GO.out 2
        have r2 := blk_cell G1R.out 2
        have f2 := blk_frozen G1R.out 2
        have o3 := blk_cell GO.out 3
        have r3 := blk_cell G1R.out 3
        have f3 := blk_frozen G1R.out 3
        have o4 := blk_cell GO.out 4
        have r4 := blk_cell G1R.out 4
        have f4 := blk_frozen G1R.out 4
        have o5 := blk_cell GO.out 5
        have r5 := blk_cell G1R.out 5
        have f5 := blk_frozen G1R.out 5
        go_wp2
        refine ret_row_tmp rfl (w.heap.size + 1) 26 _ _ rfl (q_set G1R.out rfl _ _ _ _ _ _) Try.underlying26 rfl (by kernel_rfl) rfl ?_
        have hq := Grow.q GG.out
        exact ⟨A5, c5, by rw [HNR.out]; rfl, ⟨hq.2.1, hq.2.2.1, by rw [size6]; exact (own2_far6 hq.2.2.2 G1R.out _ _ _ _ _ _).mono (by have := S1.out; have := LT0.out; omega) (Nat.le_refl _)⟩, q_below BL.out (by omega) _ _ _ _ _ _⟩
end Go.Proofs.Ytlmecndldclnnaa.chan
