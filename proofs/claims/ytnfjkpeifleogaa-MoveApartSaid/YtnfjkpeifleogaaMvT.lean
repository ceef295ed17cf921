/- Moves: the reference's fresh partition; no condition. -/
import Derived.Test.YtnfjkpeifleogaaRows
import Derived.Test.YtnfjkpeifleogaaMvS
namespace Go.Proofs.Ytnfjkpeifleogaa.mv
open Go Go.ChangeShapes Go.WideShapes Go.ChangeAt Go.RowKit Go.Proofs.Ytnfjkpeifleogaa.rows
theorem freshN_le (y : Pn) : freshN y ≤ 512 := by unfold freshN; split <;> (try split) <;> omega
theorem freshN_lt {y : Pn} {n k : Nat} (h : freshN y = n) (hk : k < n) : (k : Int) < y.size ∧ (k : Int) < 512 := by
  unfold freshN at h; split at h
  · omega
  · split at h <;> omega
theorem freshN_end {y : Pn} {n : Nat} (h : freshN y = n) : (¬ (n : Int) < y.size) ∨ ((n : Int) < y.size ∧ ¬ (n : Int) < 512) := by
  unfold freshN at h; split at h
  · omega
  · split at h <;> omega
theorem freshM_at {n k : Nat} {img : List UInt8} {b : UInt8} (hk : k < n) (h : (freshM n img)[k]? = some b) : (k < img.length ∧ img[k]? = some b) ∨ (¬ k < img.length ∧ b = 0) := by
  unfold freshM at h
  by_cases hl : k < img.length
  · left
    rw [List.getElem?_append_left (by rw [List.length_take]; omega), List.getElem?_take] at h
    rw [if_pos hk] at h
    exact ⟨hl, h⟩
  · right
    rw [List.getElem?_append_right (by rw [List.length_take]; omega)] at h
    have := List.mem_of_getElem? h
    simp only [zs, List.mem_replicate] at this
    exact ⟨hl, this.2⟩
set_option maxRecDepth 100000 in
set_option maxHeartbeats 8000000 in
theorem rfresh (y : Pn) (Ai : Option Addr) (ni ci : Nat) (hni : y.img.length = ni) (h63 : ni ≤ 1000000) (w : World) (h : Rd w Ai (bcs y.img)) :
    Calls Try.prog 29 #[.agg #[.int .i64 y.id, .int .i64 y.base, .int .i64 y.size, .bool y.keep, .slice Ai ni ci]] w (POutF (freshP y) w) := by
  obtain ⟨i1, gi, gz0, gz1, gz2⟩ := info_parts info_byte
  have g0 := blk_alloc (blk_new w #[.int .i64 y.id, .int .i64 y.base, .int .i64 y.size, .bool y.keep, .slice Ai ni ci] 40) (.cells #[.int .i64 0, .int .i64 0, .bool false, .int .u32 0, .int .u32 0, .int .u32 0, .int .u32 0, .int .u32 0, .int .u32 0, .int .u32 0, .int .u32 0, .int .u32 0, .int .u8 0, .slice none 0 0] 44)
  have y0 := blk_cell g0 0; have y2 := blk_cell g0 2; have y3 := blk_cell g0 3
  have hB2 := ((((Below.refl w.heap.size w).alloc (Nat.le_refl _) (.cells #[.int .i64 y.id, .int .i64 y.base, .int .i64 y.size, .bool y.keep, .slice Ai ni ci] 40)).alloc (by simp) (.cells #[.int .i64 0, .int .i64 0, .bool false, .int .u32 0, .int .u32 0, .int .u32 0, .int .u32 0, .int .u32 0, .int .u32 0, .int .u32 0, .int .u32 0, .int .u32 0, .int .u8 0, .slice none 0 0] 44)).alloc (by simp; omega) (.cells #[.int .i64 y.id, .int .i64 y.size, .bool y.keep, .int .u32 0, .int .u32 0, .int .u32 0, .int .u32 0, .int .u32 0, .int .u32 0, .int .u32 0, .int .u32 0, .int .u32 0, .int .u8 0, .slice none 0 0] 44))
  have G0 := Lib.hid (blk_alloc (blk_alloc (blk_new w #[.int .i64 y.id, .int .i64 y.base, .int .i64 y.size, .bool y.keep, .slice Ai ni ci] 40) (.cells #[.int .i64 0, .int .i64 0, .bool false, .int .u32 0, .int .u32 0, .int .u32 0, .int .u32 0, .int .u32 0, .int .u32 0, .int .u32 0, .int .u32 0, .int .u32 0, .int .u8 0, .slice none 0 0] 44)) (.cells #[.int .i64 y.id, .int .i64 y.size, .bool y.keep, .int .u32 0, .int .u32 0, .int .u32 0, .int .u32 0, .int .u32 0, .int .u32 0, .int .u32 0, .int .u32 0, .int .u32 0, .int .u8 0, .slice none 0 0] 44))
  have G1 := Lib.hid (blk_alloc (show ((w.alloc (.cells #[.int .i64 y.id, .int .i64 y.base, .int .i64 y.size, .bool y.keep, .slice Ai ni ci] 40)).alloc (.cells #[.int .i64 0, .int .i64 0, .bool false, .int .u32 0, .int .u32 0, .int .u32 0, .int .u32 0, .int .u32 0, .int .u32 0, .int .u32 0, .int .u32 0, .int .u32 0, .int .u8 0, .slice none 0 0] 44)).heap[w.heap.size + 1]? = some (.cells #[.int .i64 0, .int .i64 0, .bool false, .int .u32 0, .int .u32 0, .int .u32 0, .int .u32 0, .int .u32 0, .int .u32 0, .int .u32 0, .int .u32 0, .int .u32 0, .int .u8 0, .slice none 0 0] 44 (0, 0)) by have := blk_new (w.alloc (.cells #[.int .i64 y.id, .int .i64 y.base, .int .i64 y.size, .bool y.keep, .slice Ai ni ci] 40)) #[.int .i64 0, .int .i64 0, .bool false, .int .u32 0, .int .u32 0, .int .u32 0, .int .u32 0, .int .u32 0, .int .u32 0, .int .u32 0, .int .u32 0, .int .u32 0, .int .u8 0, .slice none 0 0] 44; simpa using this) (.cells #[.int .i64 y.id, .int .i64 y.size, .bool y.keep, .int .u32 0, .int .u32 0, .int .u32 0, .int .u32 0, .int .u32 0, .int .u32 0, .int .u32 0, .int .u32 0, .int .u32 0, .int .u8 0, .slice none 0 0] 44))
  have G2 := Lib.hid (show (((w.alloc (.cells #[.int .i64 y.id, .int .i64 y.base, .int .i64 y.size, .bool y.keep, .slice Ai ni ci] 40)).alloc (.cells #[.int .i64 0, .int .i64 0, .bool false, .int .u32 0, .int .u32 0, .int .u32 0, .int .u32 0, .int .u32 0, .int .u32 0, .int .u32 0, .int .u32 0, .int .u32 0, .int .u8 0, .slice none 0 0] 44)).alloc (.cells #[.int .i64 y.id, .int .i64 y.size, .bool y.keep, .int .u32 0, .int .u32 0, .int .u32 0, .int .u32 0, .int .u32 0, .int .u32 0, .int .u32 0, .int .u32 0, .int .u32 0, .int .u8 0, .slice none 0 0] 44)).heap[w.heap.size + 2]? = some (.cells #[.int .i64 y.id, .int .i64 y.size, .bool y.keep, .int .u32 0, .int .u32 0, .int .u32 0, .int .u32 0, .int .u32 0, .int .u32 0, .int .u32 0, .int .u32 0, .int .u32 0, .int .u8 0, .slice none 0 0] 44 (0, 0)) by have := blk_new ((w.alloc (.cells #[.int .i64 y.id, .int .i64 y.base, .int .i64 y.size, .bool y.keep, .slice Ai ni ci] 40)).alloc (.cells #[.int .i64 0, .int .i64 0, .bool false, .int .u32 0, .int .u32 0, .int .u32 0, .int .u32 0, .int .u32 0, .int .u32 0, .int .u32 0, .int .u32 0, .int .u32 0, .int .u8 0, .slice none 0 0] 44)) #[.int .i64 y.id, .int .i64 y.size, .bool y.keep, .int .u32 0, .int .u32 0, .int .u32 0, .int .u32 0, .int .u32 0, .int .u32 0, .int .u32 0, .int .u32 0, .int .u32 0, .int .u8 0, .slice none 0 0] 44; simpa using this)
  have HB := Lib.hid hB2
  have HS := Lib.hid (show (((w.alloc (.cells #[.int .i64 y.id, .int .i64 y.base, .int .i64 y.size, .bool y.keep, .slice Ai ni ci] 40)).alloc (.cells #[.int .i64 0, .int .i64 0, .bool false, .int .u32 0, .int .u32 0, .int .u32 0, .int .u32 0, .int .u32 0, .int .u32 0, .int .u32 0, .int .u32 0, .int .u32 0, .int .u8 0, .slice none 0 0] 44)).alloc (.cells #[.int .i64 y.id, .int .i64 y.size, .bool y.keep, .int .u32 0, .int .u32 0, .int .u32 0, .int .u32 0, .int .u32 0, .int .u32 0, .int .u32 0, .int .u32 0, .int .u32 0, .int .u8 0, .slice none 0 0] 44)).heap.size = w.heap.size + 3 by simp)
  have H := Lib.hid h; have HN := Lib.hid hni
  have h63i : (ni : Int) ≤ 1000000 := by omega
  clear h hni hB2 g0
  obtain ⟨n, hn⟩ : ∃ n, freshN y = n := ⟨_, rfl⟩
  have hn5 : n ≤ 512 := by rw [← hn]; exact freshN_le y
  have HF := Lib.hid hn; clear hn
  have HL := Lib.hid (freshM_length n y.img)
  go_enter Try.func29, Try.ntmps29
  go_wp2_with fail
  clear y0 y2 y3
  generalize (((w.alloc (.cells #[.int .i64 y.id, .int .i64 y.base, .int .i64 y.size, .bool y.keep, .slice Ai ni ci] 40)).alloc (.cells #[.int .i64 0, .int .i64 0, .bool false, .int .u32 0, .int .u32 0, .int .u32 0, .int .u32 0, .int .u32 0, .int .u32 0, .int .u32 0, .int .u32 0, .int .u32 0, .int .u8 0, .slice none 0 0] 44)).alloc (.cells #[.int .i64 y.id, .int .i64 y.size, .bool y.keep, .int .u32 0, .int .u32 0, .int .u32 0, .int .u32 0, .int .u32 0, .int .u32 0, .int .u32 0, .int .u32 0, .int .u32 0, .int .u8 0, .slice none 0 0] 44)) = wb at *
  go_loopw [4] (fun iv wr => ∃ k : Nat, k ≤ n ∧ iv = .int .i64 k ∧ ∃ v, wr.heap[w.heap.size + 2]? = some (.cells #[.int .i64 y.id, .int .i64 y.size, .bool y.keep, .int .u32 0, .int .u32 0, .int .u32 0, .int .u32 0, .int .u32 0, .int .u32 0, .int .u32 0, .int .u32 0, .int .u32 0, .int .u8 0, v] 44 (0, 0)) ∧ wr.ownsRow (w.heap.size + 3) 5 1 v k (bcs ((freshM n y.img).take k)) ∧ Below (w.heap.size + 2) wb wr) (fun iv _ => n - (intOf iv).toNat)
  case atStart => exact ⟨0, Nat.zero_le _, rfl, _, G2.out, by rw [List.take_zero]; exact World.ownsRow_nil _ _ _ _, Below.refl _ _⟩
  case round =>
    obtain ⟨k, hk, rfl, v, ho, hown, hb⟩ := hrel
    have HO := Lib.hid ho; have BR := Lib.hid hb; have hz := hb.size; have HOWN := Lib.hid hown
    have hzw : w.heap.size + 3 ≤ wr.heap.size := by rw [← HS.out]; exact hz
    obtain ⟨Av, cv, rfl, hcv, hAv, hfv, hrv⟩ := own_form3 hown
    have HAV := Lib.hid (show (Av = none → cv = 0) ∧ ((∃ g, Av = some ⟨g, 0, none⟩) ∨ bcs ((freshM n y.img).take k) = []) ∧ _ from ⟨hAv, hfv, hrv⟩)
    clear ho hb hown hAv hfv hrv
    have BW := Lib.hid (HB.out.trans (BR.out.mono (Nat.le_add_right _ 2)))
    have YR := Lib.hid (blk_below G0.out BR.out (by omega))
    have y2 := blk_cell YR.out 2; have y4 := blk_cell YR.out 4
    by_cases hkl : k < n
    · have hki : (k : Int) < y.size ∧ (k : Int) < 512 := freshN_lt HF.out hkl
      have hk1 := hki.1; have hk2 := hki.2; clear hki
      obtain ⟨bt, hbt⟩ : ∃ bt, (freshM n y.img)[k]? = some bt := ⟨_, List.getElem?_eq_getElem (by rw [HL.out]; exact hkl)⟩
      have HT := Lib.hid (bcs_take_succ (freshM n y.img) k bt hbt)
      have x13 := blk_cell HO.out 13
      have hcase : (k < ni ∧ y.img[k]? = some bt) ∨ (¬ k < ni ∧ bt = 0) := by rw [← HN.out]; exact freshM_at hkl hbt
      clear hbt
      rcases hcase with ⟨hkn, hat⟩ | ⟨hkn, rfl⟩
      · have hkni : (k : Int) < (ni : Int) := by omega
        obtain ⟨b, o, rfl, _⟩ := H.out.addr (by rw [bcs_length, HN.out]; omega)
        have cx := (H.out.below BW.out).cell (bcs_at hat)
        clear hat
        have hk0 : (0 : Int) ≤ (k : Int) := by omega
        go_wp2_with (at_builtin; refine wpList_append_rd _ rfl (.tmp 36) (.tmp 38) 38 rfl (w.heap.size + 3) 5 i1 (.int .u8 0) 1 1 Try.underlying38 gi gz0 gz1 gz2 rfl (by decide) _ k (bcs ((freshM n y.img).take k)) rfl (HOWN.out.alloc _) _ 1 _ [.int .u8 (bt.toNat : Int)] rfl rfl (Rd.new _ _ _) ?d2 ?d3 ?d4 ?d5 ?_)
        case d2 => first | rfl | (intro u hu; simp at hu; subst hu; rfl)
        case d3 => unfold maxLen; omega
        case d4 => omega
        case d5 => first | omega | (simp; omega)
        intro v6 w6 hown6 hg6
        have KX := Lib.hid (KeptX.grown (HOWN.out.alloc (.cells #[.int .u8 (bt.toNat : Int)] 5)) hg6)
        have O6 := Lib.hid (KX.out.2 _ _ _ (by decide) (blk_alloc HO.out (.cells #[.int .u8 (bt.toNat : Int)] 5)))
        have hb6 := below_own (B := w.heap.size + 2) (BR.out.alloc (by omega) (.cells #[.int .u8 (bt.toNat : Int)] 5)) (own_lo (HOWN.out.alloc _) (Nat.le_succ _)) hg6 (by simp; omega)
        have HT2 := HT.out
        rw [HT2] at hown6
        obtain ⟨A6, c6, hv6, _⟩ := own_form3 hown6
        subst hv6
        have HO6 := Lib.hid hown6; have HB6 := Lib.hid hb6
        have x6 := blk_cell O6.out 13; have f6 := blk_frozen O6.out 13
        clear hown6 hg6 hb6 x13 HT2
        go_wp2_with fail
        go_roundw
        case rel => exact ⟨k + 1, by omega, by go_num, _, blk_set O6.out 13 _, own_keptX HO6.out (by decide) (KeptX.set O6.out 13 _), HB6.out.setCell (p := ⟨w.heap.size + 2, 13, none⟩) (Nat.le_refl _) _⟩
        case measure => simp [intOf] <;> omega
      · have hkni : ¬ (k : Int) < (ni : Int) := by omega
        have hk0 : (0 : Int) ≤ (k : Int) := by omega
        go_wp2_with (at_builtin; refine wpList_append_rd _ rfl (.tmp 36) (.tmp 38) 38 rfl (w.heap.size + 3) 5 i1 (.int .u8 0) 1 1 Try.underlying38 gi gz0 gz1 gz2 rfl (by decide) _ k (bcs ((freshM n y.img).take k)) rfl (HOWN.out.alloc _) _ 1 _ [.int .u8 0] rfl rfl (Rd.new _ _ _) ?d2 ?d3 ?d4 ?d5 ?_)
        case d2 => first | rfl | (intro u hu; simp at hu; subst hu; rfl)
        case d3 => unfold maxLen; omega
        case d4 => omega
        case d5 => first | omega | (simp; omega)
        intro v6 w6 hown6 hg6
        have KX := Lib.hid (KeptX.grown (HOWN.out.alloc (.cells #[.int .u8 0] 5)) hg6)
        have O6 := Lib.hid (KX.out.2 _ _ _ (by decide) (blk_alloc HO.out (.cells #[.int .u8 0] 5)))
        have hb6 := below_own (B := w.heap.size + 2) (BR.out.alloc (by omega) (.cells #[.int .u8 0] 5)) (own_lo (HOWN.out.alloc _) (Nat.le_succ _)) hg6 (by simp; omega)
        have HT2 := HT.out; rw [show (((0 : UInt8).toNat : Nat) : Int) = 0 from rfl] at HT2
        rw [HT2] at hown6
        obtain ⟨A6, c6, hv6, _⟩ := own_form3 hown6
        subst hv6
        have HO6 := Lib.hid hown6; have HB6 := Lib.hid hb6
        have x6 := blk_cell O6.out 13; have f6 := blk_frozen O6.out 13
        clear hown6 hg6 hb6 x13 HT2
        go_wp2_with fail
        go_roundw
        case rel => exact ⟨k + 1, by omega, by go_num, _, blk_set O6.out 13 _, own_keptX HO6.out (by decide) (KeptX.set O6.out 13 _), HB6.out.setCell (p := ⟨w.heap.size + 2, 13, none⟩) (Nat.le_refl _) _⟩
        case measure => simp [intOf] <;> omega
    · have hkn : n = k := by omega
      subst hkn
      have hend : (¬ (n : Int) < y.size) ∨ ((n : Int) < y.size ∧ ¬ (n : Int) < 512) := freshN_end HF.out
      have HM := Lib.hid (show MsgAt (w.heap.size + 3) wr.heap.size wr (.slice Av n cv) (freshM n y.img) by
        obtain ⟨q1, q2, q3⟩ := HAV.out
        rw [List.take_of_length_le (by rw [HL.out]; exact Nat.le_refl _)] at q2 q3
        exact ⟨Av, cv, by rw [HL.out], by rw [HL.out]; exact hcv, q1, q2.elim .inl (fun e => .inr (by cases hh : freshM n y.img with | nil => rfl | cons a l => rw [hh] at e; cases e)), q3⟩)
      have ZR := Lib.hid (blk_below G1.out BR.out (by omega))
      have x0 := blk_cell HO.out 0
      have x1 := blk_cell HO.out 1
      have x2 := blk_cell HO.out 2
      have x3 := blk_cell HO.out 3
      have x4 := blk_cell HO.out 4
      have x5 := blk_cell HO.out 5
      have x6 := blk_cell HO.out 6
      have x7 := blk_cell HO.out 7
      have x8 := blk_cell HO.out 8
      have x9 := blk_cell HO.out 9
      have x10 := blk_cell HO.out 10
      have x11 := blk_cell HO.out 11
      have x12 := blk_cell HO.out 12
      have x13 := blk_cell HO.out 13
      rcases hend with h1 | ⟨h1, h2⟩
      · skip
        go_wp2_with (refine wpList_store_at rfl 44 (.tmp 2) (.tmp 41) rfl (w.heap.size + 1) #[.int .i64 y.id, .int .i64 y.size, .bool y.keep, .int .u32 0, .int .u32 0, .int .u32 0, .int .u32 0, .int .u32 0, .int .u32 0, .int .u32 0, .int .u32 0, .int .u32 0, .int .u8 0, .slice Av n cv] rfl rfl 44 _ ZR.out info_pt rfl (by simp [Value.oneCell']) ?_)
        intro w8 hw8
        have KX := Lib.hid (KeptX.row ZR.out #[.int .i64 y.id, .int .i64 y.size, .bool y.keep, .int .u32 0, .int .u32 0, .int .u32 0, .int .u32 0, .int .u32 0, .int .u32 0, .int .u32 0, .int .u32 0, .int .u32 0, .int .u8 0, .slice Av n cv])
        have B8 := Lib.hid (below_row BW.out (show w.heap.size ≤ w.heap.size + 1 by omega) #[.int .i64 y.id, .int .i64 y.size, .bool y.keep, .int .u32 0, .int .u32 0, .int .u32 0, .int .u32 0, .int .u32 0, .int .u32 0, .int .u32 0, .int .u32 0, .int .u32 0, .int .u8 0, .slice Av n cv])
        have R8 := Lib.hid (blk_row ZR.out #[.int .i64 y.id, .int .i64 y.size, .bool y.keep, .int .u32 0, .int .u32 0, .int .u32 0, .int .u32 0, .int .u32 0, .int .u32 0, .int .u32 0, .int .u32 0, .int .u32 0, .int .u8 0, .slice Av n cv])
        have M8 := Lib.hid ((msg_keptX HM.out (by decide) KX.out).mono (show w.heap.size ≤ w.heap.size + 3 by omega) (Nat.le_refl _))
        rw [← hw8.out] at B8 R8 M8
        clear hw8 KX
        go_wp2
        refine ret_row rfl (w.heap.size + 1) 44 _ _ rfl R8.out Try.underlying44 rfl info_pt rfl ?_
        unfold freshP
        rw [HF.out]
        exact ⟨B8.out, Av, cv, by rw [HL.out], by rw [HL.out]; exact M8.out⟩
      · skip
        go_wp2_with (refine wpList_store_at rfl 44 (.tmp 2) (.tmp 41) rfl (w.heap.size + 1) #[.int .i64 y.id, .int .i64 y.size, .bool y.keep, .int .u32 0, .int .u32 0, .int .u32 0, .int .u32 0, .int .u32 0, .int .u32 0, .int .u32 0, .int .u32 0, .int .u32 0, .int .u8 0, .slice Av n cv] rfl rfl 44 _ ZR.out info_pt rfl (by simp [Value.oneCell']) ?_)
        intro w8 hw8
        have KX := Lib.hid (KeptX.row ZR.out #[.int .i64 y.id, .int .i64 y.size, .bool y.keep, .int .u32 0, .int .u32 0, .int .u32 0, .int .u32 0, .int .u32 0, .int .u32 0, .int .u32 0, .int .u32 0, .int .u32 0, .int .u8 0, .slice Av n cv])
        have B8 := Lib.hid (below_row BW.out (show w.heap.size ≤ w.heap.size + 1 by omega) #[.int .i64 y.id, .int .i64 y.size, .bool y.keep, .int .u32 0, .int .u32 0, .int .u32 0, .int .u32 0, .int .u32 0, .int .u32 0, .int .u32 0, .int .u32 0, .int .u32 0, .int .u8 0, .slice Av n cv])
        have R8 := Lib.hid (blk_row ZR.out #[.int .i64 y.id, .int .i64 y.size, .bool y.keep, .int .u32 0, .int .u32 0, .int .u32 0, .int .u32 0, .int .u32 0, .int .u32 0, .int .u32 0, .int .u32 0, .int .u32 0, .int .u8 0, .slice Av n cv])
        have M8 := Lib.hid ((msg_keptX HM.out (by decide) KX.out).mono (show w.heap.size ≤ w.heap.size + 3 by omega) (Nat.le_refl _))
        rw [← hw8.out] at B8 R8 M8
        clear hw8 KX
        go_wp2
        refine ret_row rfl (w.heap.size + 1) 44 _ _ rfl R8.out Try.underlying44 rfl info_pt rfl ?_
        unfold freshP
        rw [HF.out]
        exact ⟨B8.out, Av, cv, by rw [HL.out], by rw [HL.out]; exact M8.out⟩
end Go.Proofs.Ytnfjkpeifleogaa.mv
