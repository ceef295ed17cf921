/- Channels: a queue copied into memory of its own, with room behind its messages; no condition. -/
import Derived.Test.YtlmecndldclnnaaRows
import Derived.Test.YtlmecndldclnnaaChI
import Derived.Test.YtlmecndldclnnaaChD
import Derived.RegionTactic
import Derived.BigRegion
import Derived.Lib.SmallJoins
import Derived.Lib.SlBytesConst
namespace Go.Proofs.Ytlmecndldclnnaa.chan
open Go Go.ChangeShapes Go.WideShapes Go.ChangeAt Go.RowKit Go.Proofs.Ytlmecndldclnnaa.rows
theorem Roomy.fin {lo lo' hi : Nat} {w : World} {g : Nat} {ls : List Msg} (h : Roomy lo hi w g ls) (h1 : lo' ≤ lo) (hs : w.heap.size = hi) : Roomy lo' w.drew.heap.size w.drew g ls := by subst hs; exact h.mono h1 (Nat.le_refl _)
theorem Roomy.drew {lo hi : Nat} {w : World} {g : Nat} {ls : List Msg} (h : Roomy lo hi w g ls) : Roomy lo hi w.drew g ls := h
set_option maxRecDepth 100000 in
set_option maxHeartbeats 4000000 in
theorem lcopied_go (i f t cp s : Int) (A : Option Addr) (n c : Nat) (ls : List Msg) (hn : ls.length = n) (h63 : n ≤ 20) (hml : ∀ l ∈ ls, l.length ≤ 1000000) (w : World) (h : Rms w A ls) :
    Calls Try.prog 10 #[.agg #[.int .i64 i, .int .i64 f, .int .i64 t, .int .i64 cp, .int .i64 s, .slice (A) n c]] w fun e w' => ∃ g c, e = .returned (.agg #[.int .i64 i, .int .i64 f, .int .i64 t, .int .i64 cp, .int .i64 s, .slice (some ⟨g, 0, none⟩) n c]) ∧ n + 1 ≤ c ∧ Roomy w.heap.size w'.heap.size w' g ls ∧ Below w.heap.size w w' := by
  obtain ⟨i0, hi, hz0, hz1, hz2⟩ := info_parts info_row
  obtain ⟨i1, gi, gz0, gz1, gz2⟩ := info_parts info_byte
  have g0 := Lib.hid (blk_alloc (blk_new w #[.int .i64 i, .int .i64 f, .int .i64 t, .int .i64 cp, .int .i64 s, .slice (A) n c] 26) (.cells #[.int .i64 0, .int .i64 0, .int .i64 0, .int .i64 0, .int .i64 0, .slice (none) 0 0] 26))
  have g1 := Lib.hid (show ((w.alloc (.cells #[.int .i64 i, .int .i64 f, .int .i64 t, .int .i64 cp, .int .i64 s, .slice (A) n c] 26)).alloc (.cells #[.int .i64 0, .int .i64 0, .int .i64 0, .int .i64 0, .int .i64 0, .slice (none) 0 0] 26)).heap[w.heap.size + 1]? = some (.cells #[.int .i64 0, .int .i64 0, .int .i64 0, .int .i64 0, .int .i64 0, .slice (none) 0 0] 26 (0, 0)) by have := blk_new (w.alloc (.cells #[.int .i64 i, .int .i64 f, .int .i64 t, .int .i64 cp, .int .i64 s, .slice (A) n c] 26)) #[.int .i64 0, .int .i64 0, .int .i64 0, .int .i64 0, .int .i64 0, .slice (none) 0 0] 26; simpa using this)
  have hX := Lib.hid (((Below.refl w.heap.size w).alloc (Nat.le_refl _) (.cells #[.int .i64 i, .int .i64 f, .int .i64 t, .int .i64 cp, .int .i64 s, .slice (A) n c] 26)).alloc (by simp) (.cells #[.int .i64 0, .int .i64 0, .int .i64 0, .int .i64 0, .int .i64 0, .slice (none) 0 0] 26))
  have z0 : ((w.alloc (.cells #[.int .i64 i, .int .i64 f, .int .i64 t, .int .i64 cp, .int .i64 s, .slice (A) n c] 26)).alloc (.cells #[.int .i64 0, .int .i64 0, .int .i64 0, .int .i64 0, .int .i64 0, .slice (none) 0 0] 26)).heap.size = w.heap.size + 2 := by simp
  have H := Lib.hid (h.below hX.out)
  have HN := Lib.hid hn; have HML := Lib.hid hml
  clear h hn hml
  go_enter Try.func10, Try.ntmps10
  go_wp2
  generalize ((w.alloc (.cells #[.int .i64 i, .int .i64 f, .int .i64 t, .int .i64 cp, .int .i64 s, .slice (A) n c] 26)).alloc (.cells #[.int .i64 0, .int .i64 0, .int .i64 0, .int .i64 0, .int .i64 0, .slice (none) 0 0] 26)) = w0 at *
  have Z0 := Lib.hid z0; clear z0
  go_loopw [3, 4] (fun v iv wr => ∃ k : Nat, k ≤ n ∧ iv = .int .i64 k ∧ GrowR w0.heap.size wr v (ls.take k) ∧ Below w0.heap.size w0 wr) (fun _ iv _ => n - (intOf iv).toNat)
  case atStart => exact ⟨0, Nat.zero_le _, rfl, GrowR.nil _ _, Below.refl _ _⟩
  case round =>
    obtain ⟨k, hk, rfl, hg, hb⟩ := hrel
    have hz := hb.size
    have HB := Lib.hid hb
    by_cases hkl : k < n
    · have hki : (k : Int) < (n : Int) := by omega
      obtain ⟨b, off, rfl⟩ := H.out.addr (by rw [HN.out]; omega)
      obtain ⟨l, hl⟩ : ∃ l, ls[k]? = some l := ⟨_, List.getElem?_eq_getElem (by rw [HN.out]; exact hkl)⟩
      obtain ⟨A', c', cl, hlc, hA', hrl⟩ := (H.out.below hb).at hl
      have HTK := Lib.hid (show ls.take (k + 1) = ls.take k ++ [l] by rw [List.take_add_one, hl]; rfl)
      have HLEN := Lib.hid (show (ls.take k).length = k by rw [List.length_take, HN.out]; omega)
      have HL := Lib.hid (HML.out l (List.mem_of_getElem? hl))
      have CL := Lib.hid cl
      have gP := Lib.hid (blk_below g0.out hb (blk_lt g0.out))
      have a5 := blk_cell gP.out 5
      have a5' : ∀ o, (wr.alloc o).cell? ⟨w.heap.size, 5, none⟩ = some (.slice (some ⟨b, off, none⟩) n c) := fun o => Lib.cell?_alloc_marked o (blk_cell gP.out 5)
      have cl' : ∀ o, (wr.alloc o).cell? ⟨b, off + k, none⟩ = some (.slice A' l.length c') := fun o => Lib.cell?_alloc_marked o cl
      have hown : (wr.alloc (.cells #[] 5)).ownsRow wr.heap.size 5 1 (.slice (some ⟨wr.heap.size, 0, none⟩) 0 0) 0 [] := World.ownsRow_lit wr #[] 0 (Nat.le_refl _) (by decide) rfl
      have hr2 := hrl.alloc (.cells #[] 5)
      have hlen := bcs_length l
      have h1 := bcs_one l
      have HC := Lib.hid (show bcs l ++ [.int .u8 99] = bcs (l ++ [99]) by simp [bcs, Lib.byteCells])
      obtain ⟨A0, c0, rfl⟩ : ∃ A0 c0, u3 = .slice A0 (ls.take k).length c0 := by
        obtain ⟨vs, q1, q2, _⟩ := hg
        obtain ⟨A0, c0, e, _⟩ := own_form q2
        exact ⟨A0, c0, e⟩
      have HG := Lib.hid hg
      have hlk : (ls.take k).length = k := HLEN.out
      rw [hlk] at HG ⊢
      obtain ⟨xs, hxs⟩ : ∃ xs, bcs l = xs := ⟨_, rfl⟩
      obtain ⟨m, hm⟩ : ∃ m, l.length = m := ⟨_, rfl⟩
      rw [hxs] at hr2 hlen h1 HC
      rw [hm] at hlen cl' HL CL
      have HM := Lib.hid hm; have HLN := Lib.hid hlen
      clear hg hb hl cl hlc hA' hrl hlen hxs hm hlk
      go_wp2_with (at_builtin; refine wpList_append_rd _ rfl (.tmp 13) (.tmp 18) 27 rfl wr.heap.size 5 i1 (.int .u8 0) 1 1 Try.underlying27 gi gz0 gz1 gz2 rfl (by decide) _ 0 [] rfl hown _ m _ xs rfl (by rw [HLN.out]; omega) hr2 h1 ?c3 ?c4 ?c5 ?_)
      case c3 => have := HL.out; unfold maxLen; omega
      case c4 => have := HL.out; omega
      case c5 => simp
      intro v' w3 hown3 hg3
      have hb3 : Below wr.heap.size wr w3 := below_own ((Below.refl _ wr).alloc (Nat.le_refl _) _) hown hg3 (by simp)
      have HB3 := Lib.hid hb3
      have hsz3 := hb3.size
      obtain ⟨A1, c1, rfl, _, _⟩ := own_form hown3
      have HO := Lib.hid hown3
      clear hb3 hown3 hg3 hr2 h1 a5 a5' cl' hown
      go_wp2_with (at_builtin; refine wpList_append_rd _ rfl (.tmp 19) (.tmp 20) 27 rfl wr.heap.size 5 i1 (.int .u8 0) 1 1 Try.underlying27 gi gz0 gz1 gz2 rfl (by decide) _ m xs rfl (HO.out.alloc _) _ 1 _ [.int .u8 99] rfl rfl (Rd.new _ _ _) ?d2 ?d3 ?d4 ?d5 ?_)
      case d2 => intro u hu; simp at hu; subst hu; rfl
      case d3 => have := HL.out; unfold maxLen; omega
      case d4 => have := HL.out; omega
      case d5 => simp; omega
      intro v'' w4 hown4 hg4
      have hb4 : Below wr.heap.size wr w4 := below_own (HB3.out.alloc hsz3 _) (HO.out.alloc _) hg4 (by simp; omega)
      obtain ⟨g, cap, rfl⟩ : ∃ g cap, v'' = .slice (some ⟨g, 0, none⟩) (m + 1) cap := by
        rcases hown4.2 with ⟨_, hz⟩ | ⟨g, cap, _, hv, _⟩
        · omega
        · exact ⟨g, cap, hv⟩
      obtain ⟨A2, c2, e, hle, _⟩ := own_form hown4
      injection e with e1 _ e2
      subst e1; subst e2
      rw [HC.out] at hown4
      have HRM := Lib.hid (show MsgRoom wr.heap.size w4.heap.size w4 (.slice (some ⟨g, 0, none⟩) m cap) l from ⟨g, cap, by rw [HM.out], by rw [HM.out]; exact hle, RowIn.of_own hown4 (Nat.le_refl _)⟩)
      have HB4 := Lib.hid hb4
      have hsz4 := hb4.size
      have b5 := blk_cell (blk_below gP.out hb4 (blk_lt gP.out)) 5
      have dl := (hb4.cell (p := ⟨b, off + k, none⟩) (World.block_lt_of_cell? wr _ CL.out)).trans CL.out
      have hc0 : ¬ cap = 0 := by omega
      have hnc : (m : Int) ≤ (cap : Int) := by omega
      have hG1 := (HG.out.below hb4).alloc (.cells #[.slice (some ⟨g, 0, none⟩) m cap] 27)
      have hB1 := (HB.out.trans (hb4.mono hz)).alloc (by omega) (.cells #[.slice (some ⟨g, 0, none⟩) m cap] 27)
      have hm2 := (HRM.out.below ((Below.refl w4.heap.size w4).alloc (Nat.le_refl _) (.cells #[.slice (some ⟨g, 0, none⟩) m cap] 27)) (Nat.le_refl _)).mono hz (show w4.heap.size ≤ (w4.alloc (.cells #[.slice (some ⟨g, 0, none⟩) m cap] 27)).heap.size by simp)
      obtain ⟨vs, hownl, hvl, hms⟩ := hG1.own
      have hlk : (ls.take k).length = k := HLEN.out
      rw [hlk] at hownl hvl
      have HM2 := Lib.hid hm2; have HMS := Lib.hid hms; have HVL := Lib.hid hvl; have HB1 := Lib.hid hB1; have HOL := Lib.hid hownl
      have zz := hB1.size
      clear hown4 hg4 hb4 hG1 hB1 hm2 hownl hvl hms hlk HO
      go_wp2_with (at_builtin; refine wpList_append_rd _ rfl (.tmp 22) (.tmp 31) 24 rfl w0.heap.size 27 i0 (.slice none 0 0) 1 24 Try.underlying24 hi hz0 hz1 hz2 rfl (by decide) _ k vs rfl HOL.out _ 1 _ [.slice (some ⟨g, 0, none⟩) m cap] rfl rfl (Rd.new _ _ _) ?e2 ?e3 ?e4 ?e5 ?_)
      case e2 => first | rfl | (intro u hu; simp at hu; subst hu; rfl)
      case e3 => unfold maxLen; omega
      case e4 => omega
      case e5 => first | exact zz | (have h := zz; simp at h; omega)
      intro v5 w5 hown5 hg5
      have hgs : GrowR w0.heap.size w5 v5 (ls.take k ++ [l]) := GrowR.snoc (by rw [HLEN.out]; exact HOL.out) (by rw [HLEN.out]; exact HVL.out) HMS.out HM2.out (by rw [HLEN.out]; exact hown5) hg5
      rw [← HTK.out] at hgs
      have hb5 := below_own HB1.out HOL.out hg5 zz
      have HG5 := Lib.hid hgs; have HB5 := Lib.hid hb5
      clear hown5 hg5 hgs hb5 zz b5 dl
      go_wp2
      go_roundw
      case rel => exact ⟨k + 1, by omega, by go_num, HG5.out, HB5.out⟩
      case measure => simp [intOf]; omega
    · obtain rfl : k = n := by omega
      have hgn : ls.take k = ls := by rw [← HN.out, List.take_length]
      rw [hgn] at hg
      have a5 := blk_cell (blk_below g0.out hb (blk_lt g0.out)) 5
      obtain ⟨A0, c0, rfl⟩ : ∃ A0 c0, u3 = .slice A0 ls.length c0 := by
        obtain ⟨vs, q1, q2, _⟩ := hg
        obtain ⟨A0, c0, e, _⟩ := own_form q2
        exact ⟨A0, c0, e⟩
      have hB1 := (HB.out.alloc hz (.cells #[.int .u8 98] 5)).alloc (show w0.heap.size ≤ (wr.alloc (.cells #[.int .u8 98] 5)).heap.size by simp; omega) (.cells #[.slice (some ⟨wr.heap.size, 0, none⟩) 1 1] 27)
      have hG1 := (hg.alloc (.cells #[.int .u8 98] 5)).alloc (.cells #[.slice (some ⟨wr.heap.size, 0, none⟩) 1 1] 27)
      have h98 : RowIn 5 w0.heap.size ((wr.alloc (.cells #[.int .u8 98] 5)).alloc (.cells #[.slice (some ⟨wr.heap.size, 0, none⟩) 1 1] 27)).heap.size ((wr.alloc (.cells #[.int .u8 98] 5)).alloc (.cells #[.slice (some ⟨wr.heap.size, 0, none⟩) 1 1] 27)) (some ⟨wr.heap.size, 0, none⟩) (bcs [98]) := by
        have ho : (wr.alloc (.cells #[.int .u8 98] 5)).ownsRow wr.heap.size 5 1 (.slice (some ⟨wr.heap.size, 0, none⟩) 1 1) 1 (bcs [98]) := World.ownsRow_lit wr #[.int .u8 98] 1 (Nat.le_refl _) (by decide) rfl
        exact ((RowIn.of_own ho (Nat.le_refl _)).below ((Below.refl _ _).alloc (Nat.le_refl _) _) (Nat.le_refl _)).mono hz (by simp)
      obtain ⟨vs, hownl, hvl, hms⟩ := hG1.own
      rw [HN.out] at hownl hvl ⊢
      have HMS := Lib.hid hms; have HVL := Lib.hid hvl; have HB1 := Lib.hid hB1; have HOL := Lib.hid hownl; have H98 := Lib.hid h98
      have zz := hB1.size
      have hrd : Rd ((wr.alloc (.cells #[.int .u8 98] 5)).alloc (.cells #[.slice (some ⟨wr.heap.size, 0, none⟩) 1 1] 27)) (some ⟨wr.heap.size + 1, 0, none⟩) [.slice (some ⟨wr.heap.size, 0, none⟩) 1 1] := by
        have h := Rd.new (wr.alloc (.cells #[.int .u8 98] 5)) #[.slice (some ⟨wr.heap.size, 0, none⟩) 1 1] 27
        rw [show (wr.alloc (.cells #[.int .u8 98] 5)).heap.size = wr.heap.size + 1 by simp] at h
        exact h
      have HRD := Lib.hid hrd
      clear hrd hg hb hG1 hB1 hownl hvl hms h98 hgn
      go_wp2_with (at_builtin; refine wpList_append_rd _ rfl (.tmp 33) (.tmp 35) 24 rfl w0.heap.size 27 i0 (.slice none 0 0) 1 24 Try.underlying24 hi hz0 hz1 hz2 rfl (by decide) _ k vs rfl HOL.out _ 1 _ [.slice (some ⟨wr.heap.size, 0, none⟩) 1 1] rfl rfl HRD.out ?f2 ?f3 ?f4 ?f5 ?_)
      case f2 => first | rfl | (intro u hu; simp at hu; subst hu; rfl)
      case f3 => unfold maxLen; omega
      case f4 => omega
      case f5 => first | exact zz | (have h := zz; simp at h; omega)
      intro v5 w5 hown5 hg5
      have hb5 := below_own HB1.out HOL.out hg5 zz
      have hne : ∀ (g : Nat) (cs : Array Value), ((wr.alloc (.cells #[.int .u8 98] 5)).alloc (.cells #[.slice (some ⟨wr.heap.size, 0, none⟩) 1 1] 27)).heap[g]? = some (.cells cs 5 (0, 0)) → some g ≠ (Value.slice A0 k c0).ownBlock := fun g cs hgc => own_ne HOL.out hgc (by decide)
      obtain ⟨g, cap, rfl⟩ : ∃ g cap, v5 = .slice (some ⟨g, 0, none⟩) (k + 1) cap := by
        rcases hown5.2 with ⟨_, hz⟩ | ⟨g, cap, _, hv, _⟩
        · omega
        · exact ⟨g, cap, hv⟩
      obtain ⟨A2, c2, e, hle, _⟩ := own_form hown5
      injection e with e1 _ e2
      subst e1; subst e2
      have hRM : Roomy w0.heap.size w5.heap.size w5 g ls := ⟨vs, wr.heap.size, 1, by rw [HVL.out, HN.out], RowIn.of_own hown5 (Nat.le_refl _), Nat.le_refl _, (H98.out.grown hg5 hne).mono (Nat.le_refl _) hg5.size, fun j l hj => by
        obtain ⟨u, e1, e2⟩ := HMS.out j l hj
        exact ⟨u, e1, (e2.grown hg5 hne).mono (Nat.le_refl _) hg5.size⟩⟩
      have G0 := Lib.hid (blk_below g0.out hb5 (blk_lt g0.out)); have G1 := Lib.hid (blk_below g1.out hb5 (blk_lt g1.out))
      have HRM := Lib.hid hRM; have HB5 := Lib.hid hb5
      have hc0 : ¬ cap = 0 := by omega
      have hnc : (k : Int) ≤ (cap : Int) := by omega
      clear hown5 hg5 hne hRM hb5 zz a5
      have p0 := blk_cell G0.out 0
      have r0 := blk_cell G1.out 0
      have f0 := blk_frozen G1.out 0
      have p1 := blk_cell G0.out 1
      have r1 := blk_cell G1.out 1
      have f1 := blk_frozen G1.out 1
      have p2 := blk_cell G0.out 2
      have r2 := blk_cell G1.out 2
      have f2 := blk_frozen G1.out 2
      have p3 := blk_cell G0.out 3
      have r3 := blk_cell G1.out 3
      have f3 := blk_frozen G1.out 3
      have p4 := blk_cell G0.out 4
      have r4 := blk_cell G1.out 4
      have f4 := blk_frozen G1.out 4
      have p5 := blk_cell G0.out 5
      have r5 := blk_cell G1.out 5
      have f5 := blk_frozen G1.out 5
      go_wp2_with fail
      go_big_region
      go_wp2
      have hq := q_set G1.out rfl (.int .i64 i) (.int .i64 f) (.int .i64 t) (.int .i64 cp) (.int .i64 s) (.slice (some ⟨g, 0, none⟩) k cap)
      have hr := HRM.out.far6 G1.out (.int .i64 i) (.int .i64 f) (.int .i64 t) (.int .i64 cp) (.int .i64 s) (.slice (some ⟨g, 0, none⟩) k cap)
      have hbb := q_below (g := w.heap.size + 1) (hX.out.trans (HB5.out.mono (by have := Z0.out; omega))) (by omega) (.int .i64 i) (.int .i64 f) (.int .i64 t) (.int .i64 cp) (.int .i64 s) (.slice (some ⟨g, 0, none⟩) k cap)
      have hsz := size6 w5 (w.heap.size + 1) (.int .i64 i) (.int .i64 f) (.int .i64 t) (.int .i64 cp) (.int .i64 s) (.slice (some ⟨g, 0, none⟩) k cap)
      refine ret_row rfl (w.heap.size + 1) 26 _ _ rfl (blk_drew hq) Try.underlying26 rfl (by kernel_rfl) rfl ?_
      have hr2 := hr.fin (show w.heap.size ≤ w0.heap.size by have := Z0.out; omega) hsz
      have hb2 := hbb.drew
      clear hq hr hbb hsz HRM HB5
      exact ⟨g, cap, rfl, hle, hr2, hb2⟩
theorem lcopied (x : Ch) (A : Option Addr) (c : Nat) (ls : List Msg) (h63 : ls.length ≤ 20) (hml : ∀ l ∈ ls, l.length ≤ 1000000) (w : World) (h : Rms w A ls) :
    Calls Try.prog 10 #[.agg (qcells x A ls.length c)] w fun e w' => ∃ g c, e = .returned (.agg (qcells x (some ⟨g, 0, none⟩) ls.length c)) ∧ ls.length + 1 ≤ c ∧ Roomy w.heap.size w'.heap.size w' g ls ∧ Below w.heap.size w w' := by
  obtain ⟨i, f, t, cp, s⟩ := x
  exact lcopied_go i f t cp s A ls.length c ls rfl h63 hml w h
end Go.Proofs.Ytlmecndldclnnaa.chan
