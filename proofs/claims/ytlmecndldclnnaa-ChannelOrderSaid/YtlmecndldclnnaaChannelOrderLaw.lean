/- The law ChannelOrder: what is put is taken in the order in which it was put; no condition. -/
import Derived.Test.YtlmecndldclnnaaRows
import Derived.Test.YtlmecndldclnnaaChT
import Derived.Deep.RegionHeld3
import Derived.Lib.SmallJoins
namespace Go.Proofs.Ytlmecndldclnnaa.chan
open Go Go.ChangeShapes Go.WideShapes Go.ChangeAt Go.RowKit Go.Proofs.Ytlmecndldclnnaa.rows
/-- What stands between two rounds: the channel's block, the queue's, the row of what is wanted. -/
def Ord (x : Ch) (p0 p1 : Nat) (w wr : World) (v : Value) (ls : List Msg) : Prop :=
  ∃ A c Aw cw, v = .slice Aw ls.length cw ∧ wr.heap[p1]? = some (.cells (qcells x A ls.length c) 26 (0, 0)) ∧ QAt w.heap.size wr.heap.size wr A c ls ∧ mayQ x ls = true ∧ Win w.heap.size wr Aw cw (strs ls) ∧ wr.heap[p0]? = some (.cells x.cells.toArray 23 (0, 0)) ∧ Below w.heap.size w wr
theorem Ord.below {x : Ch} {p0 p1 : Nat} {w wr w' : World} {v : Value} {ls : List Msg} (h : Ord x p0 p1 w wr v ls) (hb : Below wr.heap.size wr w') : Ord x p0 p1 w w' v ls := by
  obtain ⟨A, c, Aw, cw, h1, h2, h3, h4, h5, h6, h7⟩ := h
  exact ⟨A, c, Aw, cw, h1, blk_below h2 hb (blk_lt h2), ⟨h3.1, h3.2.1, (h3.2.2.below hb (Nat.le_refl _)).mono (Nat.le_refl _) hb.size⟩, h4, h5.below hb, blk_below h6 hb (blk_lt h6), h7.trans (hb.mono h7.size)⟩
theorem info_q6 : (Try.prog.info? 26).map (·.size) = some 6 := by kernel_rfl
theorem below_dr {w w4 : World} (h : Below w.drew.heap.size w.drew w4) : Below w.heap.size w w4 := ⟨h.os, h.tape, h.output, h.size, h.block⟩
theorem below_dr2 {w w4 : World} {o : Obj} (h : Below (w.alloc o).drew.heap.size (w.alloc o).drew w4) : Below (w.heap.size + 1) (w.alloc o) w4 := by
  have e : (w.alloc o).drew.heap.size = w.heap.size + 1 := by show (w.alloc o).heap.size = _; simp
  rw [e] at h
  exact ⟨h.os, h.tape, h.output, h.size, h.block⟩
theorem qat_dr {w w4 : World} {o : Obj} {hi c : Nat} {A : Option Addr} {ls : List Msg} (h : QAt (w.alloc o).drew.heap.size hi w4 A c ls) : QAt (w.heap.size + 1) hi w4 A c ls := by
  have e : (w.alloc o).drew.heap.size = w.heap.size + 1 := by show (w.alloc o).heap.size = _; simp
  rw [e] at h
  exact h
theorem room_full {x : Ch} {ls : List Msg} {m : Msg} (h : (ls.length : Int) = x.cap) (hc : 1 ≤ x.cap) : ∃ a, strs ls ++ [.string ⟨m.toArray⟩] = a :: strs (room x ls ++ [m]) := by
  unfold room
  rw [if_pos h]
  cases ls with
  | nil => simp at h; omega
  | cons a l => exact ⟨.string ⟨a.toArray⟩, by simp [strs]⟩
theorem room_not {x : Ch} {ls : List Msg} (h : ¬ (ls.length : Int) = x.cap) : room x ls = ls := by
  unfold room
  rw [if_neg h]
theorem may_put2 {x : Ch} {ls : List Msg} {m : Msg} (h : mayQ x ls = true) (hm : (m.length : Int) ≤ x.sz) : mayQ x (room x ls ++ [m]) = true := by
  obtain ⟨h1, h2, h3⟩ := mayQ_yes h
  have hc := mayC_iff.1 h1
  have hr : ((room x ls).length : Int) + 1 ≤ x.cap ∧ ∀ l ∈ room x ls, l ∈ ls := by
    unfold room; split
    · rename_i he
      exact ⟨by simp; omega, fun l hl => List.mem_of_mem_drop hl⟩
    · exact ⟨by omega, fun l hl => hl⟩
  refine mayQ_good h1 (by simp; exact hr.1) fun k l _ hl => ?_
  rcases List.mem_append.1 (List.mem_of_getElem? hl) with hx | hx
  · exact h3 l (hr.2 l hx)
  · simp at hx; subst hx; exact hm
theorem may_tl {x : Ch} {a : Msg} {r : List Msg} (h : mayQ x (a :: r) = true) : mayQ x r = true := by
  obtain ⟨h1, h2, h3⟩ := mayQ_yes h
  refine mayQ_good h1 (by simp at h2; omega) fun k l _ hl => h3 l (List.mem_cons_of_mem _ (List.mem_of_getElem? hl))
set_option maxHeartbeats 1000000 in
theorem order_no (i f t cp s : Int) (A : Option Addr) (n c : Nat) (hq : mayC ⟨i, f, t, cp, s⟩ = false) (w : World) : Calls Try.prog 5 #[.agg #[.int .i64 i, .int .i64 f, .int .i64 t, .int .i64 cp, .int .i64 s], .slice A n c] w fun e w' => e = .returned (.bool true) ∧ Below w.heap.size w w' := by
  have P0 := Lib.hid (blk_new w #[.int .i64 i, .int .i64 f, .int .i64 t, .int .i64 cp, .int .i64 s] 23)
  have hX := Lib.hid ((Below.refl w.heap.size w).alloc (Nat.le_refl _) (.cells #[.int .i64 i, .int .i64 f, .int .i64 t, .int .i64 cp, .int .i64 s] 23))
  have TN := fun W => new_any ⟨i, f, t, cp, s⟩ W
  simp only [hq, Ch.cells, qcells, if_false, Bool.false_eq_true] at TN
  have HTN := Lib.hid TN
  have HTW := Lib.hid awake
  clear TN hq
  go_enter Try.func5, Try.ntmps5
  go_wp2_with fail
  refine (HTN.out _).mono ?_
  rintro e w1 ⟨rfl, b1⟩
  have D1 := Lib.hid (hX.out.trans (b1.mono hX.out.size))
  have D1a := Lib.hid (D1.out.alloc D1.out.size (.cells #[.int .i64 0, .int .i64 0, .int .i64 0, .int .i64 0, .int .i64 0, .slice (none) 0 0] 26))
  clear b1
  go_wp2_with fail
  refine (HTW.out _).mono ?_
  rintro e w2 ⟨rfl, b2⟩
  have D2 := Lib.hid (D1a.out.trans (b2.mono D1a.out.size))
  clear b2
  go_wp2_with fail
  go_ret
  exact ⟨rfl, D2.out⟩
set_option maxHeartbeats 1000000 in
theorem order_long (i f t cp s : Int) (A : Option Addr) (n c : Nat) (hq : mayC ⟨i, f, t, cp, s⟩ = true) (h0 : (60 : Int) < (n : Int)) (w : World) : Calls Try.prog 5 #[.agg #[.int .i64 i, .int .i64 f, .int .i64 t, .int .i64 cp, .int .i64 s], .slice A n c] w fun e w' => e = .returned (.bool true) ∧ Below w.heap.size w w' := by
  have P0 := Lib.hid (blk_new w #[.int .i64 i, .int .i64 f, .int .i64 t, .int .i64 cp, .int .i64 s] 23)
  have hX := Lib.hid ((Below.refl w.heap.size w).alloc (Nat.le_refl _) (.cells #[.int .i64 i, .int .i64 f, .int .i64 t, .int .i64 cp, .int .i64 s] 23))
  have TN := fun W => new_any ⟨i, f, t, cp, s⟩ W
  simp only [hq, Ch.cells, qcells, if_true] at TN
  have HTN := Lib.hid TN
  have HTW := Lib.hid awake
  clear TN hq
  go_enter Try.func5, Try.ntmps5
  go_wp2_with fail
  refine (HTN.out _).mono ?_
  rintro e w1 ⟨rfl, b1⟩
  have D1 := Lib.hid (hX.out.trans (b1.mono hX.out.size))
  have D1a := Lib.hid (D1.out.alloc D1.out.size (.cells #[.int .i64 i, .int .i64 f, .int .i64 t, .int .i64 cp, .int .i64 s, .slice (none) 0 0] 26))
  clear b1
  go_wp2_with fail
  refine (HTW.out _).mono ?_
  rintro e w2 ⟨rfl, b2⟩
  have D2 := Lib.hid (D1a.out.trans (b2.mono D1a.out.size))
  clear b2
  go_wp2_with fail
  go_ret
  exact ⟨rfl, D2.out⟩
set_option maxRecDepth 100000 in
set_option maxHeartbeats 8000000 in
theorem order_main (i f t cp s : Int) (A : Option Addr) (n c : Nat) (ls : List Msg) (hn : ls.length = n) (hq : mayC ⟨i, f, t, cp, s⟩ = true) (hn6 : (n : Int) ≤ 60) (w : World) (h : Rms w A ls) : Calls Try.prog 5 #[.agg #[.int .i64 i, .int .i64 f, .int .i64 t, .int .i64 cp, .int .i64 s], .slice A n c] w fun e w' => e = .returned (.bool true) ∧ Below w.heap.size w w' := by
  obtain ⟨i0, hi, hz0, hz1, hz2⟩ := info_parts info_str
  have hmay := mayC_iff.1 hq
  simp only at hmay
  have hcp1 : 1 ≤ cp := by omega
  have hcp4 : cp ≤ 4 := by omega
  have hs16 : s ≤ 16 := by omega
  have P0 := Lib.hid (blk_new w #[.int .i64 i, .int .i64 f, .int .i64 t, .int .i64 cp, .int .i64 s] 23)
  have hX := Lib.hid ((Below.refl w.heap.size w).alloc (Nat.le_refl _) (.cells #[.int .i64 i, .int .i64 f, .int .i64 t, .int .i64 cp, .int .i64 s] 23))
  have TN := fun W => new_any ⟨i, f, t, cp, s⟩ W
  simp only [hq, Ch.cells, qcells, if_true] at TN
  have HTN := Lib.hid TN
  have HTW := Lib.hid awake
  have HW := Lib.hid h; have HN := Lib.hid hn; have HMC := Lib.hid hq
  clear TN hq h hn hmay
  go_enter Try.func5, Try.ntmps5
  go_wp2_with fail
  refine (HTN.out _).mono ?_
  rintro e w1 ⟨rfl, b1⟩
  have D1 := Lib.hid (hX.out.trans (b1.mono hX.out.size))
  have z1 : w.heap.size + 1 ≤ w1.heap.size := by have := b1.size; simpa using this
  have P1 := Lib.hid (blk_alloc (blk_below P0.out b1 (blk_lt P0.out)) (.cells #[.int .i64 i, .int .i64 f, .int .i64 t, .int .i64 cp, .int .i64 s, .slice (none) 0 0] 26))
  have N1 := Lib.hid (blk_new w1 #[.int .i64 i, .int .i64 f, .int .i64 t, .int .i64 cp, .int .i64 s, .slice (none) 0 0] 26)
  have D1a := Lib.hid (D1.out.alloc (by omega) (.cells #[.int .i64 i, .int .i64 f, .int .i64 t, .int .i64 cp, .int .i64 s, .slice (none) 0 0] 26))
  clear b1
  go_wp2_with fail
  generalize (w1.alloc (.cells #[.int .i64 i, .int .i64 f, .int .i64 t, .int .i64 cp, .int .i64 s, .slice (none) 0 0] 26)) = w2 at *
  go_loopw [7, 8] (fun v iv wr => ∃ k : Nat, k ≤ n ∧ iv = .int .i64 k ∧ ∃ qs, Ord ⟨i, f, t, cp, s⟩ w.heap.size w1.heap.size w wr v qs) (fun _ iv _ => n - (intOf iv).toNat)
  case atStart => exact ⟨0, Nat.zero_le _, rfl, [], none, 0, none, 0, rfl, N1.out, QAt.nil, mayQ_good HMC.out (by show (0 : Int) ≤ cp; omega) (fun k l _ h => by simp at h), Win.nil, P1.out, D1a.out⟩
  case round =>
    obtain ⟨k, hk, rfl, qs, hord⟩ := hrel
    have HO := Lib.hid hord
    obtain ⟨Aq, cq, Aw, cw, rfl, hp1, hQ, hmq, hwin, hp0, hb⟩ := hord
    have HB := Lib.hid hb; have HP0 := Lib.hid hp0; have HWIN := Lib.hid hwin; have HMQ := Lib.hid hmq
    obtain ⟨nl, hnl⟩ : ∃ nl, qs.length = nl := ⟨_, rfl⟩
    rw [hnl] at hp1 ⊢
    dsimp only [qcells] at hp1
    have HP1 := Lib.hid hp1; have HQ := Lib.hid hQ
    have hnc : (nl : Int) ≤ cp := by have := (mayQ_yes hmq).2.1; rw [hnl] at this; exact this
    have hcw : nl ≤ cw := by have := hwin.le; rw [strs_length, hnl] at this; exact this
    have HNL := Lib.hid hnl
    have hz := hb.size
    have hk0 : (0 : Int) ≤ (k : Int) := by omega
    clear hb hp0 hwin hmq hp1 hQ hnl
    by_cases hkl : k < n
    · have hki : (k : Int) < (n : Int) := by omega
      obtain ⟨b, off, rfl⟩ := HW.out.addr (by rw [HN.out]; omega)
      obtain ⟨m, hm⟩ : ∃ m, ls[k]? = some m := ⟨_, List.getElem?_eq_getElem (by rw [HN.out]; exact hkl)⟩
      obtain ⟨Am, cm, cmw, hmc, hmA, hrmw⟩ := HW.out.at hm
      have ltw : b < w.heap.size := World.block_lt_of_cell? w _ cmw
      have cm0 := (HB.out.cell (p := ⟨b, off + k, none⟩) ltw).trans cmw
      have hrm := hrmw.below HB.out
      have ltb : b < wr.heap.size := World.block_lt_of_cell? wr _ cm0
      obtain ⟨r, hr⟩ : ∃ r, m.length = r := ⟨_, rfl⟩
      rw [hr] at cm0 hmc cmw
      have HCW := Lib.hid cmw; have LTW := Lib.hid ltw; have HRW := Lib.hid hrmw
      clear cmw ltw hrmw
      have LTB := Lib.hid ltb; have HR := Lib.hid hr; have HMA := Lib.hid hmA; have HRM := Lib.hid hrm
      have LT1 := Lib.hid (blk_lt HP1.out)
      clear hm hr hmA hrm ltb
      by_cases h30 : 30 < r
      · have hri : (30 : Int) < (r : Int) := by omega
        go_wp2_with fail
        refine (HTW.out _).mono ?_
        rintro e w9 ⟨rfl, b9⟩
        have D9 := Lib.hid (HB.out.trans (b9.mono hz))
        clear b9
        go_wp2_with fail
        go_ret
        exact ⟨rfl, D9.out⟩
      have hri : (r : Int) ≤ 30 := by omega
      by_cases hr0 : 0 < r
      · have hri0 : (0 : Int) < (r : Int) := by omega
        have a0 := blk_cell HP1.out 0
        have a1 := blk_cell HP1.out 1
        have a2 := blk_cell HP1.out 2
        have a3 := blk_cell HP1.out 3
        have a4 := blk_cell HP1.out 4
        have a5 := blk_cell HP1.out 5
        have HRQ := Lib.hid (show Rms wr.drew Aq qs from HQ.out.2.2.rows); have HRMd := Lib.hid (show Rd wr.drew Am (bcs m) from HRM.out)
        by_cases hlong : s < (r : Int)
        · have TP := fun (W : World) (g1 : Rms W Aq qs) (g2 : Rd W Am (bcs m)) => put_to (x := ⟨i, f, t, cp, s⟩) (show putR ⟨i, f, t, cp, s⟩ qs m = (ch0, [], 3) by unfold putR; rw [if_pos HMQ.out, if_pos (by rw [HR.out]; exact hlong)]) Aq cq HQ.out.2.1 HQ.out.1 (by rw [HNL.out]; omega) Am cm HMA.out (by rw [HR.out]; exact hmc) W g1 g2
          simp only [HNL.out, HR.out, qcells, ch0, List.length_nil] at TP
          have HTP := Lib.hid TP
          clear TP
          go_wp2_with fail
          have HS0 := Lib.hid (show wr.drew.cell? ⟨w1.heap.size, 0, none⟩ = some (.int .i64 i) ∧ wr.drew.cell? ⟨w1.heap.size, 1, none⟩ = some (.int .i64 f) ∧ wr.drew.cell? ⟨w1.heap.size, 2, none⟩ = some (.int .i64 t) ∧ wr.drew.cell? ⟨w1.heap.size, 3, none⟩ = some (.int .i64 cp) ∧ wr.drew.cell? ⟨w1.heap.size, 4, none⟩ = some (.int .i64 s) ∧ wr.drew.cell? ⟨w1.heap.size, 5, none⟩ = some (.slice Aq nl cq) ∧ wr.drew.cell? ⟨b, off + k, none⟩ = some (.slice Am r cm) from ⟨a0, a1, a2, a3, a4, a5, cm0⟩)
          have HS1 := Lib.hid (show ∀ oo, ((wr.alloc oo).drew.cell? ⟨w1.heap.size, 0, none⟩ = some (.int .i64 i) ∧ (wr.alloc oo).drew.cell? ⟨w1.heap.size, 1, none⟩ = some (.int .i64 f) ∧ (wr.alloc oo).drew.cell? ⟨w1.heap.size, 2, none⟩ = some (.int .i64 t) ∧ (wr.alloc oo).drew.cell? ⟨w1.heap.size, 3, none⟩ = some (.int .i64 cp) ∧ (wr.alloc oo).drew.cell? ⟨w1.heap.size, 4, none⟩ = some (.int .i64 s) ∧ (wr.alloc oo).drew.cell? ⟨w1.heap.size, 5, none⟩ = some (.slice Aq nl cq) ∧ (wr.alloc oo).drew.cell? ⟨b, off + k, none⟩ = some (.slice Am r cm)) from fun oo => ⟨(((Below.refl wr.heap.size wr).alloc (Nat.le_refl _) oo).drew.cell (p := ⟨w1.heap.size, 0, none⟩) LT1.out).trans a0, (((Below.refl wr.heap.size wr).alloc (Nat.le_refl _) oo).drew.cell (p := ⟨w1.heap.size, 1, none⟩) LT1.out).trans a1, (((Below.refl wr.heap.size wr).alloc (Nat.le_refl _) oo).drew.cell (p := ⟨w1.heap.size, 2, none⟩) LT1.out).trans a2, (((Below.refl wr.heap.size wr).alloc (Nat.le_refl _) oo).drew.cell (p := ⟨w1.heap.size, 3, none⟩) LT1.out).trans a3, (((Below.refl wr.heap.size wr).alloc (Nat.le_refl _) oo).drew.cell (p := ⟨w1.heap.size, 4, none⟩) LT1.out).trans a4, (((Below.refl wr.heap.size wr).alloc (Nat.le_refl _) oo).drew.cell (p := ⟨w1.heap.size, 5, none⟩) LT1.out).trans a5, (((Below.refl wr.heap.size wr).alloc (Nat.le_refl _) oo).drew.cell (p := ⟨b, off + k, none⟩) LTB.out).trans cm0⟩)
          have HRQa := Lib.hid (show Rms (wr.alloc (.cells #[.int .i64 0, .int .i64 0, .int .i64 0, .int .i64 0, .int .i64 0, .slice (none) 0 0] 26)).drew Aq qs from HQ.out.2.2.rows.below ((Below.refl wr.heap.size wr).alloc (Nat.le_refl _) (.cells #[.int .i64 0, .int .i64 0, .int .i64 0, .int .i64 0, .int .i64 0, .slice (none) 0 0] 26)).drew); have HRMa := Lib.hid (show Rd (wr.alloc (.cells #[.int .i64 0, .int .i64 0, .int .i64 0, .int .i64 0, .int .i64 0, .slice (none) 0 0] 26)).drew Am (bcs m) from HRM.out.alloc _)
          go_region_held3 (fun w' => w'.cell? ⟨w1.heap.size, 0, none⟩ = some (.int .i64 i) ∧ w'.cell? ⟨w1.heap.size, 1, none⟩ = some (.int .i64 f) ∧ w'.cell? ⟨w1.heap.size, 2, none⟩ = some (.int .i64 t) ∧ w'.cell? ⟨w1.heap.size, 3, none⟩ = some (.int .i64 cp) ∧ w'.cell? ⟨w1.heap.size, 4, none⟩ = some (.int .i64 s) ∧ w'.cell? ⟨w1.heap.size, 5, none⟩ = some (.slice Aq nl cq) ∧ w'.cell? ⟨b, off + k, none⟩ = some (.slice Am r cm))
            (with_reducible (first | exact HS0.out | exact HS1.out _ | exact HS2.out | exact HS3.out _ | exact HS4.out _ _ _ _ _ _ _ | exact HS4.out _ _ _ _ _ _))
            (first
              | ((with_reducible refine (HTP.out _ HRQ.out HRMd.out).mono ?_); rintro e w4 ⟨A5, c5, rfl, hq5, b4⟩; have B41 := Lib.hid (show Below wr.heap.size wr w4 from below_dr b4); have HQ5 := Lib.hid (show QAt wr.heap.size w4.heap.size w4 A5 c5 [] from hq5); have HS2 := Lib.hid (show w4.cell? ⟨w1.heap.size, 0, none⟩ = some (.int .i64 i) ∧ w4.cell? ⟨w1.heap.size, 1, none⟩ = some (.int .i64 f) ∧ w4.cell? ⟨w1.heap.size, 2, none⟩ = some (.int .i64 t) ∧ w4.cell? ⟨w1.heap.size, 3, none⟩ = some (.int .i64 cp) ∧ w4.cell? ⟨w1.heap.size, 4, none⟩ = some (.int .i64 s) ∧ w4.cell? ⟨w1.heap.size, 5, none⟩ = some (.slice Aq nl cq) ∧ w4.cell? ⟨b, off + k, none⟩ = some (.slice Am r cm) from ⟨(B41.out.cell (p := ⟨w1.heap.size, 0, none⟩) LT1.out).trans a0, (B41.out.cell (p := ⟨w1.heap.size, 1, none⟩) LT1.out).trans a1, (B41.out.cell (p := ⟨w1.heap.size, 2, none⟩) LT1.out).trans a2, (B41.out.cell (p := ⟨w1.heap.size, 3, none⟩) LT1.out).trans a3, (B41.out.cell (p := ⟨w1.heap.size, 4, none⟩) LT1.out).trans a4, (B41.out.cell (p := ⟨w1.heap.size, 5, none⟩) LT1.out).trans a5, (B41.out.cell (p := ⟨b, off + k, none⟩) LTB.out).trans cm0⟩); have HS3 := Lib.hid (show ∀ oo, ((w4.alloc oo).cell? ⟨w1.heap.size, 0, none⟩ = some (.int .i64 i) ∧ (w4.alloc oo).cell? ⟨w1.heap.size, 1, none⟩ = some (.int .i64 f) ∧ (w4.alloc oo).cell? ⟨w1.heap.size, 2, none⟩ = some (.int .i64 t) ∧ (w4.alloc oo).cell? ⟨w1.heap.size, 3, none⟩ = some (.int .i64 cp) ∧ (w4.alloc oo).cell? ⟨w1.heap.size, 4, none⟩ = some (.int .i64 s) ∧ (w4.alloc oo).cell? ⟨w1.heap.size, 5, none⟩ = some (.slice Aq nl cq) ∧ (w4.alloc oo).cell? ⟨b, off + k, none⟩ = some (.slice Am r cm)) from fun oo => ⟨((B41.out.alloc B41.out.size oo).cell (p := ⟨w1.heap.size, 0, none⟩) LT1.out).trans a0, ((B41.out.alloc B41.out.size oo).cell (p := ⟨w1.heap.size, 1, none⟩) LT1.out).trans a1, ((B41.out.alloc B41.out.size oo).cell (p := ⟨w1.heap.size, 2, none⟩) LT1.out).trans a2, ((B41.out.alloc B41.out.size oo).cell (p := ⟨w1.heap.size, 3, none⟩) LT1.out).trans a3, ((B41.out.alloc B41.out.size oo).cell (p := ⟨w1.heap.size, 4, none⟩) LT1.out).trans a4, ((B41.out.alloc B41.out.size oo).cell (p := ⟨w1.heap.size, 5, none⟩) LT1.out).trans a5, ((B41.out.alloc B41.out.size oo).cell (p := ⟨b, off + k, none⟩) LTB.out).trans cm0⟩); have HS4 := Lib.hid (show ∀ (oo : Obj) (u0 u1 u2 u3 u4 u5 : Value), ((((((((w4.alloc oo).setCell ⟨w4.heap.size, 0, none⟩ (u0)).setCell ⟨w4.heap.size, 1, none⟩ (u1)).setCell ⟨w4.heap.size, 2, none⟩ (u2)).setCell ⟨w4.heap.size, 3, none⟩ (u3)).setCell ⟨w4.heap.size, 4, none⟩ (u4)).setCell ⟨w4.heap.size, 5, none⟩ (u5)).cell? ⟨w1.heap.size, 0, none⟩ = some (.int .i64 i) ∧ (((((((w4.alloc oo).setCell ⟨w4.heap.size, 0, none⟩ (u0)).setCell ⟨w4.heap.size, 1, none⟩ (u1)).setCell ⟨w4.heap.size, 2, none⟩ (u2)).setCell ⟨w4.heap.size, 3, none⟩ (u3)).setCell ⟨w4.heap.size, 4, none⟩ (u4)).setCell ⟨w4.heap.size, 5, none⟩ (u5)).cell? ⟨w1.heap.size, 1, none⟩ = some (.int .i64 f) ∧ (((((((w4.alloc oo).setCell ⟨w4.heap.size, 0, none⟩ (u0)).setCell ⟨w4.heap.size, 1, none⟩ (u1)).setCell ⟨w4.heap.size, 2, none⟩ (u2)).setCell ⟨w4.heap.size, 3, none⟩ (u3)).setCell ⟨w4.heap.size, 4, none⟩ (u4)).setCell ⟨w4.heap.size, 5, none⟩ (u5)).cell? ⟨w1.heap.size, 2, none⟩ = some (.int .i64 t) ∧ (((((((w4.alloc oo).setCell ⟨w4.heap.size, 0, none⟩ (u0)).setCell ⟨w4.heap.size, 1, none⟩ (u1)).setCell ⟨w4.heap.size, 2, none⟩ (u2)).setCell ⟨w4.heap.size, 3, none⟩ (u3)).setCell ⟨w4.heap.size, 4, none⟩ (u4)).setCell ⟨w4.heap.size, 5, none⟩ (u5)).cell? ⟨w1.heap.size, 3, none⟩ = some (.int .i64 cp) ∧ (((((((w4.alloc oo).setCell ⟨w4.heap.size, 0, none⟩ (u0)).setCell ⟨w4.heap.size, 1, none⟩ (u1)).setCell ⟨w4.heap.size, 2, none⟩ (u2)).setCell ⟨w4.heap.size, 3, none⟩ (u3)).setCell ⟨w4.heap.size, 4, none⟩ (u4)).setCell ⟨w4.heap.size, 5, none⟩ (u5)).cell? ⟨w1.heap.size, 4, none⟩ = some (.int .i64 s) ∧ (((((((w4.alloc oo).setCell ⟨w4.heap.size, 0, none⟩ (u0)).setCell ⟨w4.heap.size, 1, none⟩ (u1)).setCell ⟨w4.heap.size, 2, none⟩ (u2)).setCell ⟨w4.heap.size, 3, none⟩ (u3)).setCell ⟨w4.heap.size, 4, none⟩ (u4)).setCell ⟨w4.heap.size, 5, none⟩ (u5)).cell? ⟨w1.heap.size, 5, none⟩ = some (.slice Aq nl cq) ∧ (((((((w4.alloc oo).setCell ⟨w4.heap.size, 0, none⟩ (u0)).setCell ⟨w4.heap.size, 1, none⟩ (u1)).setCell ⟨w4.heap.size, 2, none⟩ (u2)).setCell ⟨w4.heap.size, 3, none⟩ (u3)).setCell ⟨w4.heap.size, 4, none⟩ (u4)).setCell ⟨w4.heap.size, 5, none⟩ (u5)).cell? ⟨b, off + k, none⟩ = some (.slice Am r cm)) from fun oo u0 u1 u2 u3 u4 u5 => ⟨((q_below (B41.out.alloc B41.out.size oo) B41.out.size u0 u1 u2 u3 u4 u5).cell (p := ⟨w1.heap.size, 0, none⟩) LT1.out).trans a0, ((q_below (B41.out.alloc B41.out.size oo) B41.out.size u0 u1 u2 u3 u4 u5).cell (p := ⟨w1.heap.size, 1, none⟩) LT1.out).trans a1, ((q_below (B41.out.alloc B41.out.size oo) B41.out.size u0 u1 u2 u3 u4 u5).cell (p := ⟨w1.heap.size, 2, none⟩) LT1.out).trans a2, ((q_below (B41.out.alloc B41.out.size oo) B41.out.size u0 u1 u2 u3 u4 u5).cell (p := ⟨w1.heap.size, 3, none⟩) LT1.out).trans a3, ((q_below (B41.out.alloc B41.out.size oo) B41.out.size u0 u1 u2 u3 u4 u5).cell (p := ⟨w1.heap.size, 4, none⟩) LT1.out).trans a4, ((q_below (B41.out.alloc B41.out.size oo) B41.out.size u0 u1 u2 u3 u4 u5).cell (p := ⟨w1.heap.size, 5, none⟩) LT1.out).trans a5, ((q_below (B41.out.alloc B41.out.size oo) B41.out.size u0 u1 u2 u3 u4 u5).cell (p := ⟨b, off + k, none⟩) LTB.out).trans cm0⟩); have N9 := Lib.hid (blk_new w4 #[.int .i64 0, .int .i64 0, .int .i64 0, .int .i64 0, .int .i64 0, .slice (none) 0 0] 26); have n0 := blk_cell N9.out 0; have nf0 := blk_frozen N9.out 0; have n1 := blk_cell N9.out 1; have nf1 := blk_frozen N9.out 1; have n2 := blk_cell N9.out 2; have nf2 := blk_frozen N9.out 2; have n3 := blk_cell N9.out 3; have nf3 := blk_frozen N9.out 3; have n4 := blk_cell N9.out 4; have nf4 := blk_frozen N9.out 4; have n5 := blk_cell N9.out 5; have nf5 := blk_frozen N9.out 5; clear b4 hq5)
              | ((with_reducible refine (HTP.out _ HRQa.out HRMa.out).mono ?_); rintro e w4 ⟨A5, c5, rfl, hq5, b4⟩; have B42 := Lib.hid (show Below (wr.heap.size + 1) (wr.alloc (.cells #[.int .i64 0, .int .i64 0, .int .i64 0, .int .i64 0, .int .i64 0, .slice (none) 0 0] 26)) w4 from below_dr2 b4); have B42w := Lib.hid (((Below.refl wr.heap.size wr).alloc (Nat.le_refl _) (.cells #[.int .i64 0, .int .i64 0, .int .i64 0, .int .i64 0, .int .i64 0, .slice (none) 0 0] 26)).trans (B42.out.mono (Nat.le_succ _))); have HQ5 := Lib.hid (show QAt (wr.heap.size + 1) w4.heap.size w4 A5 c5 [] from qat_dr hq5); have HS2 := Lib.hid (show w4.cell? ⟨w1.heap.size, 0, none⟩ = some (.int .i64 i) ∧ w4.cell? ⟨w1.heap.size, 1, none⟩ = some (.int .i64 f) ∧ w4.cell? ⟨w1.heap.size, 2, none⟩ = some (.int .i64 t) ∧ w4.cell? ⟨w1.heap.size, 3, none⟩ = some (.int .i64 cp) ∧ w4.cell? ⟨w1.heap.size, 4, none⟩ = some (.int .i64 s) ∧ w4.cell? ⟨w1.heap.size, 5, none⟩ = some (.slice Aq nl cq) ∧ w4.cell? ⟨b, off + k, none⟩ = some (.slice Am r cm) from ⟨(B42w.out.cell (p := ⟨w1.heap.size, 0, none⟩) LT1.out).trans a0, (B42w.out.cell (p := ⟨w1.heap.size, 1, none⟩) LT1.out).trans a1, (B42w.out.cell (p := ⟨w1.heap.size, 2, none⟩) LT1.out).trans a2, (B42w.out.cell (p := ⟨w1.heap.size, 3, none⟩) LT1.out).trans a3, (B42w.out.cell (p := ⟨w1.heap.size, 4, none⟩) LT1.out).trans a4, (B42w.out.cell (p := ⟨w1.heap.size, 5, none⟩) LT1.out).trans a5, (B42w.out.cell (p := ⟨b, off + k, none⟩) LTB.out).trans cm0⟩); have HS4 := Lib.hid (show ∀ (u0 u1 u2 u3 u4 u5 : Value), (((((((w4.setCell ⟨wr.heap.size, 0, none⟩ (u0)).setCell ⟨wr.heap.size, 1, none⟩ (u1)).setCell ⟨wr.heap.size, 2, none⟩ (u2)).setCell ⟨wr.heap.size, 3, none⟩ (u3)).setCell ⟨wr.heap.size, 4, none⟩ (u4)).setCell ⟨wr.heap.size, 5, none⟩ (u5)).cell? ⟨w1.heap.size, 0, none⟩ = some (.int .i64 i) ∧ ((((((w4.setCell ⟨wr.heap.size, 0, none⟩ (u0)).setCell ⟨wr.heap.size, 1, none⟩ (u1)).setCell ⟨wr.heap.size, 2, none⟩ (u2)).setCell ⟨wr.heap.size, 3, none⟩ (u3)).setCell ⟨wr.heap.size, 4, none⟩ (u4)).setCell ⟨wr.heap.size, 5, none⟩ (u5)).cell? ⟨w1.heap.size, 1, none⟩ = some (.int .i64 f) ∧ ((((((w4.setCell ⟨wr.heap.size, 0, none⟩ (u0)).setCell ⟨wr.heap.size, 1, none⟩ (u1)).setCell ⟨wr.heap.size, 2, none⟩ (u2)).setCell ⟨wr.heap.size, 3, none⟩ (u3)).setCell ⟨wr.heap.size, 4, none⟩ (u4)).setCell ⟨wr.heap.size, 5, none⟩ (u5)).cell? ⟨w1.heap.size, 2, none⟩ = some (.int .i64 t) ∧ ((((((w4.setCell ⟨wr.heap.size, 0, none⟩ (u0)).setCell ⟨wr.heap.size, 1, none⟩ (u1)).setCell ⟨wr.heap.size, 2, none⟩ (u2)).setCell ⟨wr.heap.size, 3, none⟩ (u3)).setCell ⟨wr.heap.size, 4, none⟩ (u4)).setCell ⟨wr.heap.size, 5, none⟩ (u5)).cell? ⟨w1.heap.size, 3, none⟩ = some (.int .i64 cp) ∧ ((((((w4.setCell ⟨wr.heap.size, 0, none⟩ (u0)).setCell ⟨wr.heap.size, 1, none⟩ (u1)).setCell ⟨wr.heap.size, 2, none⟩ (u2)).setCell ⟨wr.heap.size, 3, none⟩ (u3)).setCell ⟨wr.heap.size, 4, none⟩ (u4)).setCell ⟨wr.heap.size, 5, none⟩ (u5)).cell? ⟨w1.heap.size, 4, none⟩ = some (.int .i64 s) ∧ ((((((w4.setCell ⟨wr.heap.size, 0, none⟩ (u0)).setCell ⟨wr.heap.size, 1, none⟩ (u1)).setCell ⟨wr.heap.size, 2, none⟩ (u2)).setCell ⟨wr.heap.size, 3, none⟩ (u3)).setCell ⟨wr.heap.size, 4, none⟩ (u4)).setCell ⟨wr.heap.size, 5, none⟩ (u5)).cell? ⟨w1.heap.size, 5, none⟩ = some (.slice Aq nl cq) ∧ ((((((w4.setCell ⟨wr.heap.size, 0, none⟩ (u0)).setCell ⟨wr.heap.size, 1, none⟩ (u1)).setCell ⟨wr.heap.size, 2, none⟩ (u2)).setCell ⟨wr.heap.size, 3, none⟩ (u3)).setCell ⟨wr.heap.size, 4, none⟩ (u4)).setCell ⟨wr.heap.size, 5, none⟩ (u5)).cell? ⟨b, off + k, none⟩ = some (.slice Am r cm)) from fun u0 u1 u2 u3 u4 u5 => ⟨((q_below B42w.out (Nat.le_refl _) u0 u1 u2 u3 u4 u5).cell (p := ⟨w1.heap.size, 0, none⟩) LT1.out).trans a0, ((q_below B42w.out (Nat.le_refl _) u0 u1 u2 u3 u4 u5).cell (p := ⟨w1.heap.size, 1, none⟩) LT1.out).trans a1, ((q_below B42w.out (Nat.le_refl _) u0 u1 u2 u3 u4 u5).cell (p := ⟨w1.heap.size, 2, none⟩) LT1.out).trans a2, ((q_below B42w.out (Nat.le_refl _) u0 u1 u2 u3 u4 u5).cell (p := ⟨w1.heap.size, 3, none⟩) LT1.out).trans a3, ((q_below B42w.out (Nat.le_refl _) u0 u1 u2 u3 u4 u5).cell (p := ⟨w1.heap.size, 4, none⟩) LT1.out).trans a4, ((q_below B42w.out (Nat.le_refl _) u0 u1 u2 u3 u4 u5).cell (p := ⟨w1.heap.size, 5, none⟩) LT1.out).trans a5, ((q_below B42w.out (Nat.le_refl _) u0 u1 u2 u3 u4 u5).cell (p := ⟨b, off + k, none⟩) LTB.out).trans cm0⟩); have N9 := Lib.hid (blk_below (blk_new wr #[.int .i64 0, .int .i64 0, .int .i64 0, .int .i64 0, .int .i64 0, .slice (none) 0 0] 26) B42.out (Nat.lt_succ_self _)); have n0 := blk_cell N9.out 0; have nf0 := blk_frozen N9.out 0; have n1 := blk_cell N9.out 1; have nf1 := blk_frozen N9.out 1; have n2 := blk_cell N9.out 2; have nf2 := blk_frozen N9.out 2; have n3 := blk_cell N9.out 3; have nf3 := blk_frozen N9.out 3; have n4 := blk_cell N9.out 4; have nf4 := blk_frozen N9.out 4; have n5 := blk_cell N9.out 5; have nf5 := blk_frozen N9.out 5; clear b4 hq5))
          all_goals first
            | (have q1 := B41.out; have B45 := ((Below.refl w4.heap.size w4).alloc (Nat.le_refl _) (.cells #[.int .i64 0, .int .i64 0, .int .i64 0, .int .i64 0, .int .i64 0, .slice A5 0 c5] 26)); have D5 := Lib.hid (q1.trans (B45.mono q1.size)); have HP9 := Lib.hid (blk_new w4 #[.int .i64 0, .int .i64 0, .int .i64 0, .int .i64 0, .int .i64 0, .slice A5 0 c5] 26); have HL9 := Lib.hid (show wr.heap.size ≤ w4.heap.size from q1.size); have HQ9 := Lib.hid (show QAt w.heap.size (w4.alloc (.cells #[.int .i64 0, .int .i64 0, .int .i64 0, .int .i64 0, .int .i64 0, .slice A5 0 c5] 26)).heap.size (w4.alloc (.cells #[.int .i64 0, .int .i64 0, .int .i64 0, .int .i64 0, .int .i64 0, .slice A5 0 c5] 26)) A5 c5 [] from ⟨HQ5.out.1, HQ5.out.2.1, (HQ5.out.2.2.below B45 (Nat.le_refl _)).mono hz B45.size⟩); clear n0 nf0 n1 nf1 n2 nf2 n3 nf3 n4 nf4 n5 nf5 HS4 HS3 HS2 HS0 HS1 N9 B45 q1 B41 HQ5; generalize (w4.alloc (.cells #[.int .i64 0, .int .i64 0, .int .i64 0, .int .i64 0, .int .i64 0, .slice A5 0 c5] 26)) = w5 at *; generalize w4.heap.size = p9 at *)
            | (have q1 := B42w.out; have D5 := Lib.hid (q_below q1 (Nat.le_refl _) (.int .i64 0) (.int .i64 0) (.int .i64 0) (.int .i64 0) (.int .i64 0) (.slice A5 0 c5)); have HP9 := Lib.hid (q_set N9.out rfl (.int .i64 0) (.int .i64 0) (.int .i64 0) (.int .i64 0) (.int .i64 0) (.slice A5 0 c5)); have HL9 := Lib.hid (show wr.heap.size ≤ wr.heap.size from Nat.le_refl _); have HQ9 := Lib.hid (show QAt w.heap.size ((((((w4.setCell ⟨wr.heap.size, 0, none⟩ (.int .i64 0)).setCell ⟨wr.heap.size, 1, none⟩ (.int .i64 0)).setCell ⟨wr.heap.size, 2, none⟩ (.int .i64 0)).setCell ⟨wr.heap.size, 3, none⟩ (.int .i64 0)).setCell ⟨wr.heap.size, 4, none⟩ (.int .i64 0)).setCell ⟨wr.heap.size, 5, none⟩ (.slice A5 0 c5)).heap.size ((((((w4.setCell ⟨wr.heap.size, 0, none⟩ (.int .i64 0)).setCell ⟨wr.heap.size, 1, none⟩ (.int .i64 0)).setCell ⟨wr.heap.size, 2, none⟩ (.int .i64 0)).setCell ⟨wr.heap.size, 3, none⟩ (.int .i64 0)).setCell ⟨wr.heap.size, 4, none⟩ (.int .i64 0)).setCell ⟨wr.heap.size, 5, none⟩ (.slice A5 0 c5)) A5 c5 [] from ⟨HQ5.out.1, HQ5.out.2.1, (own2_far6 HQ5.out.2.2 N9.out (.int .i64 0) (.int .i64 0) (.int .i64 0) (.int .i64 0) (.int .i64 0) (.slice A5 0 c5)).mono (Nat.le_succ_of_le hz) (by rw [size6]; exact Nat.le_refl _)⟩); clear n0 nf0 n1 nf1 n2 nf2 n3 nf3 n4 nf4 n5 nf5 HS4 HS2 HS0 HS1 N9 q1 B42w B42 HQ5; generalize ((((((w4.setCell ⟨wr.heap.size, 0, none⟩ (.int .i64 0)).setCell ⟨wr.heap.size, 1, none⟩ (.int .i64 0)).setCell ⟨wr.heap.size, 2, none⟩ (.int .i64 0)).setCell ⟨wr.heap.size, 3, none⟩ (.int .i64 0)).setCell ⟨wr.heap.size, 4, none⟩ (.int .i64 0)).setCell ⟨wr.heap.size, 5, none⟩ (.slice A5 0 c5)) = w5 at *; obtain ⟨p9, hp9⟩ : ∃ p, wr.heap.size = p := ⟨_, rfl⟩; rw [hp9] at HP9 ⊢; have HL9 := Lib.hid (show wr.heap.size ≤ p9 from Nat.le_of_eq hp9); clear hp9)
          all_goals (
            have d4 : w5.cell? ⟨w.heap.size, 4, none⟩ = some (.int .i64 s) := blk_cell (blk_below HP0.out D5.out (blk_lt HP0.out)) 4
            have cm5 : w5.cell? ⟨b, off + k, none⟩ = some (.slice Am r cm) := (D5.out.cell (p := ⟨b, off + k, none⟩) LTB.out).trans cm0
            have x4 : ∀ x : Ext w5.heap.size w5, x.world.cell? ⟨w.heap.size, 4, none⟩ = some (.int .i64 s) := fun x => (x.cell _ _ (World.block_lt_of_cell? w5 _ d4)).trans d4
            have xm : ∀ x : Ext w5.heap.size w5, x.world.cell? ⟨b, off + k, none⟩ = some (.slice Am r cm) := fun x => (x.cell _ _ (World.block_lt_of_cell? w5 _ cm5)).trans cm5
            clear d4 cm5
            go_wp2_with fail
            refine region_ext (by kernel_rfl) (by kernel_rfl) ?_
            try simp only [List.append_eq, List.cons_append, List.nil_append]
            repeat (go_big_quiet_step (fail))
            refine wpQuiet_nil ?_
            intro v
            have B56 := Lib.hid v.below
            clear x4 xm
            generalize v.world = w6 at *
            have D6 := Lib.hid (D5.out.trans (B56.out.mono D5.out.size)))
          all_goals (go_wp2_with fail; go_roundw)
          all_goals first
            | (simp [intOf]; omega)
            | exact ⟨k + 1, by omega, by go_num, qs, by rw [← HNL.out]; exact HO.out.below D6.out⟩
        · have hlong' : (r : Int) ≤ s := by omega
          obtain ⟨l2, hl2⟩ : ∃ l2, room ⟨i, f, t, cp, s⟩ qs ++ [m] = l2 := ⟨_, rfl⟩
          obtain ⟨k2, hk2⟩ : ∃ k2, l2.length = k2 := ⟨_, rfl⟩
          have HMQ2 := Lib.hid (show mayQ ⟨i, f, t, cp, s⟩ l2 = true by rw [← hl2]; exact may_put2 HMQ.out (by rw [HR.out]; exact hlong'))
          have TP := fun (W : World) (g1 : Rms W Aq qs) (g2 : Rd W Am (bcs m)) => put_to (x := ⟨i, f, t, cp, s⟩) (show putR ⟨i, f, t, cp, s⟩ qs m = (⟨i, f, t, cp, s⟩, l2, 0) by unfold putR; rw [if_pos HMQ.out, if_neg (by rw [HR.out]; exact hlong), hl2]) Aq cq HQ.out.2.1 HQ.out.1 (by rw [HNL.out]; omega) Am cm HMA.out (by rw [HR.out]; exact hmc) W g1 g2
          simp only [HNL.out, HR.out, qcells, hk2] at TP
          have HTP := Lib.hid TP; have HL2 := Lib.hid hl2; have HK2 := Lib.hid hk2
          clear TP hl2 hk2
          go_wp2_with fail
          have HS0 := Lib.hid (show wr.drew.cell? ⟨w1.heap.size, 0, none⟩ = some (.int .i64 i) ∧ wr.drew.cell? ⟨w1.heap.size, 1, none⟩ = some (.int .i64 f) ∧ wr.drew.cell? ⟨w1.heap.size, 2, none⟩ = some (.int .i64 t) ∧ wr.drew.cell? ⟨w1.heap.size, 3, none⟩ = some (.int .i64 cp) ∧ wr.drew.cell? ⟨w1.heap.size, 4, none⟩ = some (.int .i64 s) ∧ wr.drew.cell? ⟨w1.heap.size, 5, none⟩ = some (.slice Aq nl cq) ∧ wr.drew.cell? ⟨b, off + k, none⟩ = some (.slice Am r cm) from ⟨a0, a1, a2, a3, a4, a5, cm0⟩)
          have HS1 := Lib.hid (show ∀ oo, ((wr.alloc oo).drew.cell? ⟨w1.heap.size, 0, none⟩ = some (.int .i64 i) ∧ (wr.alloc oo).drew.cell? ⟨w1.heap.size, 1, none⟩ = some (.int .i64 f) ∧ (wr.alloc oo).drew.cell? ⟨w1.heap.size, 2, none⟩ = some (.int .i64 t) ∧ (wr.alloc oo).drew.cell? ⟨w1.heap.size, 3, none⟩ = some (.int .i64 cp) ∧ (wr.alloc oo).drew.cell? ⟨w1.heap.size, 4, none⟩ = some (.int .i64 s) ∧ (wr.alloc oo).drew.cell? ⟨w1.heap.size, 5, none⟩ = some (.slice Aq nl cq) ∧ (wr.alloc oo).drew.cell? ⟨b, off + k, none⟩ = some (.slice Am r cm)) from fun oo => ⟨(((Below.refl wr.heap.size wr).alloc (Nat.le_refl _) oo).drew.cell (p := ⟨w1.heap.size, 0, none⟩) LT1.out).trans a0, (((Below.refl wr.heap.size wr).alloc (Nat.le_refl _) oo).drew.cell (p := ⟨w1.heap.size, 1, none⟩) LT1.out).trans a1, (((Below.refl wr.heap.size wr).alloc (Nat.le_refl _) oo).drew.cell (p := ⟨w1.heap.size, 2, none⟩) LT1.out).trans a2, (((Below.refl wr.heap.size wr).alloc (Nat.le_refl _) oo).drew.cell (p := ⟨w1.heap.size, 3, none⟩) LT1.out).trans a3, (((Below.refl wr.heap.size wr).alloc (Nat.le_refl _) oo).drew.cell (p := ⟨w1.heap.size, 4, none⟩) LT1.out).trans a4, (((Below.refl wr.heap.size wr).alloc (Nat.le_refl _) oo).drew.cell (p := ⟨w1.heap.size, 5, none⟩) LT1.out).trans a5, (((Below.refl wr.heap.size wr).alloc (Nat.le_refl _) oo).drew.cell (p := ⟨b, off + k, none⟩) LTB.out).trans cm0⟩)
          have HRQa := Lib.hid (show Rms (wr.alloc (.cells #[.int .i64 0, .int .i64 0, .int .i64 0, .int .i64 0, .int .i64 0, .slice (none) 0 0] 26)).drew Aq qs from HQ.out.2.2.rows.below ((Below.refl wr.heap.size wr).alloc (Nat.le_refl _) (.cells #[.int .i64 0, .int .i64 0, .int .i64 0, .int .i64 0, .int .i64 0, .slice (none) 0 0] 26)).drew); have HRMa := Lib.hid (show Rd (wr.alloc (.cells #[.int .i64 0, .int .i64 0, .int .i64 0, .int .i64 0, .int .i64 0, .slice (none) 0 0] 26)).drew Am (bcs m) from HRM.out.alloc _)
          go_region_held3 (fun w' => w'.cell? ⟨w1.heap.size, 0, none⟩ = some (.int .i64 i) ∧ w'.cell? ⟨w1.heap.size, 1, none⟩ = some (.int .i64 f) ∧ w'.cell? ⟨w1.heap.size, 2, none⟩ = some (.int .i64 t) ∧ w'.cell? ⟨w1.heap.size, 3, none⟩ = some (.int .i64 cp) ∧ w'.cell? ⟨w1.heap.size, 4, none⟩ = some (.int .i64 s) ∧ w'.cell? ⟨w1.heap.size, 5, none⟩ = some (.slice Aq nl cq) ∧ w'.cell? ⟨b, off + k, none⟩ = some (.slice Am r cm))
            (with_reducible (first | exact HS0.out | exact HS1.out _ | exact HS2.out | exact HS3.out _ | exact HS4.out _ _ _ _ _ _ _ | exact HS4.out _ _ _ _ _ _))
            (first
              | ((with_reducible refine (HTP.out _ HRQ.out HRMd.out).mono ?_); rintro e w4 ⟨A5, c5, rfl, hq5, b4⟩; have B41 := Lib.hid (show Below wr.heap.size wr w4 from below_dr b4); have HQ5 := Lib.hid (show QAt wr.heap.size w4.heap.size w4 A5 c5 l2 from hq5); have HS2 := Lib.hid (show w4.cell? ⟨w1.heap.size, 0, none⟩ = some (.int .i64 i) ∧ w4.cell? ⟨w1.heap.size, 1, none⟩ = some (.int .i64 f) ∧ w4.cell? ⟨w1.heap.size, 2, none⟩ = some (.int .i64 t) ∧ w4.cell? ⟨w1.heap.size, 3, none⟩ = some (.int .i64 cp) ∧ w4.cell? ⟨w1.heap.size, 4, none⟩ = some (.int .i64 s) ∧ w4.cell? ⟨w1.heap.size, 5, none⟩ = some (.slice Aq nl cq) ∧ w4.cell? ⟨b, off + k, none⟩ = some (.slice Am r cm) from ⟨(B41.out.cell (p := ⟨w1.heap.size, 0, none⟩) LT1.out).trans a0, (B41.out.cell (p := ⟨w1.heap.size, 1, none⟩) LT1.out).trans a1, (B41.out.cell (p := ⟨w1.heap.size, 2, none⟩) LT1.out).trans a2, (B41.out.cell (p := ⟨w1.heap.size, 3, none⟩) LT1.out).trans a3, (B41.out.cell (p := ⟨w1.heap.size, 4, none⟩) LT1.out).trans a4, (B41.out.cell (p := ⟨w1.heap.size, 5, none⟩) LT1.out).trans a5, (B41.out.cell (p := ⟨b, off + k, none⟩) LTB.out).trans cm0⟩); have HS3 := Lib.hid (show ∀ oo, ((w4.alloc oo).cell? ⟨w1.heap.size, 0, none⟩ = some (.int .i64 i) ∧ (w4.alloc oo).cell? ⟨w1.heap.size, 1, none⟩ = some (.int .i64 f) ∧ (w4.alloc oo).cell? ⟨w1.heap.size, 2, none⟩ = some (.int .i64 t) ∧ (w4.alloc oo).cell? ⟨w1.heap.size, 3, none⟩ = some (.int .i64 cp) ∧ (w4.alloc oo).cell? ⟨w1.heap.size, 4, none⟩ = some (.int .i64 s) ∧ (w4.alloc oo).cell? ⟨w1.heap.size, 5, none⟩ = some (.slice Aq nl cq) ∧ (w4.alloc oo).cell? ⟨b, off + k, none⟩ = some (.slice Am r cm)) from fun oo => ⟨((B41.out.alloc B41.out.size oo).cell (p := ⟨w1.heap.size, 0, none⟩) LT1.out).trans a0, ((B41.out.alloc B41.out.size oo).cell (p := ⟨w1.heap.size, 1, none⟩) LT1.out).trans a1, ((B41.out.alloc B41.out.size oo).cell (p := ⟨w1.heap.size, 2, none⟩) LT1.out).trans a2, ((B41.out.alloc B41.out.size oo).cell (p := ⟨w1.heap.size, 3, none⟩) LT1.out).trans a3, ((B41.out.alloc B41.out.size oo).cell (p := ⟨w1.heap.size, 4, none⟩) LT1.out).trans a4, ((B41.out.alloc B41.out.size oo).cell (p := ⟨w1.heap.size, 5, none⟩) LT1.out).trans a5, ((B41.out.alloc B41.out.size oo).cell (p := ⟨b, off + k, none⟩) LTB.out).trans cm0⟩); have HS4 := Lib.hid (show ∀ (oo : Obj) (u0 u1 u2 u3 u4 u5 : Value), ((((((((w4.alloc oo).setCell ⟨w4.heap.size, 0, none⟩ (u0)).setCell ⟨w4.heap.size, 1, none⟩ (u1)).setCell ⟨w4.heap.size, 2, none⟩ (u2)).setCell ⟨w4.heap.size, 3, none⟩ (u3)).setCell ⟨w4.heap.size, 4, none⟩ (u4)).setCell ⟨w4.heap.size, 5, none⟩ (u5)).cell? ⟨w1.heap.size, 0, none⟩ = some (.int .i64 i) ∧ (((((((w4.alloc oo).setCell ⟨w4.heap.size, 0, none⟩ (u0)).setCell ⟨w4.heap.size, 1, none⟩ (u1)).setCell ⟨w4.heap.size, 2, none⟩ (u2)).setCell ⟨w4.heap.size, 3, none⟩ (u3)).setCell ⟨w4.heap.size, 4, none⟩ (u4)).setCell ⟨w4.heap.size, 5, none⟩ (u5)).cell? ⟨w1.heap.size, 1, none⟩ = some (.int .i64 f) ∧ (((((((w4.alloc oo).setCell ⟨w4.heap.size, 0, none⟩ (u0)).setCell ⟨w4.heap.size, 1, none⟩ (u1)).setCell ⟨w4.heap.size, 2, none⟩ (u2)).setCell ⟨w4.heap.size, 3, none⟩ (u3)).setCell ⟨w4.heap.size, 4, none⟩ (u4)).setCell ⟨w4.heap.size, 5, none⟩ (u5)).cell? ⟨w1.heap.size, 2, none⟩ = some (.int .i64 t) ∧ (((((((w4.alloc oo).setCell ⟨w4.heap.size, 0, none⟩ (u0)).setCell ⟨w4.heap.size, 1, none⟩ (u1)).setCell ⟨w4.heap.size, 2, none⟩ (u2)).setCell ⟨w4.heap.size, 3, none⟩ (u3)).setCell ⟨w4.heap.size, 4, none⟩ (u4)).setCell ⟨w4.heap.size, 5, none⟩ (u5)).cell? ⟨w1.heap.size, 3, none⟩ = some (.int .i64 cp) ∧ (((((((w4.alloc oo).setCell ⟨w4.heap.size, 0, none⟩ (u0)).setCell ⟨w4.heap.size, 1, none⟩ (u1)).setCell ⟨w4.heap.size, 2, none⟩ (u2)).setCell ⟨w4.heap.size, 3, none⟩ (u3)).setCell ⟨w4.heap.size, 4, none⟩ (u4)).setCell ⟨w4.heap.size, 5, none⟩ (u5)).cell? ⟨w1.heap.size, 4, none⟩ = some (.int .i64 s) ∧ (((((((w4.alloc oo).setCell ⟨w4.heap.size, 0, none⟩ (u0)).setCell ⟨w4.heap.size, 1, none⟩ (u1)).setCell ⟨w4.heap.size, 2, none⟩ (u2)).setCell ⟨w4.heap.size, 3, none⟩ (u3)).setCell ⟨w4.heap.size, 4, none⟩ (u4)).setCell ⟨w4.heap.size, 5, none⟩ (u5)).cell? ⟨w1.heap.size, 5, none⟩ = some (.slice Aq nl cq) ∧ (((((((w4.alloc oo).setCell ⟨w4.heap.size, 0, none⟩ (u0)).setCell ⟨w4.heap.size, 1, none⟩ (u1)).setCell ⟨w4.heap.size, 2, none⟩ (u2)).setCell ⟨w4.heap.size, 3, none⟩ (u3)).setCell ⟨w4.heap.size, 4, none⟩ (u4)).setCell ⟨w4.heap.size, 5, none⟩ (u5)).cell? ⟨b, off + k, none⟩ = some (.slice Am r cm)) from fun oo u0 u1 u2 u3 u4 u5 => ⟨((q_below (B41.out.alloc B41.out.size oo) B41.out.size u0 u1 u2 u3 u4 u5).cell (p := ⟨w1.heap.size, 0, none⟩) LT1.out).trans a0, ((q_below (B41.out.alloc B41.out.size oo) B41.out.size u0 u1 u2 u3 u4 u5).cell (p := ⟨w1.heap.size, 1, none⟩) LT1.out).trans a1, ((q_below (B41.out.alloc B41.out.size oo) B41.out.size u0 u1 u2 u3 u4 u5).cell (p := ⟨w1.heap.size, 2, none⟩) LT1.out).trans a2, ((q_below (B41.out.alloc B41.out.size oo) B41.out.size u0 u1 u2 u3 u4 u5).cell (p := ⟨w1.heap.size, 3, none⟩) LT1.out).trans a3, ((q_below (B41.out.alloc B41.out.size oo) B41.out.size u0 u1 u2 u3 u4 u5).cell (p := ⟨w1.heap.size, 4, none⟩) LT1.out).trans a4, ((q_below (B41.out.alloc B41.out.size oo) B41.out.size u0 u1 u2 u3 u4 u5).cell (p := ⟨w1.heap.size, 5, none⟩) LT1.out).trans a5, ((q_below (B41.out.alloc B41.out.size oo) B41.out.size u0 u1 u2 u3 u4 u5).cell (p := ⟨b, off + k, none⟩) LTB.out).trans cm0⟩); have N9 := Lib.hid (blk_new w4 #[.int .i64 0, .int .i64 0, .int .i64 0, .int .i64 0, .int .i64 0, .slice (none) 0 0] 26); have n0 := blk_cell N9.out 0; have nf0 := blk_frozen N9.out 0; have n1 := blk_cell N9.out 1; have nf1 := blk_frozen N9.out 1; have n2 := blk_cell N9.out 2; have nf2 := blk_frozen N9.out 2; have n3 := blk_cell N9.out 3; have nf3 := blk_frozen N9.out 3; have n4 := blk_cell N9.out 4; have nf4 := blk_frozen N9.out 4; have n5 := blk_cell N9.out 5; have nf5 := blk_frozen N9.out 5; clear b4 hq5)
              | ((with_reducible refine (HTP.out _ HRQa.out HRMa.out).mono ?_); rintro e w4 ⟨A5, c5, rfl, hq5, b4⟩; have B42 := Lib.hid (show Below (wr.heap.size + 1) (wr.alloc (.cells #[.int .i64 0, .int .i64 0, .int .i64 0, .int .i64 0, .int .i64 0, .slice (none) 0 0] 26)) w4 from below_dr2 b4); have B42w := Lib.hid (((Below.refl wr.heap.size wr).alloc (Nat.le_refl _) (.cells #[.int .i64 0, .int .i64 0, .int .i64 0, .int .i64 0, .int .i64 0, .slice (none) 0 0] 26)).trans (B42.out.mono (Nat.le_succ _))); have HQ5 := Lib.hid (show QAt (wr.heap.size + 1) w4.heap.size w4 A5 c5 l2 from qat_dr hq5); have HS2 := Lib.hid (show w4.cell? ⟨w1.heap.size, 0, none⟩ = some (.int .i64 i) ∧ w4.cell? ⟨w1.heap.size, 1, none⟩ = some (.int .i64 f) ∧ w4.cell? ⟨w1.heap.size, 2, none⟩ = some (.int .i64 t) ∧ w4.cell? ⟨w1.heap.size, 3, none⟩ = some (.int .i64 cp) ∧ w4.cell? ⟨w1.heap.size, 4, none⟩ = some (.int .i64 s) ∧ w4.cell? ⟨w1.heap.size, 5, none⟩ = some (.slice Aq nl cq) ∧ w4.cell? ⟨b, off + k, none⟩ = some (.slice Am r cm) from ⟨(B42w.out.cell (p := ⟨w1.heap.size, 0, none⟩) LT1.out).trans a0, (B42w.out.cell (p := ⟨w1.heap.size, 1, none⟩) LT1.out).trans a1, (B42w.out.cell (p := ⟨w1.heap.size, 2, none⟩) LT1.out).trans a2, (B42w.out.cell (p := ⟨w1.heap.size, 3, none⟩) LT1.out).trans a3, (B42w.out.cell (p := ⟨w1.heap.size, 4, none⟩) LT1.out).trans a4, (B42w.out.cell (p := ⟨w1.heap.size, 5, none⟩) LT1.out).trans a5, (B42w.out.cell (p := ⟨b, off + k, none⟩) LTB.out).trans cm0⟩); have HS4 := Lib.hid (show ∀ (u0 u1 u2 u3 u4 u5 : Value), (((((((w4.setCell ⟨wr.heap.size, 0, none⟩ (u0)).setCell ⟨wr.heap.size, 1, none⟩ (u1)).setCell ⟨wr.heap.size, 2, none⟩ (u2)).setCell ⟨wr.heap.size, 3, none⟩ (u3)).setCell ⟨wr.heap.size, 4, none⟩ (u4)).setCell ⟨wr.heap.size, 5, none⟩ (u5)).cell? ⟨w1.heap.size, 0, none⟩ = some (.int .i64 i) ∧ ((((((w4.setCell ⟨wr.heap.size, 0, none⟩ (u0)).setCell ⟨wr.heap.size, 1, none⟩ (u1)).setCell ⟨wr.heap.size, 2, none⟩ (u2)).setCell ⟨wr.heap.size, 3, none⟩ (u3)).setCell ⟨wr.heap.size, 4, none⟩ (u4)).setCell ⟨wr.heap.size, 5, none⟩ (u5)).cell? ⟨w1.heap.size, 1, none⟩ = some (.int .i64 f) ∧ ((((((w4.setCell ⟨wr.heap.size, 0, none⟩ (u0)).setCell ⟨wr.heap.size, 1, none⟩ (u1)).setCell ⟨wr.heap.size, 2, none⟩ (u2)).setCell ⟨wr.heap.size, 3, none⟩ (u3)).setCell ⟨wr.heap.size, 4, none⟩ (u4)).setCell ⟨wr.heap.size, 5, none⟩ (u5)).cell? ⟨w1.heap.size, 2, none⟩ = some (.int .i64 t) ∧ ((((((w4.setCell ⟨wr.heap.size, 0, none⟩ (u0)).setCell ⟨wr.heap.size, 1, none⟩ (u1)).setCell ⟨wr.heap.size, 2, none⟩ (u2)).setCell ⟨wr.heap.size, 3, none⟩ (u3)).setCell ⟨wr.heap.size, 4, none⟩ (u4)).setCell ⟨wr.heap.size, 5, none⟩ (u5)).cell? ⟨w1.heap.size, 3, none⟩ = some (.int .i64 cp) ∧ ((((((w4.setCell ⟨wr.heap.size, 0, none⟩ (u0)).setCell ⟨wr.heap.size, 1, none⟩ (u1)).setCell ⟨wr.heap.size, 2, none⟩ (u2)).setCell ⟨wr.heap.size, 3, none⟩ (u3)).setCell ⟨wr.heap.size, 4, none⟩ (u4)).setCell ⟨wr.heap.size, 5, none⟩ (u5)).cell? ⟨w1.heap.size, 4, none⟩ = some (.int .i64 s) ∧ ((((((w4.setCell ⟨wr.heap.size, 0, none⟩ (u0)).setCell ⟨wr.heap.size, 1, none⟩ (u1)).setCell ⟨wr.heap.size, 2, none⟩ (u2)).setCell ⟨wr.heap.size, 3, none⟩ (u3)).setCell ⟨wr.heap.size, 4, none⟩ (u4)).setCell ⟨wr.heap.size, 5, none⟩ (u5)).cell? ⟨w1.heap.size, 5, none⟩ = some (.slice Aq nl cq) ∧ ((((((w4.setCell ⟨wr.heap.size, 0, none⟩ (u0)).setCell ⟨wr.heap.size, 1, none⟩ (u1)).setCell ⟨wr.heap.size, 2, none⟩ (u2)).setCell ⟨wr.heap.size, 3, none⟩ (u3)).setCell ⟨wr.heap.size, 4, none⟩ (u4)).setCell ⟨wr.heap.size, 5, none⟩ (u5)).cell? ⟨b, off + k, none⟩ = some (.slice Am r cm)) from fun u0 u1 u2 u3 u4 u5 => ⟨((q_below B42w.out (Nat.le_refl _) u0 u1 u2 u3 u4 u5).cell (p := ⟨w1.heap.size, 0, none⟩) LT1.out).trans a0, ((q_below B42w.out (Nat.le_refl _) u0 u1 u2 u3 u4 u5).cell (p := ⟨w1.heap.size, 1, none⟩) LT1.out).trans a1, ((q_below B42w.out (Nat.le_refl _) u0 u1 u2 u3 u4 u5).cell (p := ⟨w1.heap.size, 2, none⟩) LT1.out).trans a2, ((q_below B42w.out (Nat.le_refl _) u0 u1 u2 u3 u4 u5).cell (p := ⟨w1.heap.size, 3, none⟩) LT1.out).trans a3, ((q_below B42w.out (Nat.le_refl _) u0 u1 u2 u3 u4 u5).cell (p := ⟨w1.heap.size, 4, none⟩) LT1.out).trans a4, ((q_below B42w.out (Nat.le_refl _) u0 u1 u2 u3 u4 u5).cell (p := ⟨w1.heap.size, 5, none⟩) LT1.out).trans a5, ((q_below B42w.out (Nat.le_refl _) u0 u1 u2 u3 u4 u5).cell (p := ⟨b, off + k, none⟩) LTB.out).trans cm0⟩); have N9 := Lib.hid (blk_below (blk_new wr #[.int .i64 0, .int .i64 0, .int .i64 0, .int .i64 0, .int .i64 0, .slice (none) 0 0] 26) B42.out (Nat.lt_succ_self _)); have n0 := blk_cell N9.out 0; have nf0 := blk_frozen N9.out 0; have n1 := blk_cell N9.out 1; have nf1 := blk_frozen N9.out 1; have n2 := blk_cell N9.out 2; have nf2 := blk_frozen N9.out 2; have n3 := blk_cell N9.out 3; have nf3 := blk_frozen N9.out 3; have n4 := blk_cell N9.out 4; have nf4 := blk_frozen N9.out 4; have n5 := blk_cell N9.out 5; have nf5 := blk_frozen N9.out 5; clear b4 hq5))
          all_goals first
            | (have q1 := B41.out; have B45 := ((Below.refl w4.heap.size w4).alloc (Nat.le_refl _) (.cells #[.int .i64 i, .int .i64 f, .int .i64 t, .int .i64 cp, .int .i64 s, .slice A5 k2 c5] 26)); have D5 := Lib.hid (q1.trans (B45.mono q1.size)); have HP9 := Lib.hid (blk_new w4 #[.int .i64 i, .int .i64 f, .int .i64 t, .int .i64 cp, .int .i64 s, .slice A5 k2 c5] 26); have HL9 := Lib.hid (show wr.heap.size ≤ w4.heap.size from q1.size); have HQ9 := Lib.hid (show QAt w.heap.size (w4.alloc (.cells #[.int .i64 i, .int .i64 f, .int .i64 t, .int .i64 cp, .int .i64 s, .slice A5 k2 c5] 26)).heap.size (w4.alloc (.cells #[.int .i64 i, .int .i64 f, .int .i64 t, .int .i64 cp, .int .i64 s, .slice A5 k2 c5] 26)) A5 c5 l2 from ⟨HQ5.out.1, HQ5.out.2.1, (HQ5.out.2.2.below B45 (Nat.le_refl _)).mono hz B45.size⟩); clear n0 nf0 n1 nf1 n2 nf2 n3 nf3 n4 nf4 n5 nf5 HS4 HS3 HS2 HS0 HS1 N9 B45 q1 B41 HQ5; generalize (w4.alloc (.cells #[.int .i64 i, .int .i64 f, .int .i64 t, .int .i64 cp, .int .i64 s, .slice A5 k2 c5] 26)) = w5 at *; generalize w4.heap.size = p9 at *)
            | (have q1 := B42w.out; have D5 := Lib.hid (q_below q1 (Nat.le_refl _) (.int .i64 i) (.int .i64 f) (.int .i64 t) (.int .i64 cp) (.int .i64 s) (.slice A5 k2 c5)); have HP9 := Lib.hid (q_set N9.out rfl (.int .i64 i) (.int .i64 f) (.int .i64 t) (.int .i64 cp) (.int .i64 s) (.slice A5 k2 c5)); have HL9 := Lib.hid (show wr.heap.size ≤ wr.heap.size from Nat.le_refl _); have HQ9 := Lib.hid (show QAt w.heap.size ((((((w4.setCell ⟨wr.heap.size, 0, none⟩ (.int .i64 i)).setCell ⟨wr.heap.size, 1, none⟩ (.int .i64 f)).setCell ⟨wr.heap.size, 2, none⟩ (.int .i64 t)).setCell ⟨wr.heap.size, 3, none⟩ (.int .i64 cp)).setCell ⟨wr.heap.size, 4, none⟩ (.int .i64 s)).setCell ⟨wr.heap.size, 5, none⟩ (.slice A5 k2 c5)).heap.size ((((((w4.setCell ⟨wr.heap.size, 0, none⟩ (.int .i64 i)).setCell ⟨wr.heap.size, 1, none⟩ (.int .i64 f)).setCell ⟨wr.heap.size, 2, none⟩ (.int .i64 t)).setCell ⟨wr.heap.size, 3, none⟩ (.int .i64 cp)).setCell ⟨wr.heap.size, 4, none⟩ (.int .i64 s)).setCell ⟨wr.heap.size, 5, none⟩ (.slice A5 k2 c5)) A5 c5 l2 from ⟨HQ5.out.1, HQ5.out.2.1, (own2_far6 HQ5.out.2.2 N9.out (.int .i64 i) (.int .i64 f) (.int .i64 t) (.int .i64 cp) (.int .i64 s) (.slice A5 k2 c5)).mono (Nat.le_succ_of_le hz) (by rw [size6]; exact Nat.le_refl _)⟩); clear n0 nf0 n1 nf1 n2 nf2 n3 nf3 n4 nf4 n5 nf5 HS4 HS2 HS0 HS1 N9 q1 B42w B42 HQ5; generalize ((((((w4.setCell ⟨wr.heap.size, 0, none⟩ (.int .i64 i)).setCell ⟨wr.heap.size, 1, none⟩ (.int .i64 f)).setCell ⟨wr.heap.size, 2, none⟩ (.int .i64 t)).setCell ⟨wr.heap.size, 3, none⟩ (.int .i64 cp)).setCell ⟨wr.heap.size, 4, none⟩ (.int .i64 s)).setCell ⟨wr.heap.size, 5, none⟩ (.slice A5 k2 c5)) = w5 at *; obtain ⟨p9, hp9⟩ : ∃ p, wr.heap.size = p := ⟨_, rfl⟩; rw [hp9] at HP9 ⊢; have HL9 := Lib.hid (show wr.heap.size ≤ p9 from Nat.le_of_eq hp9); clear hp9)
          all_goals (
            have d4 : w5.cell? ⟨w.heap.size, 4, none⟩ = some (.int .i64 s) := blk_cell (blk_below HP0.out D5.out (blk_lt HP0.out)) 4
            have cm5 : w5.cell? ⟨b, off + k, none⟩ = some (.slice Am r cm) := (D5.out.cell (p := ⟨b, off + k, none⟩) LTB.out).trans cm0
            have x4 : ∀ x : Ext w5.heap.size w5, x.world.cell? ⟨w.heap.size, 4, none⟩ = some (.int .i64 s) := fun x => (x.cell _ _ (World.block_lt_of_cell? w5 _ d4)).trans d4
            have xm : ∀ x : Ext w5.heap.size w5, x.world.cell? ⟨b, off + k, none⟩ = some (.slice Am r cm) := fun x => (x.cell _ _ (World.block_lt_of_cell? w5 _ cm5)).trans cm5
            clear d4 cm5
            go_wp2_with fail
            refine region_ext (by kernel_rfl) (by kernel_rfl) ?_
            try simp only [List.append_eq, List.cons_append, List.nil_append]
            repeat (go_big_quiet_step (fail))
            refine wpQuiet_nil ?_
            intro v
            have B56 := Lib.hid v.below
            clear x4 xm
            generalize v.world = w6 at *
            have D6 := Lib.hid (D5.out.trans (B56.out.mono D5.out.size)))
          all_goals (
            have P9 := Lib.hid (blk_below HP9.out B56.out (blk_lt HP9.out))
            have P16 := Lib.hid (blk_below HP1.out D6.out (blk_lt HP1.out))
            have e0 := blk_cell P9.out 0
            have e1 := blk_cell P9.out 1
            have e2 := blk_cell P9.out 2
            have e3 := blk_cell P9.out 3
            have e4 := blk_cell P9.out 4
            have e5 := blk_cell P9.out 5
            go_wp2_with (refine wpList_store_at rfl 26 (.tmp 5) (.tmp 67) rfl w1.heap.size #[.int .i64 i, .int .i64 f, .int .i64 t, .int .i64 cp, .int .i64 s, .slice A5 k2 c5] rfl rfl 26 _ P16.out info_q6 rfl (by simp [Value.oneCell']) ?_)
            intro w7 hw7
            have HB7 := Lib.hid (below_row (HB.out.trans (D6.out.mono HB.out.size)) (show w.heap.size ≤ w1.heap.size by omega) #[.int .i64 i, .int .i64 f, .int .i64 t, .int .i64 cp, .int .i64 s, .slice A5 k2 c5])
            have HP17 := Lib.hid (blk_row P16.out #[.int .i64 i, .int .i64 f, .int .i64 t, .int .i64 cp, .int .i64 s, .slice A5 k2 c5])
            have HO7 := Lib.hid (Own2.row (HQ9.out.2.2.below B56.out (Nat.le_refl _)) P16.out (by decide) (by decide) #[.int .i64 i, .int .i64 f, .int .i64 t, .int .i64 cp, .int .i64 s, .slice A5 k2 c5])
            have HZ7 := Lib.hid (size_row w6 w1.heap.size #[.int .i64 i, .int .i64 f, .int .i64 t, .int .i64 cp, .int .i64 s, .slice A5 k2 c5])
            have HW7 := Lib.hid ((HWIN.out.below D6.out).row P16.out (by decide) #[.int .i64 i, .int .i64 f, .int .i64 t, .int .i64 cp, .int .i64 s, .slice A5 k2 c5])
            have HP07 := Lib.hid (blk_row_ne (blk_below HP0.out D6.out (blk_lt HP0.out)) (show w.heap.size ≠ w1.heap.size by omega) #[.int .i64 i, .int .i64 f, .int .i64 t, .int .i64 cp, .int .i64 s, .slice A5 k2 c5])
            clear e0 e1 e2 e3 e4 e5
            rw [← hw7.out] at HB7 HP17 HO7 HZ7 HW7 HP07
            clear hw7
            have c7 := (HB7.out.cell (p := ⟨b, off + k, none⟩) LTW.out).trans HCW.out
            have s7 := str_rd m Am r cm HR.out w7 (HRW.out.below HB7.out)
            obtain ⟨Sm, hSm⟩ : ∃ S, ByteArray.mk m.toArray = S := ⟨_, rfl⟩
            rw [hSm] at s7
            have HSM := Lib.hid hSm
            have CN := Lib.hid (blk_cell (blk_new w7 #[.string Sm] 9) 0)
            have HSL := Lib.hid (show (strs qs).length = nl by rw [strs_length, HNL.out])
            have HBA := Lib.hid ((Below.refl w7.heap.size w7).alloc (Nat.le_refl _) (.cells #[.string Sm] 9))
            have Z6 := Lib.hid (show w.heap.size ≤ (w7.alloc (.cells #[.string Sm] 9)).heap.size from Nat.le_trans HB7.out.size HBA.out.size)
            clear hSm
            go_wp2_with (at_builtin; refine wpList_append_win rfl (.tmp 68) (.tmp 74) 44 rfl i0 (.string ⟨#[]⟩) Try.underlying44 hi hz0 hz1 hz2 rfl w.heap.size nl cw Aw (strs qs) rfl HSL.out (HW7.out.below HBA.out) (by omega) w7.heap.size 0 1 (.string Sm) rfl CN.out rfl Z6.out ?_)
            intro A8 c8 w8 hwin8 hb8 hk8
            have P18 := Lib.hid (hk8.2 _ _ _ (by decide) (blk_alloc HP17.out _))
            have P08 := Lib.hid (hk8.2 _ _ _ (by decide) (blk_alloc HP07.out _))
            have O8 := Lib.hid ((Own2.kept (HO7.out.below HBA.out (by rw [HZ7.out]; exact B56.out.size)) hk8).mono (Nat.le_refl _) (Nat.le_trans B56.out.size (Nat.le_trans (by rw [← HZ7.out]; exact HBA.out.size) hk8.1)))
            have B8 := Lib.hid ((HB7.out.alloc HB7.out.size _).trans hb8)
            have d3 : w8.cell? ⟨w.heap.size, 3, none⟩ = some (.int .i64 cp) := blk_cell P08.out 3
            have HW8 := Lib.hid (show Win w.heap.size w8 A8 c8 (strs qs ++ [.string ⟨m.toArray⟩]) by rw [HSM.out]; exact hwin8)
            clear hwin8 hb8 hk8 c7 s7
            by_cases hfull : cp < (nl : Int) + 1
            · obtain ⟨x8, hx8⟩ := room_full (x := ⟨i, f, t, cp, s⟩) (ls := qs) (m := m) (show (qs.length : Int) = cp by rw [HNL.out]; omega) hcp1
              have hw8 := HW8.out
              rw [hx8, HL2.out] at hw8
              obtain ⟨g8, o8, rfl, _⟩ := hw8.at
              have hle8 := hw8.le
              rw [List.length_cons, strs_length, HK2.out] at hle8
              have hk20 : 1 ≤ k2 := by rw [← HK2.out, ← HL2.out]; simp
              have hk2n : k2 = nl := by
                have h := congrArg List.length hx8
                rw [HL2.out] at h
                simp [strs_length, HK2.out, HNL.out] at h
                omega
              obtain ⟨c9, rfl⟩ : ∃ c9, c8 = c9 + 2 := ⟨c8 - 2, by omega⟩
              have HW9 := Lib.hid hw8.cut
              have HK3 := Lib.hid (show l2.length = nl by rw [HK2.out, hk2n])
              clear hw8 hx8 hle8 hk2n
              go_wp2_with fail
              go_roundw
              case rel => exact ⟨k + 1, by omega, by go_num, l2, A5, c5, some ⟨g8, o8 + 1, none⟩, c9 + 1, by rw [HK3.out], by rw [HK2.out]; exact P18.out, ⟨HQ9.out.1, HQ9.out.2.1, O8.out⟩, HMQ2.out, HW9.out, P08.out, B8.out⟩
              case measure => simp [intOf]; omega
            · have hw8 := HW8.out
              have e2 : qs ++ [m] = l2 := by rw [← HL2.out, room_not (x := ⟨i, f, t, cp, s⟩) (ls := qs) (show ¬ (qs.length : Int) = cp by rw [HNL.out]; omega)]
              rw [← strs_snoc, e2] at hw8
              have HW9 := Lib.hid hw8
              have HK3 := Lib.hid (show l2.length = nl + 1 by rw [← e2]; simp [HNL.out])
              clear hw8 e2
              go_wp2_with fail
              go_roundw
              case rel => exact ⟨k + 1, by omega, by go_num, l2, A5, c5, A8, c8, by rw [HK3.out], by rw [HK2.out]; exact P18.out, ⟨HQ9.out.1, HQ9.out.2.1, O8.out⟩, HMQ2.out, HW9.out, P08.out, B8.out⟩
              case measure => simp [intOf]; omega)
      · have hri0 : ¬ (0 : Int) < (r : Int) := by omega
        have a0 := blk_cell HP1.out 0
        have a1 := blk_cell HP1.out 1
        have a2 := blk_cell HP1.out 2
        have a3 := blk_cell HP1.out 3
        have a4 := blk_cell HP1.out 4
        have a5 := blk_cell HP1.out 5
        have HRQ := Lib.hid (HQ.out.2.2.rows)
        rcases qs with _ | ⟨a, tl⟩
        · obtain rfl : nl = 0 := by have h := HNL.out; simpa using h.symm
          have TT := fun (W : World) (g1 : Rms W Aq []) => take_to (x := ⟨i, f, t, cp, s⟩) (ls := []) (show takeR ⟨i, f, t, cp, s⟩ [] = ([], ch0, [], 100) by unfold takeR; rw [if_pos HMQ.out]) Aq cq (by simp) W g1
          simp only [qcells, ch0, List.length_nil] at TT
          have HTT := Lib.hid TT
          clear TT
          go_wp2_with fail
          refine (HTT.out _ HRQ.out).mono ?_
          rintro e w4 ⟨u4', A5, c5, rfl, hm4, hq5, b4⟩
          obtain ⟨A4, c4, rfl, _⟩ := hm4
          have D5 := Lib.hid (b4.alloc b4.size (.cells #[.int .i64 0, .int .i64 0, .int .i64 0, .int .i64 0, .int .i64 0, .slice A5 0 c5] 26))
          clear b4 hq5 a0 a1 a2 a3 a4 a5
          go_wp2_with fail
          go_roundw
          case rel => exact ⟨k + 1, by omega, by go_num, [], HO.out.below D5.out⟩
          case measure => simp [intOf]; omega
        · obtain ⟨k2, hk2⟩ : ∃ k2, tl.length = k2 := ⟨_, rfl⟩
          obtain rfl : nl = k2 + 1 := by have h := HNL.out; rw [List.length_cons, hk2] at h; exact h.symm
          obtain ⟨ra, hra⟩ : ∃ ra, a.length = ra := ⟨_, rfl⟩
          have HRA := Lib.hid hra; have HK2 := Lib.hid hk2
          have HMT := Lib.hid (may_tl HMQ.out)
          have TT := fun (W : World) (g1 : Rms W Aq (a :: tl)) => take_to (x := ⟨i, f, t, cp, s⟩) (ls := a :: tl) (show takeR ⟨i, f, t, cp, s⟩ (a :: tl) = (a, ⟨i, f, t, cp, s⟩, tl, 0) by unfold takeR; rw [if_pos HMQ.out]) Aq cq (by rw [HNL.out]; omega) W g1
          simp only [qcells, HNL.out, hk2] at TT
          have HTT := Lib.hid TT
          have hw0 : Win w.heap.size wr Aw cw (.string ⟨a.toArray⟩ :: strs tl) := HWIN.out
          obtain ⟨gw, ow, rfl, hcw0⟩ := hw0.at
          obtain ⟨Sa, hSa⟩ : ∃ S, ByteArray.mk a.toArray = S := ⟨_, rfl⟩
          rw [hSa] at hcw0
          have HSA := Lib.hid hSa; have HCW0 := Lib.hid hcw0; have HW0 := Lib.hid hw0
          clear TT hk2 hra hSa hcw0 hw0
          go_wp2_with fail
          refine (HTT.out _ HRQ.out).mono ?_
          rintro e w4 ⟨u4', A5, c5, rfl, hm4, hq5, b4⟩
          obtain ⟨A4, c4, rfl, _, _, _, hrw4⟩ := hm4
          rw [HRA.out]
          have z4 := b4.size
          have B45 := (Below.refl w4.heap.size w4).alloc (Nat.le_refl _) (.cells #[.int .i64 i, .int .i64 f, .int .i64 t, .int .i64 cp, .int .i64 s, .slice A5 k2 c5] 26)
          have D5 := Lib.hid (b4.alloc z4 (.cells #[.int .i64 i, .int .i64 f, .int .i64 t, .int .i64 cp, .int .i64 s, .slice A5 k2 c5] 26))
          have N5 := Lib.hid (blk_new w4 #[.int .i64 i, .int .i64 f, .int .i64 t, .int .i64 cp, .int .i64 s, .slice A5 k2 c5] 26)
          have HQ5 := Lib.hid (show QAt w.heap.size (w4.alloc (.cells #[.int .i64 i, .int .i64 f, .int .i64 t, .int .i64 cp, .int .i64 s, .slice A5 k2 c5] 26)).heap.size (w4.alloc (.cells #[.int .i64 i, .int .i64 f, .int .i64 t, .int .i64 cp, .int .i64 s, .slice A5 k2 c5] 26)) A5 c5 tl from ⟨hq5.1, hq5.2.1, (hq5.2.2.below B45 (Nat.le_refl _)).mono hz B45.size⟩)
          have RD5 := Lib.hid (hrw4.rd.below B45)
          clear b4 hq5 hrw4 B45 z4 a0 a1 a2 a3 a4 a5
          go_wp2_with fail
          generalize (w4.alloc (.cells #[.int .i64 i, .int .i64 f, .int .i64 t, .int .i64 cp, .int .i64 s, .slice A5 k2 c5] 26)) = w5 at *
          have cw5 := (D5.out.cell (p := ⟨gw, ow, none⟩) (World.block_lt_of_cell? wr _ HCW0.out)).trans HCW0.out
          have xw : ∀ x : Ext w5.heap.size w5, x.world.cell? ⟨gw, ow, none⟩ = some (.string Sa) := fun x => (x.cell _ _ (World.block_lt_of_cell? w5 _ cw5)).trans cw5
          have xs : ∀ x : Ext w5.heap.size w5, Sem.run Try.prog (convert 27 9 (.slice A4 ra c4)) x.world = .ok (.string Sa) x.world := fun x => by
            rw [← HSA.out]; exact str_rd a A4 ra c4 HRA.out _ (RD5.out.below x.below)
          clear cw5
          refine region_ext (by kernel_rfl) (by kernel_rfl) ?_
          try simp only [List.append_eq, List.cons_append, List.nil_append]
          repeat (go_big_quiet_step (fail))
          refine wpQuiet_nil ?_
          intro v
          have B56 := Lib.hid v.below
          clear xw xs
          generalize v.world = w6 at *
          have D6 := Lib.hid (D5.out.trans (B56.out.mono D5.out.size))
          have P9 := Lib.hid (blk_below N5.out B56.out (blk_lt N5.out))
          have P16 := Lib.hid (blk_below HP1.out D6.out (blk_lt HP1.out))
          have e0 := blk_cell P9.out 0
          have e1 := blk_cell P9.out 1
          have e2 := blk_cell P9.out 2
          have e3 := blk_cell P9.out 3
          have e4 := blk_cell P9.out 4
          have e5 := blk_cell P9.out 5
          by_cases hc1 : cw = 1
          · subst hc1
            obtain rfl : k2 = 0 := by omega
            have HC := Lib.hid (Win.cut1 HW0.out)
            go_wp2_with (refine wpList_store_at rfl 26 (.tmp 5) (.tmp 106) rfl w1.heap.size #[.int .i64 i, .int .i64 f, .int .i64 t, .int .i64 cp, .int .i64 s, .slice A5 0 c5] rfl rfl 26 _ P16.out info_q6 rfl (by simp [Value.oneCell']) ?_)
            intro w7 hw7
            have HB7 := Lib.hid (below_row (HB.out.trans (D6.out.mono HB.out.size)) (show w.heap.size ≤ w1.heap.size by omega) #[.int .i64 i, .int .i64 f, .int .i64 t, .int .i64 cp, .int .i64 s, .slice A5 0 c5])
            have HP17 := Lib.hid (blk_row P16.out #[.int .i64 i, .int .i64 f, .int .i64 t, .int .i64 cp, .int .i64 s, .slice A5 0 c5])
            have HO7 := Lib.hid (show QAt w.heap.size (w6.setRow w1.heap.size #[.int .i64 i, .int .i64 f, .int .i64 t, .int .i64 cp, .int .i64 s, .slice A5 0 c5]).heap.size (w6.setRow w1.heap.size #[.int .i64 i, .int .i64 f, .int .i64 t, .int .i64 cp, .int .i64 s, .slice A5 0 c5]) A5 c5 tl from ⟨HQ5.out.1, HQ5.out.2.1, (Own2.row (HQ5.out.2.2.below B56.out (Nat.le_refl _)) P16.out (by decide) (by decide) #[.int .i64 i, .int .i64 f, .int .i64 t, .int .i64 cp, .int .i64 s, .slice A5 0 c5]).mono (Nat.le_refl _) (by rw [size_row]; exact B56.out.size)⟩)
            have HW7 := Lib.hid ((HC.out.below D6.out).row P16.out (by decide) #[.int .i64 i, .int .i64 f, .int .i64 t, .int .i64 cp, .int .i64 s, .slice A5 0 c5])
            have HP07 := Lib.hid (blk_row_ne (blk_below HP0.out D6.out (blk_lt HP0.out)) (show w.heap.size ≠ w1.heap.size by omega) #[.int .i64 i, .int .i64 f, .int .i64 t, .int .i64 cp, .int .i64 s, .slice A5 0 c5])
            rw [← hw7.out] at HB7 HP17 HO7 HW7 HP07
            clear hw7
            go_wp2_with fail
            go_roundw
            case rel => exact ⟨k + 1, by omega, by go_num, tl, A5, c5, some ⟨gw, ow, none⟩, 0, by rw [HK2.out], by rw [HK2.out]; exact HP17.out, HO7.out, HMT.out, HW7.out, HP07.out, HB7.out⟩
            case measure => simp [intOf]; omega
          · obtain ⟨c9, rfl⟩ : ∃ c9, cw = c9 + 2 := ⟨cw - 2, by omega⟩
            have HC := Lib.hid (Win.cut (c := c9 + 1) HW0.out)
            go_wp2_with (refine wpList_store_at rfl 26 (.tmp 5) (.tmp 106) rfl w1.heap.size #[.int .i64 i, .int .i64 f, .int .i64 t, .int .i64 cp, .int .i64 s, .slice A5 k2 c5] rfl rfl 26 _ P16.out info_q6 rfl (by simp [Value.oneCell']) ?_)
            intro w7 hw7
            have HB7 := Lib.hid (below_row (HB.out.trans (D6.out.mono HB.out.size)) (show w.heap.size ≤ w1.heap.size by omega) #[.int .i64 i, .int .i64 f, .int .i64 t, .int .i64 cp, .int .i64 s, .slice A5 k2 c5])
            have HP17 := Lib.hid (blk_row P16.out #[.int .i64 i, .int .i64 f, .int .i64 t, .int .i64 cp, .int .i64 s, .slice A5 k2 c5])
            have HO7 := Lib.hid (show QAt w.heap.size (w6.setRow w1.heap.size #[.int .i64 i, .int .i64 f, .int .i64 t, .int .i64 cp, .int .i64 s, .slice A5 k2 c5]).heap.size (w6.setRow w1.heap.size #[.int .i64 i, .int .i64 f, .int .i64 t, .int .i64 cp, .int .i64 s, .slice A5 k2 c5]) A5 c5 tl from ⟨HQ5.out.1, HQ5.out.2.1, (Own2.row (HQ5.out.2.2.below B56.out (Nat.le_refl _)) P16.out (by decide) (by decide) #[.int .i64 i, .int .i64 f, .int .i64 t, .int .i64 cp, .int .i64 s, .slice A5 k2 c5]).mono (Nat.le_refl _) (by rw [size_row]; exact B56.out.size)⟩)
            have HW7 := Lib.hid ((HC.out.below D6.out).row P16.out (by decide) #[.int .i64 i, .int .i64 f, .int .i64 t, .int .i64 cp, .int .i64 s, .slice A5 k2 c5])
            have HP07 := Lib.hid (blk_row_ne (blk_below HP0.out D6.out (blk_lt HP0.out)) (show w.heap.size ≠ w1.heap.size by omega) #[.int .i64 i, .int .i64 f, .int .i64 t, .int .i64 cp, .int .i64 s, .slice A5 k2 c5])
            rw [← hw7.out] at HB7 HP17 HO7 HW7 HP07
            clear hw7
            go_wp2_with fail
            go_roundw
            case rel => exact ⟨k + 1, by omega, by go_num, tl, A5, c5, some ⟨gw, ow + 1, none⟩, c9 + 1, by rw [HK2.out], by rw [HK2.out]; exact HP17.out, HO7.out, HMT.out, HW7.out, HP07.out, HB7.out⟩
            case measure => simp [intOf]; omega
    · obtain rfl : k = n := by omega
      have TM := fun (W : World) (g1 : Rms W Aq qs) => mayQueue ⟨i, f, t, cp, s⟩ Aq cq qs (by rw [HNL.out]; omega) W g1
      simp only [qcells, HNL.out, HMQ.out] at TM
      have HTM := Lib.hid TM
      have a0 := blk_cell HP1.out 0
      have a1 := blk_cell HP1.out 1
      have a2 := blk_cell HP1.out 2
      have a3 := blk_cell HP1.out 3
      have a4 := blk_cell HP1.out 4
      have a5 := blk_cell HP1.out 5
      have HRQ := Lib.hid (HQ.out.2.2.rows)
      clear TM
      go_wp2_with fail
      refine (HTM.out _ HRQ.out).mono ?_
      rintro e w8 ⟨rfl, b8⟩
      have D8 := Lib.hid (HB.out.trans (b8.mono hz))
      clear b8
      go_wp2_with fail
      refine (HTW.out _).mono ?_
      rintro e w9 ⟨rfl, b9⟩
      have D9 := Lib.hid (D8.out.trans (b9.mono D8.out.size))
      clear b9
      go_wp2
      go_ret
      exact ⟨rfl, D9.out⟩
theorem order (x : Ch) (l : List Msg) (A : Option Addr) (c : Nat) (_hA : A = none → c = 0) (_hc : l.length ≤ c) (w : World) (h : Rms w A l) : Calls Try.prog 5 #[.agg x.cells.toArray, .slice A l.length c] w fun e w' => e = .returned (.bool true) ∧ Below w.heap.size w w' := by
  obtain ⟨i, f, t, cp, s⟩ := x
  show Calls Try.prog 5 #[.agg #[.int .i64 i, .int .i64 f, .int .i64 t, .int .i64 cp, .int .i64 s], .slice A l.length c] w _
  cases hq : mayC ⟨i, f, t, cp, s⟩ with
  | false => exact order_no i f t cp s A l.length c hq w
  | true =>
    by_cases h0 : (60 : Int) < (l.length : Int)
    · exact order_long i f t cp s A l.length c hq h0 w
    · exact order_main i f t cp s A l.length c l rfl hq (by omega) w h
end Go.Proofs.Ytlmecndldclnnaa.chan
