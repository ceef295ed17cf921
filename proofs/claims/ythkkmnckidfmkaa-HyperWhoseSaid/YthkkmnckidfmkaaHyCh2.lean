/- Channels: a message less; are two the same; no condition and what belongs to it. -/
import Derived.Test.YthkkmnckidfmkaaRows
import Derived.Test.YthkkmnckidfmkaaHyCh1
import Derived.RegionTactic
import Derived.BigRegion
import Derived.Deep.RegionHeld3
import Derived.Lib.SmallJoins
namespace Go.Proofs.Ythkkmnckidfmkaa.chan
open Go Go.ChangeShapes Go.WideShapes Go.ChangeAt Go.RowKit Go.Proofs.Ythkkmnckidfmkaa.rows
theorem put (x : Ch) (A : Option Addr) (c : Nat) (ls : List Msg) (hA : A = none → c = 0) (hc : ls.length ≤ c) (h63 : ls.length ≤ 1000000) (m : Msg) (Am : Option Addr) (cm : Nat) (hmA : Am = none → cm = 0) (hmc : m.length ≤ cm) (w : World) (h : Rms w A ls) (hm : Rd w Am (bcs m)) :
    Calls Try.prog 47 #[.agg (qcells x A ls.length c), .slice Am m.length cm] w (QOut (putR x ls m) w) := by
  obtain ⟨i, f, t, cp, s⟩ := x
  cases hq : mayQ ⟨i, f, t, cp, s⟩ ls with
  | false => exact put_arg i f t cp s A ls.length c ls rfl m Am m.length cm rfl h63 hq w h
  | true =>
    by_cases hl : s < (m.length : Int)
    · exact put_long i f t cp s A ls.length c ls rfl m Am m.length cm rfl h63 hq hl w h
    · have hy := mayQ_yes hq
      have hmay := mayC_iff.1 hy.1
      have hlen := hy.2.1
      simp only at hmay hlen
      by_cases hn : ls.length = 0
      · rcases A with _ | ad
        · obtain rfl := hA rfl
          rw [hn]
          exact put_e0 i f t cp s ls hn m Am m.length cm rfl hmA hmc hq (by omega) (by omega) w h hm
        · rw [hn]
          exact put_e1 i f t cp s ad c ls hn m Am m.length cm rfl hmA hmc hq (by omega) (by omega) w h hm
      · obtain ⟨b, off, rfl⟩ := h.addr (by omega)
        by_cases hlt : (ls.length : Int) < cp
        · exact put_lt i f t cp s b off ls.length c hn hc ls rfl m Am m.length cm rfl hmA hmc hq (by omega) hlt w h hm
        · by_cases h1 : ls.length = 1
          · rw [h1]
            exact put_one i f t cp s b off c (by omega) ls h1 m Am m.length cm rfl hmA hmc hq (by omega) (by omega) w h hm
          · obtain ⟨k, hk⟩ : ∃ k, ls.length = k + 2 := ⟨ls.length - 2, by omega⟩
            rw [hk]
            exact put_full i f t cp s b off k c (by omega) ls hk m Am m.length cm rfl hmA hmc hq (by omega) (by omega) w h hm
/-! ### Take -/
theorem results_tmp_cell_tmp {fn : Func} {u p v : Tmp} {ty : TypeId} (h : fn.results = #[.tmp u, .cell p ty, .tmp v]) (tmps : Array Value) (P : Program) (w : World) :
    (results fn tmps).run P w =
      ((asAddr (tmps.getD p undef)).run P w).andThen fun a w₁ => ((loadVar ty a).run P w₁).andThen fun x w₂ => .ok (.tuple #[tmps.getD u undef, x, tmps.getD v undef]) w₂ := by
  simp only [results, h]
  simp [Sem.run_bind, Result.andThen]
theorem ret_tmp_row_tmp {P : Program} {fn : Func} {R : Ending → World → Prop} {a : Act} {w : World} {u0 p u : Tmp} {ty : TypeId} (h : fn.results = #[.tmp u0, .cell p ty, .tmp u]) (g : Nat) (t : TypeId) (cs : Array Value) (d : TypeDesc)
    (hp : a.tmps.getD p undef = .pointer (some ⟨g, 0, none⟩)) (hg : w.heap[g]? = some (.cells cs t (0, 0)))
    (hu : P.underlying ty = some d) (hd : (match d with | .struct _ | .array _ _ => true | _ => false) = true) (hi : (P.info? ty).map (·.size) = some cs.size)
    (hdef : a.defers = []) (hR : R (.returned (.tuple #[a.tmps.getD u0 undef, .agg cs, a.tmps.getD u undef])) w) : bodyPost P fn R .ret a w := by
  refine bodyPost_ret (v := .tuple #[a.tmps.getD u0 undef, .agg cs, a.tmps.getD u undef]) ?_ hdef hR
  rw [results_tmp_cell_tmp h, hp]
  simp [asAddr, run_loadVar_row w g t ty cs (0, 0) d hg hu hd hi, Result.andThen]
def takeR (x : Ch) (ls : List Msg) : Msg × Ch × List Msg × Int :=
  if mayQ x ls = true then (match ls with | [] => ([], ch0, [], 100) | m :: r => (m, x, r, 0)) else ([], ch0, [], 2)
/-- A message, a queue and an error's number, as they are told. -/
def TOut (r : Msg × Ch × List Msg × Int) (w : World) (e : Ending) (w' : World) : Prop :=
  ∃ u A c, e = .returned (.tuple #[u, .agg (qcells r.2.1 A r.2.2.1.length c), .int .i64 r.2.2.2]) ∧ MsgAt w.heap.size w'.heap.size w' u r.1 ∧ QAt w.heap.size w'.heap.size w' A c r.2.2.1 ∧ Below w.heap.size w w'
theorem MsgAt.nil {lo hi : Nat} {w : World} : MsgAt lo hi w (.slice none 0 0) [] := ⟨none, 0, rfl, Nat.le_refl _, fun _ => rfl, .inr rfl, RowIn.nil⟩
theorem TOut.none {r : Msg × Ch × List Msg × Int} {E : Int} (hr : r = ([], ch0, [], E)) {w w' : World} (h : Below w.heap.size w w') : TOut r w (.returned (.tuple #[.slice Option.none 0 0, .agg (qcells ⟨0, 0, 0, 0, 0⟩ none 0 0), .int .i64 E])) w' := by
  subst hr; exact ⟨_, Option.none, 0, rfl, MsgAt.nil, QAt.nil, h⟩
theorem size_drew' (w : World) : w.drew.heap.size = w.heap.size := rfl
theorem msg_drew {lo hi : Nat} {w : World} {v : Value} {l : Msg} (h : MsgAt lo hi w v l) : MsgAt lo hi w.drew v l := h
theorem own2_drew {lo hi : Nat} {w : World} {A : Option Addr} {ls : List Msg} (h : Own2 lo hi w A ls) : Own2 lo hi w.drew A ls := h
theorem msg_far {U : TypeId} {lo hi : Nat} {w : World} {v : Value} {l : Msg} (h : MsgAt lo hi w v l) {g k : Nat} {cs : Array Value} (hg : w.heap[g]? = some (.cells cs U (0, 0))) (h2 : 5 ≠ U) (u : Value) : MsgAt lo hi (w.setCell ⟨g, k, none⟩ u) v l := by
  obtain ⟨A', c, k1, k2, k3, k4, k5⟩ := h
  exact ⟨A', c, k1, k2, k3, k4, k5.far hg h2 u⟩
theorem msg_far6 {lo hi : Nat} {w : World} {v : Value} {l : Msg} (h : MsgAt lo hi w v l) {g : Nat} {cs : Array Value} (hg : w.heap[g]? = some (.cells cs 36 (0, 0))) (u0 u1 u2 u3 u4 u5 : Value) :
    MsgAt lo hi ((((((w.setCell ⟨g, 0, none⟩ u0).setCell ⟨g, 1, none⟩ u1).setCell ⟨g, 2, none⟩ u2).setCell ⟨g, 3, none⟩ u3).setCell ⟨g, 4, none⟩ u4).setCell ⟨g, 5, none⟩ u5) v l :=
  msg_far (msg_far (msg_far (msg_far (msg_far (msg_far h hg (by decide) u0) (blk_set hg _ _) (by decide) u1) (blk_set (blk_set hg _ _) _ _) (by decide) u2) (blk_set (blk_set (blk_set hg _ _) _ _) _ _) (by decide) u3) (blk_set (blk_set (blk_set (blk_set hg _ _) _ _) _ _) _ _) (by decide) u4)
    (blk_set (blk_set (blk_set (blk_set (blk_set hg _ _) _ _) _ _) _ _) _ _) (by decide) u5
set_option maxHeartbeats 1000000 in
theorem take_arg (i f t cp s : Int) (A : Option Addr) (n c : Nat) (ls : List Msg) (hn : ls.length = n) (h63 : n ≤ 1000000) (hq : mayQ ⟨i, f, t, cp, s⟩ ls = false)  (w : World) (h : Rms w A ls) :
    Calls Try.prog 48 #[.agg (qcells ⟨i, f, t, cp, s⟩ A n c)] w (TOut (takeR ⟨i, f, t, cp, s⟩ ls) w) := by
  have _ := h63
  have g0 := Lib.hid (blk_alloc (blk_new w (qcells ⟨i, f, t, cp, s⟩ A n c) 36) (.cells (qcells ⟨0, 0, 0, 0, 0⟩ none 0 0) 36))
  have g1 := Lib.hid (show ((w.alloc (.cells (qcells ⟨i, f, t, cp, s⟩ A n c) 36)).alloc (.cells (qcells ⟨0, 0, 0, 0, 0⟩ none 0 0) 36)).heap[w.heap.size + 1]? = some (.cells (qcells ⟨0, 0, 0, 0, 0⟩ none 0 0) 36 (0, 0)) by
    have := blk_new (w.alloc (.cells (qcells ⟨i, f, t, cp, s⟩ A n c) 36)) (qcells ⟨0, 0, 0, 0, 0⟩ none 0 0) 36; simpa using this)
  have hsz : ((w.alloc (.cells (qcells ⟨i, f, t, cp, s⟩ A n c) 36)).alloc (.cells (qcells ⟨0, 0, 0, 0, 0⟩ none 0 0) 36)).heap.size = w.heap.size + 2 := by simp
  have hX : Below w.heap.size w ((w.alloc (.cells (qcells ⟨i, f, t, cp, s⟩ A n c) 36)).alloc (.cells (qcells ⟨0, 0, 0, 0, 0⟩ none 0 0) 36)) := ((Below.refl _ _).alloc (Nat.le_refl _) _).alloc (by simp) _
  have T := mayQueue ⟨i, f, t, cp, s⟩ A c ls (by omega) ((w.alloc (.cells (qcells ⟨i, f, t, cp, s⟩ A n c) 36)).alloc (.cells (qcells ⟨0, 0, 0, 0, 0⟩ none 0 0) 36)) (h.below hX)
  rw [hq, hn] at T
  have HV := Lib.hid (show takeR ⟨i, f, t, cp, s⟩ ls = ([], ch0, [], 2) by unfold takeR; rw [hq]; rfl)
  dsimp only [qcells] at T hsz hX ⊢
  have HT := Lib.hid T; clear T h hq
  go_enter Try.func48, Try.ntmps48
  go_wp2_with fail
  refine HT.out.mono ?_
  rintro e w1 ⟨rfl, b1⟩
  have h0 := blk_below g0.out b1 (by omega); have h1 := blk_below g1.out b1 (by omega)
  have a10 : w1.cell? ⟨w.heap.size, 0, none⟩ = some (.int .i64 i) := blk_cell h0 0
  have a11 : w1.cell? ⟨w.heap.size, 1, none⟩ = some (.int .i64 f) := blk_cell h0 1
  have a12 : w1.cell? ⟨w.heap.size, 2, none⟩ = some (.int .i64 t) := blk_cell h0 2
  have a13 : w1.cell? ⟨w.heap.size, 3, none⟩ = some (.int .i64 cp) := blk_cell h0 3
  have a14 : w1.cell? ⟨w.heap.size, 4, none⟩ = some (.int .i64 s) := blk_cell h0 4
  have a15 : w1.cell? ⟨w.heap.size, 5, none⟩ = some (.slice A n c) := blk_cell h0 5
  have q10 : w1.cell? ⟨w.heap.size + 1, 0, none⟩ = some (.int .i64 0) := blk_cell h1 0
  have q11 : w1.cell? ⟨w.heap.size + 1, 1, none⟩ = some (.int .i64 0) := blk_cell h1 1
  have q12 : w1.cell? ⟨w.heap.size + 1, 2, none⟩ = some (.int .i64 0) := blk_cell h1 2
  have q13 : w1.cell? ⟨w.heap.size + 1, 3, none⟩ = some (.int .i64 0) := blk_cell h1 3
  have q14 : w1.cell? ⟨w.heap.size + 1, 4, none⟩ = some (.int .i64 0) := blk_cell h1 4
  have q15 : w1.cell? ⟨w.heap.size + 1, 5, none⟩ = some (.slice none 0 0) := blk_cell h1 5
  have f10 := blk_frozen h1 0
  have f11 := blk_frozen h1 1
  have f12 := blk_frozen h1 2
  have f13 := blk_frozen h1 3
  have f14 := blk_frozen h1 4
  have f15 := blk_frozen h1 5
  have H1 := Lib.hid h1
  have B1 := Lib.hid (hX.trans (b1.mono (by omega))); clear b1 h0 h1
  go_wp2
  exact ret_tmp_row_tmp rfl (w.heap.size + 1) 36 _ _ rfl (q_set H1.out rfl _ _ _ _ _ _) Try.underlying36 rfl (by kernel_rfl) rfl (TOut.none HV.out (q_below B1.out (by omega) _ _ _ _ _ _))
set_option maxHeartbeats 1000000 in
theorem take_none (i f t cp s : Int) (A : Option Addr) (n c : Nat) (ls : List Msg) (hn : ls.length = n) (h63 : n ≤ 1000000) (hq : mayQ ⟨i, f, t, cp, s⟩ ls = true) (h0 : n = 0) (w : World) (h : Rms w A ls) :
    Calls Try.prog 48 #[.agg (qcells ⟨i, f, t, cp, s⟩ A n c)] w (TOut (takeR ⟨i, f, t, cp, s⟩ ls) w) := by
  have _ := h63
  have g0 := Lib.hid (blk_alloc (blk_new w (qcells ⟨i, f, t, cp, s⟩ A n c) 36) (.cells (qcells ⟨0, 0, 0, 0, 0⟩ none 0 0) 36))
  have g1 := Lib.hid (show ((w.alloc (.cells (qcells ⟨i, f, t, cp, s⟩ A n c) 36)).alloc (.cells (qcells ⟨0, 0, 0, 0, 0⟩ none 0 0) 36)).heap[w.heap.size + 1]? = some (.cells (qcells ⟨0, 0, 0, 0, 0⟩ none 0 0) 36 (0, 0)) by
    have := blk_new (w.alloc (.cells (qcells ⟨i, f, t, cp, s⟩ A n c) 36)) (qcells ⟨0, 0, 0, 0, 0⟩ none 0 0) 36; simpa using this)
  have hsz : ((w.alloc (.cells (qcells ⟨i, f, t, cp, s⟩ A n c) 36)).alloc (.cells (qcells ⟨0, 0, 0, 0, 0⟩ none 0 0) 36)).heap.size = w.heap.size + 2 := by simp
  have hX : Below w.heap.size w ((w.alloc (.cells (qcells ⟨i, f, t, cp, s⟩ A n c) 36)).alloc (.cells (qcells ⟨0, 0, 0, 0, 0⟩ none 0 0) 36)) := ((Below.refl _ _).alloc (Nat.le_refl _) _).alloc (by simp) _
  have T := mayQueue ⟨i, f, t, cp, s⟩ A c ls (by omega) ((w.alloc (.cells (qcells ⟨i, f, t, cp, s⟩ A n c) 36)).alloc (.cells (qcells ⟨0, 0, 0, 0, 0⟩ none 0 0) 36)) (h.below hX)
  rw [hq, hn] at T
  have HV := Lib.hid (show takeR ⟨i, f, t, cp, s⟩ ls = ([], ch0, [], 100) by unfold takeR; rw [hq, if_pos rfl]; rw [List.eq_nil_of_length_eq_zero (hn.trans h0)])
  have e1 : ((n : Int) == 0) = true := by rw [h0]; rfl
  have _ := hn
  clear h0 hn
  dsimp only [qcells] at T hsz hX ⊢
  have HT := Lib.hid T; clear T h hq
  go_enter Try.func48, Try.ntmps48
  go_wp2_with fail
  refine HT.out.mono ?_
  rintro e w1 ⟨rfl, b1⟩
  have h0 := blk_below g0.out b1 (by omega); have h1 := blk_below g1.out b1 (by omega)
  have a10 : w1.cell? ⟨w.heap.size, 0, none⟩ = some (.int .i64 i) := blk_cell h0 0
  have a11 : w1.cell? ⟨w.heap.size, 1, none⟩ = some (.int .i64 f) := blk_cell h0 1
  have a12 : w1.cell? ⟨w.heap.size, 2, none⟩ = some (.int .i64 t) := blk_cell h0 2
  have a13 : w1.cell? ⟨w.heap.size, 3, none⟩ = some (.int .i64 cp) := blk_cell h0 3
  have a14 : w1.cell? ⟨w.heap.size, 4, none⟩ = some (.int .i64 s) := blk_cell h0 4
  have a15 : w1.cell? ⟨w.heap.size, 5, none⟩ = some (.slice A n c) := blk_cell h0 5
  have q10 : w1.cell? ⟨w.heap.size + 1, 0, none⟩ = some (.int .i64 0) := blk_cell h1 0
  have q11 : w1.cell? ⟨w.heap.size + 1, 1, none⟩ = some (.int .i64 0) := blk_cell h1 1
  have q12 : w1.cell? ⟨w.heap.size + 1, 2, none⟩ = some (.int .i64 0) := blk_cell h1 2
  have q13 : w1.cell? ⟨w.heap.size + 1, 3, none⟩ = some (.int .i64 0) := blk_cell h1 3
  have q14 : w1.cell? ⟨w.heap.size + 1, 4, none⟩ = some (.int .i64 0) := blk_cell h1 4
  have q15 : w1.cell? ⟨w.heap.size + 1, 5, none⟩ = some (.slice none 0 0) := blk_cell h1 5
  have f10 := blk_frozen h1 0
  have f11 := blk_frozen h1 1
  have f12 := blk_frozen h1 2
  have f13 := blk_frozen h1 3
  have f14 := blk_frozen h1 4
  have f15 := blk_frozen h1 5
  have H1 := Lib.hid h1
  have B1 := Lib.hid (hX.trans (b1.mono (by omega))); clear b1 h0 h1
  go_wp2
  exact ret_tmp_row_tmp rfl (w.heap.size + 1) 36 _ _ rfl (q_set H1.out rfl _ _ _ _ _ _) Try.underlying36 rfl (by kernel_rfl) rfl (TOut.none HV.out (q_below B1.out (by omega) _ _ _ _ _ _))
end Go.Proofs.Ythkkmnckidfmkaa.chan
namespace Go.Proofs.Ythkkmnckidfmkaa.chan
open Go Go.ChangeShapes Go.WideShapes Go.ChangeAt Go.RowKit Go.Proofs.Ythkkmnckidfmkaa.rows
set_option maxRecDepth 100000 in
set_option maxHeartbeats 4000000 in
theorem take_one (i f t cp s : Int) (b off c : Nat)  (m : Msg) (r : List Msg) (hn : (m :: r).length = 1) (hq : mayQ ⟨i, f, t, cp, s⟩ (m :: r) = true) (w : World) (h : Rms w (some ⟨b, off, none⟩) (m :: r)) :
    Calls Try.prog 48 #[.agg (qcells ⟨i, f, t, cp, s⟩ (some ⟨b, off, none⟩) 1 c)] w (TOut (takeR ⟨i, f, t, cp, s⟩ (m :: r)) w) := by
  have g0 := Lib.hid (blk_alloc (blk_new w (qcells ⟨i, f, t, cp, s⟩ (some ⟨b, off, none⟩) 1 c) 36) (.cells (qcells ⟨0, 0, 0, 0, 0⟩ none 0 0) 36))
  have g1 := Lib.hid (show ((w.alloc (.cells (qcells ⟨i, f, t, cp, s⟩ (some ⟨b, off, none⟩) 1 c) 36)).alloc (.cells (qcells ⟨0, 0, 0, 0, 0⟩ none 0 0) 36)).heap[w.heap.size + 1]? = some (.cells (qcells ⟨0, 0, 0, 0, 0⟩ none 0 0) 36 (0, 0)) by
    have := blk_new (w.alloc (.cells (qcells ⟨i, f, t, cp, s⟩ (some ⟨b, off, none⟩) 1 c) 36)) (qcells ⟨0, 0, 0, 0, 0⟩ none 0 0) 36; simpa using this)
  have hsz : ((w.alloc (.cells (qcells ⟨i, f, t, cp, s⟩ (some ⟨b, off, none⟩) 1 c) 36)).alloc (.cells (qcells ⟨0, 0, 0, 0, 0⟩ none 0 0) 36)).heap.size = w.heap.size + 2 := by simp
  have hX : Below w.heap.size w ((w.alloc (.cells (qcells ⟨i, f, t, cp, s⟩ (some ⟨b, off, none⟩) 1 c) 36)).alloc (.cells (qcells ⟨0, 0, 0, 0, 0⟩ none 0 0) 36)) := ((Below.refl _ _).alloc (Nat.le_refl _) _).alloc (by simp) _
  have hy := mayQ_yes hq
  have hmay := mayC_iff.1 hy.1
  obtain ⟨_, hlen, hsz2⟩ := hy
  simp only at hmay hlen hsz2
  have T := mayQueue ⟨i, f, t, cp, s⟩ (some ⟨b, off, none⟩) c (m :: r) (by omega) ((w.alloc (.cells (qcells ⟨i, f, t, cp, s⟩ (some ⟨b, off, none⟩) 1 c) 36)).alloc (.cells (qcells ⟨0, 0, 0, 0, 0⟩ none 0 0) 36)) (h.below hX)
  rw [hq, hn] at T
  have HV := Lib.hid (show takeR ⟨i, f, t, cp, s⟩ (m :: r) = (m, ⟨i, f, t, cp, s⟩, r, 0) by unfold takeR; rw [hq, if_pos rfl])
  have TC := fun (w : World) (h : Rms w (some ⟨b, off, none⟩) (m :: r)) => copied (some ⟨b, off, none⟩) c (m :: r) (by omega) (fun l hl => by have := hsz2 l hl; omega) w h
  rw [hn] at TC
  dsimp only [qcells] at T hsz hX ⊢
  have H := Lib.hid (h.below hX)
  have HT := Lib.hid T; have HTC := Lib.hid TC; have HN := Lib.hid hn
  have hn4 : 1 ≤ 4 := by omega
  clear T h hq TC hn hmay hlen hsz2
  go_enter Try.func48, Try.ntmps48
  go_wp2_with fail
  refine HT.out.mono ?_
  rintro e w1 ⟨rfl, b1⟩
  have h0 := blk_below g0.out b1 (by omega); have h1 := blk_below g1.out b1 (by omega)
  have a10 : w1.cell? ⟨w.heap.size, 0, none⟩ = some (.int .i64 i) := blk_cell h0 0
  have a11 : w1.cell? ⟨w.heap.size, 1, none⟩ = some (.int .i64 f) := blk_cell h0 1
  have a12 : w1.cell? ⟨w.heap.size, 2, none⟩ = some (.int .i64 t) := blk_cell h0 2
  have a13 : w1.cell? ⟨w.heap.size, 3, none⟩ = some (.int .i64 cp) := blk_cell h0 3
  have a14 : w1.cell? ⟨w.heap.size, 4, none⟩ = some (.int .i64 s) := blk_cell h0 4
  have a15 : w1.cell? ⟨w.heap.size, 5, none⟩ = some (.slice (some ⟨b, off, none⟩) 1 c) := blk_cell h0 5
  have q10 : w1.cell? ⟨w.heap.size + 1, 0, none⟩ = some (.int .i64 0) := blk_cell h1 0
  have q11 : w1.cell? ⟨w.heap.size + 1, 1, none⟩ = some (.int .i64 0) := blk_cell h1 1
  have q12 : w1.cell? ⟨w.heap.size + 1, 2, none⟩ = some (.int .i64 0) := blk_cell h1 2
  have q13 : w1.cell? ⟨w.heap.size + 1, 3, none⟩ = some (.int .i64 0) := blk_cell h1 3
  have q14 : w1.cell? ⟨w.heap.size + 1, 4, none⟩ = some (.int .i64 0) := blk_cell h1 4
  have q15 : w1.cell? ⟨w.heap.size + 1, 5, none⟩ = some (.slice none 0 0) := blk_cell h1 5
  have f10 := blk_frozen h1 0
  have f11 := blk_frozen h1 1
  have f12 := blk_frozen h1 2
  have f13 := blk_frozen h1 3
  have f14 := blk_frozen h1 4
  have f15 := blk_frozen h1 5
  have K0 := Lib.hid h0; have K1 := Lib.hid h1
  have H1 := Lib.hid (H.out.below b1)
  have z1 : w.heap.size + 2 ≤ w1.heap.size := by have := b1.size; omega
  have B1 := Lib.hid (hX.trans (b1.mono (by omega))); clear b1 h0 h1
  go_wp2_with fail
  refine (HTC.out _ H1.out).mono ?_
  rintro e w2 ⟨v2, rfl, hg2, b2⟩
  clear a10 a11 a12 a13 a14 a15 q10 q11 q12 q13 q14 q15 f10 f11 f12 f13 f14 f15
  have z2 := b2.size
  have N0 := blk_below K0.out b2 (by omega); have N1 := blk_below K1.out b2 (by omega)
  have B2 := Lib.hid (B1.out.trans (b2.mono (by omega)))
  obtain ⟨A2, c2, rfl, hc2, _, hA2, o2⟩ := hg2.form
  obtain ⟨g, rfl⟩ : ∃ g, A2 = some ⟨g, 0, none⟩ := hA2.elim id (fun e => by cases e)
  obtain ⟨vs, ho, hvl, hms⟩ := hg2.own
  obtain ⟨u0, hu0, hm0⟩ := hms 0 m rfl
  have cg : w2.cell? ⟨g, 0, none⟩ = some u0 := by have := ho.cellAt 0 (by rw [HN.out]; omega); rw [this, hu0]
  have hgne0 : w.heap.size ≠ g := fun e => own_ne ho N0 (by decide) (by simp [Value.ownBlock, e])
  have hgne1 : w.heap.size + 1 ≠ g := fun e => own_ne ho N1 (by decide) (by simp [Value.ownBlock, e])
  have hgne0' : g ≠ w.heap.size := fun e => hgne0 e.symm
  have hgne1' : g ≠ w.heap.size + 1 := fun e => hgne1 e.symm
  have a20 : w2.cell? ⟨w.heap.size, 0, none⟩ = some (.int .i64 i) := blk_cell N0 0
  have a21 : w2.cell? ⟨w.heap.size, 1, none⟩ = some (.int .i64 f) := blk_cell N0 1
  have a22 : w2.cell? ⟨w.heap.size, 2, none⟩ = some (.int .i64 t) := blk_cell N0 2
  have a23 : w2.cell? ⟨w.heap.size, 3, none⟩ = some (.int .i64 cp) := blk_cell N0 3
  have a24 : w2.cell? ⟨w.heap.size, 4, none⟩ = some (.int .i64 s) := blk_cell N0 4
  have a25 : w2.cell? ⟨w.heap.size, 5, none⟩ = some (.slice (some ⟨b, off, none⟩) 1 c) := blk_cell N0 5
  have q20 : w2.cell? ⟨w.heap.size + 1, 0, none⟩ = some (.int .i64 0) := blk_cell N1 0
  have q21 : w2.cell? ⟨w.heap.size + 1, 1, none⟩ = some (.int .i64 0) := blk_cell N1 1
  have q22 : w2.cell? ⟨w.heap.size + 1, 2, none⟩ = some (.int .i64 0) := blk_cell N1 2
  have q23 : w2.cell? ⟨w.heap.size + 1, 3, none⟩ = some (.int .i64 0) := blk_cell N1 3
  have q24 : w2.cell? ⟨w.heap.size + 1, 4, none⟩ = some (.int .i64 0) := blk_cell N1 4
  have q25 : w2.cell? ⟨w.heap.size + 1, 5, none⟩ = some (.slice none 0 0) := blk_cell N1 5
  have f20 := blk_frozen N1 0
  have f21 := blk_frozen N1 1
  have f22 := blk_frozen N1 2
  have f23 := blk_frozen N1 3
  have f24 := blk_frozen N1 4
  have f25 := blk_frozen N1 5
  have fb5 := blk_frozen N0 5
  have P0 := Lib.hid N0; have P1 := Lib.hid N1; have O2 := Lib.hid o2; have M0 := Lib.hid hm0
  have hn2 : (m :: r).length = 1 := HN.out
  rw [hn2] at hc2 ⊢
  have e7 : (1 : Int) ≤ (c2 : Int) := by omega
  clear hn2 hg2 b2 ho hvl hms hu0 hm0 N0 N1 o2 hA2
  obtain ⟨Au, cu, rfl, _, _, _, _⟩ := M0.out
  go_wp2_with fail
  have p0 := blk_eq (blk_set P0.out 5 (.slice (some ⟨g, 0, none⟩) 0 0)) (show _ = (#[.int .i64 i, .int .i64 f, .int .i64 t, .int .i64 cp, .int .i64 s, .slice (some ⟨g, 0, none⟩) 0 0] : Array Value) from rfl)
  have p1 := blk_far P1.out (p := ⟨w.heap.size, 5, none⟩) (show w.heap.size + 1 ≠ w.heap.size by omega) (.slice (some ⟨g, 0, none⟩) 0 0)
  have cg3 := (cell_set_ne (w := w2) (k := 5) (j := 0) (u := .slice (some ⟨g, 0, none⟩) 0 0) hgne0').trans cg
  have mm3 := msg_far (k := 5) M0.out P0.out (by decide) (.slice (some ⟨g, 0, none⟩) 0 0)
  have oo3 := own2_far (k := 5) O2.out P0.out (by decide) (by decide) (.slice (some ⟨g, 0, none⟩) 0 0)
  have bb3 := B2.out.setCell (p := ⟨w.heap.size, 5, none⟩) (Nat.le_refl _) (.slice (some ⟨g, 0, none⟩) 0 0)
  have zz3 : (w2.setCell ⟨w.heap.size, 5, none⟩ (.slice (some ⟨g, 0, none⟩) 0 0)).heap.size = w2.heap.size := by simp
  clear a20 a21 a22 a23 a24 a25 q20 q21 q22 q23 q24 q25 f20 f21 f22 f23 f24 f25
  generalize w2.setCell ⟨w.heap.size, 5, none⟩ (.slice (some ⟨g, 0, none⟩) 0 0) = w3 at *
  have a30 : w3.cell? ⟨w.heap.size, 0, none⟩ = some (.int .i64 i) := blk_cell p0 0
  have a31 : w3.cell? ⟨w.heap.size, 1, none⟩ = some (.int .i64 f) := blk_cell p0 1
  have a32 : w3.cell? ⟨w.heap.size, 2, none⟩ = some (.int .i64 t) := blk_cell p0 2
  have a33 : w3.cell? ⟨w.heap.size, 3, none⟩ = some (.int .i64 cp) := blk_cell p0 3
  have a34 : w3.cell? ⟨w.heap.size, 4, none⟩ = some (.int .i64 s) := blk_cell p0 4
  have a35 : w3.cell? ⟨w.heap.size, 5, none⟩ = some (.slice (some ⟨g, 0, none⟩) 0 0) := blk_cell p0 5
  have q30 : w3.cell? ⟨w.heap.size + 1, 0, none⟩ = some (.int .i64 0) := blk_cell p1 0
  have q31 : w3.cell? ⟨w.heap.size + 1, 1, none⟩ = some (.int .i64 0) := blk_cell p1 1
  have q32 : w3.cell? ⟨w.heap.size + 1, 2, none⟩ = some (.int .i64 0) := blk_cell p1 2
  have q33 : w3.cell? ⟨w.heap.size + 1, 3, none⟩ = some (.int .i64 0) := blk_cell p1 3
  have q34 : w3.cell? ⟨w.heap.size + 1, 4, none⟩ = some (.int .i64 0) := blk_cell p1 4
  have q35 : w3.cell? ⟨w.heap.size + 1, 5, none⟩ = some (.slice none 0 0) := blk_cell p1 5
  have f30 := blk_frozen p1 0
  have f31 := blk_frozen p1 1
  have f32 := blk_frozen p1 2
  have f33 := blk_frozen p1 3
  have f34 := blk_frozen p1 4
  have f35 := blk_frozen p1 5
  have P03 := Lib.hid p0; have P13 := Lib.hid p1; have MM3 := Lib.hid mm3; have OO3 := Lib.hid oo3; have BB3 := Lib.hid bb3
  clear p0 p1 mm3 oo3 bb3 cg fb5
  go_big_region
  go_wp2
  refine ret_tmp_row_tmp rfl (w.heap.size + 1) 36 _ _ rfl (blk_drew (q_set P13.out rfl _ _ _ _ _ _)) Try.underlying36 rfl (by kernel_rfl) rfl ?_
  have hmm := msg_drew (msg_far6 MM3.out P13.out (.int .i64 i) (.int .i64 f) (.int .i64 t) (.int .i64 cp) (.int .i64 s) (.slice (some ⟨g, 0, none⟩) 0 0))
  have hbb := (q_below (g := w.heap.size + 1) BB3.out (by omega) (.int .i64 i) (.int .i64 f) (.int .i64 t) (.int .i64 cp) (.int .i64 s) (.slice (some ⟨g, 0, none⟩) 0 0)).drew
  rw [HV.out]
  have hr : r = [] := List.eq_nil_of_length_eq_zero (by have := HN.out; simpa using this)
  subst hr
  exact ⟨_, some ⟨g, 0, none⟩, 0, rfl, hmm.mono (by omega) (by show _ ≤ (World.drew _).heap.size; rw [size_drew', size6]; omega), ⟨Nat.le_refl _, (fun h => by cases h), Own2.nil⟩, hbb⟩
set_option maxRecDepth 100000 in
set_option maxHeartbeats 4000000 in
theorem take_more (i f t cp s : Int) (b off c : Nat) (k : Nat) (m : Msg) (r : List Msg) (hn : (m :: r).length = (k + 2)) (hq : mayQ ⟨i, f, t, cp, s⟩ (m :: r) = true) (w : World) (h : Rms w (some ⟨b, off, none⟩) (m :: r)) :
    Calls Try.prog 48 #[.agg (qcells ⟨i, f, t, cp, s⟩ (some ⟨b, off, none⟩) (k + 2) c)] w (TOut (takeR ⟨i, f, t, cp, s⟩ (m :: r)) w) := by
  have g0 := Lib.hid (blk_alloc (blk_new w (qcells ⟨i, f, t, cp, s⟩ (some ⟨b, off, none⟩) (k + 2) c) 36) (.cells (qcells ⟨0, 0, 0, 0, 0⟩ none 0 0) 36))
  have g1 := Lib.hid (show ((w.alloc (.cells (qcells ⟨i, f, t, cp, s⟩ (some ⟨b, off, none⟩) (k + 2) c) 36)).alloc (.cells (qcells ⟨0, 0, 0, 0, 0⟩ none 0 0) 36)).heap[w.heap.size + 1]? = some (.cells (qcells ⟨0, 0, 0, 0, 0⟩ none 0 0) 36 (0, 0)) by
    have := blk_new (w.alloc (.cells (qcells ⟨i, f, t, cp, s⟩ (some ⟨b, off, none⟩) (k + 2) c) 36)) (qcells ⟨0, 0, 0, 0, 0⟩ none 0 0) 36; simpa using this)
  have hsz : ((w.alloc (.cells (qcells ⟨i, f, t, cp, s⟩ (some ⟨b, off, none⟩) (k + 2) c) 36)).alloc (.cells (qcells ⟨0, 0, 0, 0, 0⟩ none 0 0) 36)).heap.size = w.heap.size + 2 := by simp
  have hX : Below w.heap.size w ((w.alloc (.cells (qcells ⟨i, f, t, cp, s⟩ (some ⟨b, off, none⟩) (k + 2) c) 36)).alloc (.cells (qcells ⟨0, 0, 0, 0, 0⟩ none 0 0) 36)) := ((Below.refl _ _).alloc (Nat.le_refl _) _).alloc (by simp) _
  have hy := mayQ_yes hq
  have hmay := mayC_iff.1 hy.1
  obtain ⟨_, hlen, hsz2⟩ := hy
  simp only at hmay hlen hsz2
  have T := mayQueue ⟨i, f, t, cp, s⟩ (some ⟨b, off, none⟩) c (m :: r) (by omega) ((w.alloc (.cells (qcells ⟨i, f, t, cp, s⟩ (some ⟨b, off, none⟩) (k + 2) c) 36)).alloc (.cells (qcells ⟨0, 0, 0, 0, 0⟩ none 0 0) 36)) (h.below hX)
  rw [hq, hn] at T
  have HV := Lib.hid (show takeR ⟨i, f, t, cp, s⟩ (m :: r) = (m, ⟨i, f, t, cp, s⟩, r, 0) by unfold takeR; rw [hq, if_pos rfl])
  have TC := fun (w : World) (h : Rms w (some ⟨b, off, none⟩) (m :: r)) => copied (some ⟨b, off, none⟩) c (m :: r) (by omega) (fun l hl => by have := hsz2 l hl; omega) w h
  rw [hn] at TC
  dsimp only [qcells] at T hsz hX ⊢
  have H := Lib.hid (h.below hX)
  have HT := Lib.hid T; have HTC := Lib.hid TC; have HN := Lib.hid hn
  have hn4 : (k + 2) ≤ 4 := by omega
  clear T h hq TC hn hmay hlen hsz2
  go_enter Try.func48, Try.ntmps48
  go_wp2_with fail
  refine HT.out.mono ?_
  rintro e w1 ⟨rfl, b1⟩
  have h0 := blk_below g0.out b1 (by omega); have h1 := blk_below g1.out b1 (by omega)
  have a10 : w1.cell? ⟨w.heap.size, 0, none⟩ = some (.int .i64 i) := blk_cell h0 0
  have a11 : w1.cell? ⟨w.heap.size, 1, none⟩ = some (.int .i64 f) := blk_cell h0 1
  have a12 : w1.cell? ⟨w.heap.size, 2, none⟩ = some (.int .i64 t) := blk_cell h0 2
  have a13 : w1.cell? ⟨w.heap.size, 3, none⟩ = some (.int .i64 cp) := blk_cell h0 3
  have a14 : w1.cell? ⟨w.heap.size, 4, none⟩ = some (.int .i64 s) := blk_cell h0 4
  have a15 : w1.cell? ⟨w.heap.size, 5, none⟩ = some (.slice (some ⟨b, off, none⟩) (k + 2) c) := blk_cell h0 5
  have q10 : w1.cell? ⟨w.heap.size + 1, 0, none⟩ = some (.int .i64 0) := blk_cell h1 0
  have q11 : w1.cell? ⟨w.heap.size + 1, 1, none⟩ = some (.int .i64 0) := blk_cell h1 1
  have q12 : w1.cell? ⟨w.heap.size + 1, 2, none⟩ = some (.int .i64 0) := blk_cell h1 2
  have q13 : w1.cell? ⟨w.heap.size + 1, 3, none⟩ = some (.int .i64 0) := blk_cell h1 3
  have q14 : w1.cell? ⟨w.heap.size + 1, 4, none⟩ = some (.int .i64 0) := blk_cell h1 4
  have q15 : w1.cell? ⟨w.heap.size + 1, 5, none⟩ = some (.slice none 0 0) := blk_cell h1 5
  have f10 := blk_frozen h1 0
  have f11 := blk_frozen h1 1
  have f12 := blk_frozen h1 2
  have f13 := blk_frozen h1 3
  have f14 := blk_frozen h1 4
  have f15 := blk_frozen h1 5
  have K0 := Lib.hid h0; have K1 := Lib.hid h1
  have H1 := Lib.hid (H.out.below b1)
  have z1 : w.heap.size + 2 ≤ w1.heap.size := by have := b1.size; omega
  have B1 := Lib.hid (hX.trans (b1.mono (by omega))); clear b1 h0 h1
  go_wp2_with fail
  refine (HTC.out _ H1.out).mono ?_
  rintro e w2 ⟨v2, rfl, hg2, b2⟩
  clear a10 a11 a12 a13 a14 a15 q10 q11 q12 q13 q14 q15 f10 f11 f12 f13 f14 f15
  have z2 := b2.size
  have N0 := blk_below K0.out b2 (by omega); have N1 := blk_below K1.out b2 (by omega)
  have B2 := Lib.hid (B1.out.trans (b2.mono (by omega)))
  obtain ⟨A2, c2, rfl, hc2, _, hA2, o2⟩ := hg2.form
  obtain ⟨g, rfl⟩ : ∃ g, A2 = some ⟨g, 0, none⟩ := hA2.elim id (fun e => by cases e)
  obtain ⟨vs, ho, hvl, hms⟩ := hg2.own
  obtain ⟨u0, hu0, hm0⟩ := hms 0 m rfl
  have cg : w2.cell? ⟨g, 0, none⟩ = some u0 := by have := ho.cellAt 0 (by rw [HN.out]; omega); rw [this, hu0]
  have hgne0 : w.heap.size ≠ g := fun e => own_ne ho N0 (by decide) (by simp [Value.ownBlock, e])
  have hgne1 : w.heap.size + 1 ≠ g := fun e => own_ne ho N1 (by decide) (by simp [Value.ownBlock, e])
  have hgne0' : g ≠ w.heap.size := fun e => hgne0 e.symm
  have hgne1' : g ≠ w.heap.size + 1 := fun e => hgne1 e.symm
  have a20 : w2.cell? ⟨w.heap.size, 0, none⟩ = some (.int .i64 i) := blk_cell N0 0
  have a21 : w2.cell? ⟨w.heap.size, 1, none⟩ = some (.int .i64 f) := blk_cell N0 1
  have a22 : w2.cell? ⟨w.heap.size, 2, none⟩ = some (.int .i64 t) := blk_cell N0 2
  have a23 : w2.cell? ⟨w.heap.size, 3, none⟩ = some (.int .i64 cp) := blk_cell N0 3
  have a24 : w2.cell? ⟨w.heap.size, 4, none⟩ = some (.int .i64 s) := blk_cell N0 4
  have a25 : w2.cell? ⟨w.heap.size, 5, none⟩ = some (.slice (some ⟨b, off, none⟩) (k + 2) c) := blk_cell N0 5
  have q20 : w2.cell? ⟨w.heap.size + 1, 0, none⟩ = some (.int .i64 0) := blk_cell N1 0
  have q21 : w2.cell? ⟨w.heap.size + 1, 1, none⟩ = some (.int .i64 0) := blk_cell N1 1
  have q22 : w2.cell? ⟨w.heap.size + 1, 2, none⟩ = some (.int .i64 0) := blk_cell N1 2
  have q23 : w2.cell? ⟨w.heap.size + 1, 3, none⟩ = some (.int .i64 0) := blk_cell N1 3
  have q24 : w2.cell? ⟨w.heap.size + 1, 4, none⟩ = some (.int .i64 0) := blk_cell N1 4
  have q25 : w2.cell? ⟨w.heap.size + 1, 5, none⟩ = some (.slice none 0 0) := blk_cell N1 5
  have f20 := blk_frozen N1 0
  have f21 := blk_frozen N1 1
  have f22 := blk_frozen N1 2
  have f23 := blk_frozen N1 3
  have f24 := blk_frozen N1 4
  have f25 := blk_frozen N1 5
  have fb5 := blk_frozen N0 5
  have P0 := Lib.hid N0; have P1 := Lib.hid N1; have O2 := Lib.hid o2; have M0 := Lib.hid hm0
  have hn2 : (m :: r).length = (k + 2) := HN.out
  rw [hn2] at hc2 ⊢
  have e7 : ((k + 2) : Int) ≤ (c2 : Int) := by omega
  clear hn2 hg2 b2 ho hvl hms hu0 hm0 N0 N1 o2 hA2
  obtain ⟨Au, cu, rfl, _, _, _, _⟩ := M0.out
  go_wp2_with fail
  have p0 := blk_eq (blk_set P0.out 5 (.slice (some ⟨g, 1, none⟩) (k + 1) (k + 1))) (show _ = (#[.int .i64 i, .int .i64 f, .int .i64 t, .int .i64 cp, .int .i64 s, .slice (some ⟨g, 1, none⟩) (k + 1) (k + 1)] : Array Value) from rfl)
  have p1 := blk_far P1.out (p := ⟨w.heap.size, 5, none⟩) (show w.heap.size + 1 ≠ w.heap.size by omega) (.slice (some ⟨g, 1, none⟩) (k + 1) (k + 1))
  have cg3 := (cell_set_ne (w := w2) (k := 5) (j := 0) (u := .slice (some ⟨g, 1, none⟩) (k + 1) (k + 1)) hgne0').trans cg
  have mm3 := msg_far (k := 5) M0.out P0.out (by decide) (.slice (some ⟨g, 1, none⟩) (k + 1) (k + 1))
  have oo3 := own2_far (k := 5) O2.out P0.out (by decide) (by decide) (.slice (some ⟨g, 1, none⟩) (k + 1) (k + 1))
  have bb3 := B2.out.setCell (p := ⟨w.heap.size, 5, none⟩) (Nat.le_refl _) (.slice (some ⟨g, 1, none⟩) (k + 1) (k + 1))
  have zz3 : (w2.setCell ⟨w.heap.size, 5, none⟩ (.slice (some ⟨g, 1, none⟩) (k + 1) (k + 1))).heap.size = w2.heap.size := by simp
  clear a20 a21 a22 a23 a24 a25 q20 q21 q22 q23 q24 q25 f20 f21 f22 f23 f24 f25
  generalize w2.setCell ⟨w.heap.size, 5, none⟩ (.slice (some ⟨g, 1, none⟩) (k + 1) (k + 1)) = w3 at *
  have a30 : w3.cell? ⟨w.heap.size, 0, none⟩ = some (.int .i64 i) := blk_cell p0 0
  have a31 : w3.cell? ⟨w.heap.size, 1, none⟩ = some (.int .i64 f) := blk_cell p0 1
  have a32 : w3.cell? ⟨w.heap.size, 2, none⟩ = some (.int .i64 t) := blk_cell p0 2
  have a33 : w3.cell? ⟨w.heap.size, 3, none⟩ = some (.int .i64 cp) := blk_cell p0 3
  have a34 : w3.cell? ⟨w.heap.size, 4, none⟩ = some (.int .i64 s) := blk_cell p0 4
  have a35 : w3.cell? ⟨w.heap.size, 5, none⟩ = some (.slice (some ⟨g, 1, none⟩) (k + 1) (k + 1)) := blk_cell p0 5
  have q30 : w3.cell? ⟨w.heap.size + 1, 0, none⟩ = some (.int .i64 0) := blk_cell p1 0
  have q31 : w3.cell? ⟨w.heap.size + 1, 1, none⟩ = some (.int .i64 0) := blk_cell p1 1
  have q32 : w3.cell? ⟨w.heap.size + 1, 2, none⟩ = some (.int .i64 0) := blk_cell p1 2
  have q33 : w3.cell? ⟨w.heap.size + 1, 3, none⟩ = some (.int .i64 0) := blk_cell p1 3
  have q34 : w3.cell? ⟨w.heap.size + 1, 4, none⟩ = some (.int .i64 0) := blk_cell p1 4
  have q35 : w3.cell? ⟨w.heap.size + 1, 5, none⟩ = some (.slice none 0 0) := blk_cell p1 5
  have f30 := blk_frozen p1 0
  have f31 := blk_frozen p1 1
  have f32 := blk_frozen p1 2
  have f33 := blk_frozen p1 3
  have f34 := blk_frozen p1 4
  have f35 := blk_frozen p1 5
  have P03 := Lib.hid p0; have P13 := Lib.hid p1; have MM3 := Lib.hid mm3; have OO3 := Lib.hid oo3; have BB3 := Lib.hid bb3
  clear p0 p1 mm3 oo3 bb3 cg fb5
  go_big_region
  go_wp2
  refine ret_tmp_row_tmp rfl (w.heap.size + 1) 36 _ _ rfl (blk_drew (q_set P13.out rfl _ _ _ _ _ _)) Try.underlying36 rfl (by kernel_rfl) rfl ?_
  have hmm := msg_drew (msg_far6 MM3.out P13.out (.int .i64 i) (.int .i64 f) (.int .i64 t) (.int .i64 cp) (.int .i64 s) (.slice (some ⟨g, 1, none⟩) (k + 1) (k + 1)))
  have hbb := (q_below (g := w.heap.size + 1) BB3.out (by omega) (.int .i64 i) (.int .i64 f) (.int .i64 t) (.int .i64 cp) (.int .i64 s) (.slice (some ⟨g, 1, none⟩) (k + 1) (k + 1))).drew
  rw [HV.out]
  have hoo := own2_drew (own2_far6 OO3.out.drop1 P13.out (.int .i64 i) (.int .i64 f) (.int .i64 t) (.int .i64 cp) (.int .i64 s) (.slice (some ⟨g, 1, none⟩) (k + 1) (k + 1)))
  have hrl : r.length = k + 1 := by have := HN.out; simp at this; omega
  exact ⟨_, some ⟨g, 1, none⟩, k + 1, by rw [show ((m, (⟨i, f, t, cp, s⟩ : Ch), r, (0 : Int)) : Msg × Ch × List Msg × Int).2.2.1.length = k + 1 from hrl]; rfl, hmm.mono (by omega) (by show _ ≤ (World.drew _).heap.size; rw [size_drew', size6]; omega), ⟨by rw [show ((m, (⟨i, f, t, cp, s⟩ : Ch), r, (0 : Int)) : Msg × Ch × List Msg × Int).2.2.1.length = k + 1 from hrl]; exact Nat.le_refl _, (fun h => by cases h), hoo.mono (by omega) (by show _ ≤ (World.drew _).heap.size; rw [size_drew', size6]; omega)⟩, hbb⟩
theorem take (x : Ch) (A : Option Addr) (c : Nat) (ls : List Msg) (h63 : ls.length ≤ 1000000) (w : World) (h : Rms w A ls) :
    Calls Try.prog 48 #[.agg (qcells x A ls.length c)] w (TOut (takeR x ls) w) := by
  obtain ⟨i, f, t, cp, s⟩ := x
  cases hq : mayQ ⟨i, f, t, cp, s⟩ ls with
  | false => exact take_arg i f t cp s A ls.length c ls rfl h63 hq w h
  | true =>
    cases ls with
    | nil => exact take_none i f t cp s A 0 c [] rfl h63 hq rfl w h
    | cons m r =>
      obtain ⟨b, off, rfl⟩ := h.addr (by simp)
      cases r with
      | nil => exact take_one i f t cp s b off c m [] rfl hq w h
      | cons m2 r => exact take_more i f t cp s b off c r.length m (m2 :: r) rfl hq w h
end Go.Proofs.Ythkkmnckidfmkaa.chan
namespace Go.Proofs.Ythkkmnckidfmkaa.chan
open Go Go.ChangeShapes Go.WideShapes Go.ChangeAt Go.RowKit Go.Proofs.Ythkkmnckidfmkaa.rows
theorem put_to {x y : Ch} {ls l2 : List Msg} {m : Msg} {E : Int} (hr : putR x ls m = (y, l2, E)) (A : Option Addr) (c : Nat) (hA : A = none → c = 0) (hc : ls.length ≤ c) (h63 : ls.length ≤ 1000000) (Am : Option Addr) (cm : Nat) (hmA : Am = none → cm = 0) (hmc : m.length ≤ cm) (w : World) (h : Rms w A ls) (hm : Rd w Am (bcs m)) :
    Calls Try.prog 47 #[.agg (qcells x A ls.length c), .slice Am m.length cm] w fun e w' => ∃ A c, e = .returned (.tuple #[.agg (qcells y A l2.length c), .int .i64 E]) ∧ QAt w.heap.size w'.heap.size w' A c l2 ∧ Below w.heap.size w w' := by
  have T := put x A c ls hA hc h63 m Am cm hmA hmc w h hm
  rw [hr] at T; exact T
theorem take_to {x y : Ch} {ls l2 : List Msg} {m : Msg} {E : Int} (hr : takeR x ls = (m, y, l2, E)) (A : Option Addr) (c : Nat) (h63 : ls.length ≤ 1000000) (w : World) (h : Rms w A ls) :
    Calls Try.prog 48 #[.agg (qcells x A ls.length c)] w fun e w' => ∃ u A c, e = .returned (.tuple #[u, .agg (qcells y A l2.length c), .int .i64 E]) ∧ MsgAt w.heap.size w'.heap.size w' u m ∧ QAt w.heap.size w'.heap.size w' A c l2 ∧ Below w.heap.size w w' := by
  have T := take x A c ls h63 w h
  rw [hr] at T; exact T
theorem rd_mark (w : World) (cs : Array Value) (t : TypeId) (fr : Nat × Nat) : Rd (w.alloc (.cells cs t fr)) (some ⟨w.heap.size, 0, none⟩) cs.toList := by
  refine .inr ⟨w.heap.size, 0, rfl, by simp, fun j hj => ?_⟩
  rw [Nat.zero_add, World.cell?_alloc_mark]; simp
theorem rd_bytesRow (w : World) (s : ByteArray) (cap : Nat) (t : TypeId) (fr : Nat × Nat) : Rd (w.alloc (.cells (bytesRow s cap) t fr)) (some ⟨w.heap.size, 0, none⟩) (bcs s.data.toList) := by
  have h := (rd_mark w (bytesRow s cap) t fr).take s.data.size
  have e : (bytesRow s cap).toList.take s.data.size = bcs s.data.toList := by
    unfold bytesRow bcs Lib.byteCells
    simp
  rwa [e] at h
theorem below_heap {B : Nat} {a w w' : World} (h : Below B a w) (e : w'.heap = w.heap ∧ w'.os = w.os ∧ w'.tape = w.tape ∧ w'.output = w.output) : Below B a w' := ⟨e.2.1.trans h.os, e.2.2.1.trans h.tape, e.2.2.2.trans h.output, by rw [e.1]; exact h.size, fun g hg => by rw [e.1]; exact h.block g hg⟩
theorem rd_heap {w w' : World} {A : Option Addr} {xs : List Value} (h : Rd w A xs) (e : w'.heap = w.heap) : Rd w' A xs :=
  h.keep (by rw [e]; exact Nat.le_refl _) fun p _ => by unfold World.cell?; rw [e]
def stepS (k : Nat) : List Msg := match k with | 0 => [] | 1 => [[97]] | 2 => [[97], [98]] | _ => [[98], [99]]
theorem step_at {k : Nat} (h : k < 3) : ∃ s : UInt8, (#[Value.string ⟨#[97]⟩, Value.string ⟨#[98]⟩, Value.string ⟨#[99]⟩] : Array Value)[k]? = some (.string ⟨#[s]⟩) ∧ putR ⟨1, 1, 2, 2, 3⟩ (stepS k) [s] = (⟨1, 1, 2, 2, 3⟩, stepS (k + 1), 0) ∧ (stepS k).length ≤ 2 := by
  match k, h with
  | 0, _ => exact ⟨97, rfl, by decide, by decide⟩
  | 1, _ => exact ⟨98, rfl, by decide, by decide⟩
  | 2, _ => exact ⟨99, rfl, by decide, by decide⟩
/-- What stands between two rounds: the channel's block, the queue's, the strings'. -/
def Inv (p0 p1 p2 : Nat) (w wr : World) (ls : List Msg) : Prop :=
  ∃ A c, wr.heap[p1]? = some (.cells (qcells ⟨1, 1, 2, 2, 3⟩ A ls.length c) 36 (0, 0)) ∧ QAt w.heap.size wr.heap.size wr A c ls ∧ wr.heap[p0]? = some (.cells #[.int .i64 1, .int .i64 1, .int .i64 2, .int .i64 2, .int .i64 3] 33 (0, 0)) ∧
    wr.heap[p2]? = some (.cells #[.string ⟨#[97]⟩, .string ⟨#[98]⟩, .string ⟨#[99]⟩] 9 (0, 0)) ∧ Below w.heap.size w wr
theorem far6 {w : World} {g p : Nat} {o : Obj} (h : w.heap[p]? = some o) (hne : p ≠ g) (u0 u1 u2 u3 u4 u5 : Value) :
    ((((((w.setCell ⟨g, 0, none⟩ u0).setCell ⟨g, 1, none⟩ u1).setCell ⟨g, 2, none⟩ u2).setCell ⟨g, 3, none⟩ u3).setCell ⟨g, 4, none⟩ u4).setCell ⟨g, 5, none⟩ u5).heap[p]? = some o :=
  blk_far (blk_far (blk_far (blk_far (blk_far (blk_far h (p := ⟨g, 0, none⟩) hne u0) (p := ⟨g, 1, none⟩) hne u1) (p := ⟨g, 2, none⟩) hne u2) (p := ⟨g, 3, none⟩) hne u3) (p := ⟨g, 4, none⟩) hne u4) (p := ⟨g, 5, none⟩) hne u5
theorem inv_step {p0 p1 p2 : Nat} {w w4 : World} {ls : List Msg} {A : Option Addr} {c : Nat} {cs : Array Value} (hs : cs.size = 6) (hq : w4.heap[p1]? = some (.cells cs 36 (0, 0))) (hQ : QAt w.heap.size w4.heap.size w4 A c ls) (hch : w4.heap[p0]? = some (.cells #[.int .i64 1, .int .i64 1, .int .i64 2, .int .i64 2, .int .i64 3] 33 (0, 0)))
    (hst : w4.heap[p2]? = some (.cells #[.string ⟨#[97]⟩, .string ⟨#[98]⟩, .string ⟨#[99]⟩] 9 (0, 0))) (hB : Below w.heap.size w w4) (h0 : p0 ≠ p1) (h2 : p2 ≠ p1) (h1 : w.heap.size ≤ p1) : Inv p0 p1 p2 w ((((((w4.setCell ⟨p1, 0, none⟩ (.int .i64 1)).setCell ⟨p1, 1, none⟩ (.int .i64 1)).setCell ⟨p1, 2, none⟩ (.int .i64 2)).setCell ⟨p1, 3, none⟩ (.int .i64 2)).setCell ⟨p1, 4, none⟩ (.int .i64 3)).setCell ⟨p1, 5, none⟩ (.slice A ls.length c)) ls :=
  ⟨A, c, q_set hq hs _ _ _ _ _ _, ⟨hQ.1, hQ.2.1, (own2_far6 hQ.2.2 hq _ _ _ _ _ _).mono (Nat.le_refl _) (by rw [size6]; exact Nat.le_refl _)⟩, far6 hch h0 _ _ _ _ _ _, far6 hst h2 _ _ _ _ _ _, q_below hB h1 _ _ _ _ _ _⟩
theorem inv_drew {p0 p1 p2 : Nat} {w w4 : World} {ls : List Msg} (h : Inv p0 p1 p2 w w4 ls) : Inv p0 p1 p2 w w4.drew ls := by
  obtain ⟨A, c, h1, h2, h3, h4, h5⟩ := h
  exact ⟨A, c, h1, h2, h3, h4, h5.drew⟩
end Go.Proofs.Ythkkmnckidfmkaa.chan
