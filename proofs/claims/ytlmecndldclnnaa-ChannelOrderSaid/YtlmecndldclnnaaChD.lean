/- Channels: a message less; are two the same; no condition. -/
import Derived.Test.YtlmecndldclnnaaRows
import Derived.Test.YtlmecndldclnnaaChC
import Derived.RegionTactic
import Derived.BigRegion
namespace Go.Proofs.Ytlmecndldclnnaa.chan
open Go Go.ChangeShapes Go.WideShapes Go.ChangeAt Go.RowKit Go.Proofs.Ytlmecndldclnnaa.rows
theorem put (x : Ch) (A : Option Addr) (c : Nat) (ls : List Msg) (hA : A = none → c = 0) (hc : ls.length ≤ c) (h63 : ls.length ≤ 1000000) (m : Msg) (Am : Option Addr) (cm : Nat) (hmA : Am = none → cm = 0) (hmc : m.length ≤ cm) (w : World) (h : Rms w A ls) (hm : Rd w Am (bcs m)) :
    Calls Try.prog 11 #[.agg (qcells x A ls.length c), .slice Am m.length cm] w (QOut (putR x ls m) w) := by
  obtain ⟨i, f, t, cp, s⟩ := x
  cases hq : mayQ ⟨i, f, t, cp, s⟩ ls with
  | false => exact put_arg i f t cp s A ls.length c ls rfl m Am m.length cm rfl h63 hq w h
  | true =>
    by_cases hl : s < (m.length : Int)
    · exact put_long i f t cp s A ls.length c ls rfl m Am m.length cm rfl h63 hq hl w h
    · have hy := mayQ_yes hq
      have hmay := mayC_iff.1 hy.1
      have hlen := hy.2.1
      simp only at hmay hlen
      by_cases hn : ls.length = 0
      · rcases A with _ | ad
        · obtain rfl := hA rfl
          rw [hn]
          exact put_e0 i f t cp s ls hn m Am m.length cm rfl hmA hmc hq (by omega) (by omega) w h hm
        · rw [hn]
          exact put_e1 i f t cp s ad c ls hn m Am m.length cm rfl hmA hmc hq (by omega) (by omega) w h hm
      · obtain ⟨b, off, rfl⟩ := h.addr (by omega)
        by_cases hlt : (ls.length : Int) < cp
        · exact put_lt i f t cp s b off ls.length c hn hc ls rfl m Am m.length cm rfl hmA hmc hq (by omega) hlt w h hm
        · by_cases h1 : ls.length = 1
          · rw [h1]
            exact put_one i f t cp s b off c (by omega) ls h1 m Am m.length cm rfl hmA hmc hq (by omega) (by omega) w h hm
          · obtain ⟨k, hk⟩ : ∃ k, ls.length = k + 2 := ⟨ls.length - 2, by omega⟩
            rw [hk]
            exact put_full i f t cp s b off k c (by omega) ls hk m Am m.length cm rfl hmA hmc hq (by omega) (by omega) w h hm
/-! ### Take -/
theorem results_tmp_cell_tmp {fn : Func} {u p v : Tmp} {ty : TypeId} (h : fn.results = #[.tmp u, .cell p ty, .tmp v]) (tmps : Array Value) (P : Program) (w : World) :
    (results fn tmps).run P w =
      ((asAddr (tmps.getD p undef)).run P w).andThen fun a w₁ => ((loadVar ty a).run P w₁).andThen fun x w₂ => .ok (.tuple #[tmps.getD u undef, x, tmps.getD v undef]) w₂ := by
  simp only [results, h]
  simp [Sem.run_bind, Result.andThen]
theorem ret_tmp_row_tmp {P : Program} {fn : Func} {R : Ending → World → Prop} {a : Act} {w : World} {u0 p u : Tmp} {ty : TypeId} (h : fn.results = #[.tmp u0, .cell p ty, .tmp u]) (g : Nat) (t : TypeId) (cs : Array Value) (d : TypeDesc)
    (hp : a.tmps.getD p undef = .pointer (some ⟨g, 0, none⟩)) (hg : w.heap[g]? = some (.cells cs t (0, 0)))
    (hu : P.underlying ty = some d) (hd : (match d with | .struct _ | .array _ _ => true | _ => false) = true) (hi : (P.info? ty).map (·.size) = some cs.size)
    (hdef : a.defers = []) (hR : R (.returned (.tuple #[a.tmps.getD u0 undef, .agg cs, a.tmps.getD u undef])) w) : bodyPost P fn R .ret a w := by
  refine bodyPost_ret (v := .tuple #[a.tmps.getD u0 undef, .agg cs, a.tmps.getD u undef]) ?_ hdef hR
  rw [results_tmp_cell_tmp h, hp]
  simp [asAddr, run_loadVar_row w g t ty cs (0, 0) d hg hu hd hi, Result.andThen]
def takeR (x : Ch) (ls : List Msg) : Msg × Ch × List Msg × Int :=
  if mayQ x ls = true then (match ls with | [] => ([], ch0, [], 100) | m :: r => (m, x, r, 0)) else ([], ch0, [], 2)
/-- A message, a queue and an error's number, as they are told. -/
def TOut (r : Msg × Ch × List Msg × Int) (w : World) (e : Ending) (w' : World) : Prop :=
  ∃ u A c, e = .returned (.tuple #[u, .agg (qcells r.2.1 A r.2.2.1.length c), .int .i64 r.2.2.2]) ∧ MsgAt w.heap.size w'.heap.size w' u r.1 ∧ QAt w.heap.size w'.heap.size w' A c r.2.2.1 ∧ Below w.heap.size w w'
theorem MsgAt.nil {lo hi : Nat} {w : World} : MsgAt lo hi w (.slice none 0 0) [] := ⟨none, 0, rfl, Nat.le_refl _, fun _ => rfl, .inr rfl, RowIn.nil⟩
theorem TOut.none {r : Msg × Ch × List Msg × Int} {E : Int} (hr : r = ([], ch0, [], E)) {w w' : World} (h : Below w.heap.size w w') : TOut r w (.returned (.tuple #[.slice Option.none 0 0, .agg (qcells ⟨0, 0, 0, 0, 0⟩ none 0 0), .int .i64 E])) w' := by
  subst hr; exact ⟨_, Option.none, 0, rfl, MsgAt.nil, QAt.nil, h⟩
theorem size_drew' (w : World) : w.drew.heap.size = w.heap.size := rfl
theorem msg_drew {lo hi : Nat} {w : World} {v : Value} {l : Msg} (h : MsgAt lo hi w v l) : MsgAt lo hi w.drew v l := h
theorem own2_drew {lo hi : Nat} {w : World} {A : Option Addr} {ls : List Msg} (h : Own2 lo hi w A ls) : Own2 lo hi w.drew A ls := h
theorem msg_far {U : TypeId} {lo hi : Nat} {w : World} {v : Value} {l : Msg} (h : MsgAt lo hi w v l) {g k : Nat} {cs : Array Value} (hg : w.heap[g]? = some (.cells cs U (0, 0))) (h2 : 5 ≠ U) (u : Value) : MsgAt lo hi (w.setCell ⟨g, k, none⟩ u) v l := by
  obtain ⟨A', c, k1, k2, k3, k4, k5⟩ := h
  exact ⟨A', c, k1, k2, k3, k4, k5.far hg h2 u⟩
theorem msg_far6 {lo hi : Nat} {w : World} {v : Value} {l : Msg} (h : MsgAt lo hi w v l) {g : Nat} {cs : Array Value} (hg : w.heap[g]? = some (.cells cs 26 (0, 0))) (u0 u1 u2 u3 u4 u5 : Value) :
    MsgAt lo hi ((((((w.setCell ⟨g, 0, none⟩ u0).setCell ⟨g, 1, none⟩ u1).setCell ⟨g, 2, none⟩ u2).setCell ⟨g, 3, none⟩ u3).setCell ⟨g, 4, none⟩ u4).setCell ⟨g, 5, none⟩ u5) v l :=
  msg_far (msg_far (msg_far (msg_far (msg_far (msg_far h hg (by decide) u0) (blk_set hg _ _) (by decide) u1) (blk_set (blk_set hg _ _) _ _) (by decide) u2) (blk_set (blk_set (blk_set hg _ _) _ _) _ _) (by decide) u3) (blk_set (blk_set (blk_set (blk_set hg _ _) _ _) _ _) _ _) (by decide) u4)
    (blk_set (blk_set (blk_set (blk_set (blk_set hg _ _) _ _) _ _) _ _) _ _) (by decide) u5
set_option maxHeartbeats 1000000 in
theorem take_arg (i f t cp s : Int) (A : Option Addr) (n c : Nat) (ls : List Msg) (hn : ls.length = n) (h63 : n ≤ 1000000) (hq : mayQ ⟨i, f, t, cp, s⟩ ls = false)  (w : World) (h : Rms w A ls) :
    Calls Try.prog 17 #[.agg (qcells ⟨i, f, t, cp, s⟩ A n c)] w (TOut (takeR ⟨i, f, t, cp, s⟩ ls) w) := by
  have _ := h63
  have g0 := Lib.hid (blk_alloc (blk_new w (qcells ⟨i, f, t, cp, s⟩ A n c) 26) (.cells (qcells ⟨0, 0, 0, 0, 0⟩ none 0 0) 26))
  have g1 := Lib.hid (show ((w.alloc (.cells (qcells ⟨i, f, t, cp, s⟩ A n c) 26)).alloc (.cells (qcells ⟨0, 0, 0, 0, 0⟩ none 0 0) 26)).heap[w.heap.size + 1]? = some (.cells (qcells ⟨0, 0, 0, 0, 0⟩ none 0 0) 26 (0, 0)) by
    have := blk_new (w.alloc (.cells (qcells ⟨i, f, t, cp, s⟩ A n c) 26)) (qcells ⟨0, 0, 0, 0, 0⟩ none 0 0) 26; simpa using this)
  have hsz : ((w.alloc (.cells (qcells ⟨i, f, t, cp, s⟩ A n c) 26)).alloc (.cells (qcells ⟨0, 0, 0, 0, 0⟩ none 0 0) 26)).heap.size = w.heap.size + 2 := by simp
  have hX : Below w.heap.size w ((w.alloc (.cells (qcells ⟨i, f, t, cp, s⟩ A n c) 26)).alloc (.cells (qcells ⟨0, 0, 0, 0, 0⟩ none 0 0) 26)) := ((Below.refl _ _).alloc (Nat.le_refl _) _).alloc (by simp) _
  have T := mayQueue ⟨i, f, t, cp, s⟩ A c ls (by omega) ((w.alloc (.cells (qcells ⟨i, f, t, cp, s⟩ A n c) 26)).alloc (.cells (qcells ⟨0, 0, 0, 0, 0⟩ none 0 0) 26)) (h.below hX)
  rw [hq, hn] at T
  have HV := Lib.hid (show takeR ⟨i, f, t, cp, s⟩ ls = ([], ch0, [], 2) by unfold takeR; rw [hq]; rfl)
  dsimp only [qcells] at T hsz hX ⊢
  have HT := Lib.hid T; clear T h hq
  go_enter Try.func17, Try.ntmps17
  go_wp2_with fail
  refine HT.out.mono ?_
  rintro e w1 ⟨rfl, b1⟩
  have h0 := blk_below g0.out b1 (by omega); have h1 := blk_below g1.out b1 (by omega)
  have a10 : w1.cell? ⟨w.heap.size, 0, none⟩ = some (.int .i64 i) := blk_cell h0 0
  have a11 : w1.cell? ⟨w.heap.size, 1, none⟩ = some (.int .i64 f) := blk_cell h0 1
  have a12 : w1.cell? ⟨w.heap.size, 2, none⟩ = some (.int .i64 t) := blk_cell h0 2
  have a13 : w1.cell? ⟨w.heap.size, 3, none⟩ = some (.int .i64 cp) := blk_cell h0 3
  have a14 : w1.cell? ⟨w.heap.size, 4, none⟩ = some (.int .i64 s) := blk_cell h0 4
  have a15 : w1.cell? ⟨w.heap.size, 5, none⟩ = some (.slice A n c) := blk_cell h0 5
  have q10 : w1.cell? ⟨w.heap.size + 1, 0, none⟩ = some (.int .i64 0) := blk_cell h1 0
  have q11 : w1.cell? ⟨w.heap.size + 1, 1, none⟩ = some (.int .i64 0) := blk_cell h1 1
  have q12 : w1.cell? ⟨w.heap.size + 1, 2, none⟩ = some (.int .i64 0) := blk_cell h1 2
  have q13 : w1.cell? ⟨w.heap.size + 1, 3, none⟩ = some (.int .i64 0) := blk_cell h1 3
  have q14 : w1.cell? ⟨w.heap.size + 1, 4, none⟩ = some (.int .i64 0) := blk_cell h1 4
  have q15 : w1.cell? ⟨w.heap.size + 1, 5, none⟩ = some (.slice none 0 0) := blk_cell h1 5
  have f10 := blk_frozen h1 0
  have f11 := blk_frozen h1 1
  have f12 := blk_frozen h1 2
  have f13 := blk_frozen h1 3
  have f14 := blk_frozen h1 4
  have f15 := blk_frozen h1 5
  have H1 := Lib.hid h1
  have B1 := Lib.hid (hX.trans (b1.mono (by omega))); clear b1 h0 h1
  go_wp2
  exact ret_tmp_row_tmp rfl (w.heap.size + 1) 26 _ _ rfl (q_set H1.out rfl _ _ _ _ _ _) Try.underlying26 rfl (by kernel_rfl) rfl (TOut.none HV.out (q_below B1.out (by omega) _ _ _ _ _ _))
set_option maxHeartbeats 1000000 in
theorem take_none (i f t cp s : Int) (A : Option Addr) (n c : Nat) (ls : List Msg) (hn : ls.length = n) (h63 : n ≤ 1000000) (hq : mayQ ⟨i, f, t, cp, s⟩ ls = true) (h0 : n = 0) (w : World) (h : Rms w A ls) :
    Calls Try.prog 17 #[.agg (qcells ⟨i, f, t, cp, s⟩ A n c)] w (TOut (takeR ⟨i, f, t, cp, s⟩ ls) w) := by
  have _ := h63
  have g0 := Lib.hid (blk_alloc (blk_new w (qcells ⟨i, f, t, cp, s⟩ A n c) 26) (.cells (qcells ⟨0, 0, 0, 0, 0⟩ none 0 0) 26))
  have g1 := Lib.hid (show ((w.alloc (.cells (qcells ⟨i, f, t, cp, s⟩ A n c) 26)).alloc (.cells (qcells ⟨0, 0, 0, 0, 0⟩ none 0 0) 26)).heap[w.heap.size + 1]? = some (.cells (qcells ⟨0, 0, 0, 0, 0⟩ none 0 0) 26 (0, 0)) by
    have := blk_new (w.alloc (.cells (qcells ⟨i, f, t, cp, s⟩ A n c) 26)) (qcells ⟨0, 0, 0, 0, 0⟩ none 0 0) 26; simpa using this)
  have hsz : ((w.alloc (.cells (qcells ⟨i, f, t, cp, s⟩ A n c) 26)).alloc (.cells (qcells ⟨0, 0, 0, 0, 0⟩ none 0 0) 26)).heap.size = w.heap.size + 2 := by simp
  have hX : Below w.heap.size w ((w.alloc (.cells (qcells ⟨i, f, t, cp, s⟩ A n c) 26)).alloc (.cells (qcells ⟨0, 0, 0, 0, 0⟩ none 0 0) 26)) := ((Below.refl _ _).alloc (Nat.le_refl _) _).alloc (by simp) _
  have T := mayQueue ⟨i, f, t, cp, s⟩ A c ls (by omega) ((w.alloc (.cells (qcells ⟨i, f, t, cp, s⟩ A n c) 26)).alloc (.cells (qcells ⟨0, 0, 0, 0, 0⟩ none 0 0) 26)) (h.below hX)
  rw [hq, hn] at T
  have HV := Lib.hid (show takeR ⟨i, f, t, cp, s⟩ ls = ([], ch0, [], 100) by unfold takeR; rw [hq, if_pos rfl]; rw [List.eq_nil_of_length_eq_zero (hn.trans h0)])
  have e1 : ((n : Int) == 0) = true := by rw [h0]; rfl
  have _ := hn
  clear h0 hn
  dsimp only [qcells] at T hsz hX ⊢
  have HT := Lib.hid T; clear T h hq
  go_enter Try.func17, Try.ntmps17
  go_wp2_with fail
  refine HT.out.mono ?_
  rintro e w1 ⟨rfl, b1⟩
  have h0 := blk_below g0.out b1 (by omega); have h1 := blk_below g1.out b1 (by omega)
  have a10 : w1.cell? ⟨w.heap.size, 0, none⟩ = some (.int .i64 i) := blk_cell h0 0
  have a11 : w1.cell? ⟨w.heap.size, 1, none⟩ = some (.int .i64 f) := blk_cell h0 1
  have a12 : w1.cell? ⟨w.heap.size, 2, none⟩ = some (.int .i64 t) := blk_cell h0 2
  have a13 : w1.cell? ⟨w.heap.size, 3, none⟩ = some (.int .i64 cp) := blk_cell h0 3
  have a14 : w1.cell? ⟨w.heap.size, 4, none⟩ = some (.int .i64 s) := blk_cell h0 4
  have a15 : w1.cell? ⟨w.heap.size, 5, none⟩ = some (.slice A n c) := blk_cell h0 5
  have q10 : w1.cell? ⟨w.heap.size + 1, 0, none⟩ = some (.int .i64 0) := blk_cell h1 0
  have q11 : w1.cell? ⟨w.heap.size + 1, 1, none⟩ = some (.int .i64 0) := blk_cell h1 1
  have q12 : w1.cell? ⟨w.heap.size + 1, 2, none⟩ = some (.int .i64 0) := blk_cell h1 2
  have q13 : w1.cell? ⟨w.heap.size + 1, 3, none⟩ = some (.int .i64 0) := blk_cell h1 3
  have q14 : w1.cell? ⟨w.heap.size + 1, 4, none⟩ = some (.int .i64 0) := blk_cell h1 4
  have q15 : w1.cell? ⟨w.heap.size + 1, 5, none⟩ = some (.slice none 0 0) := blk_cell h1 5
  have f10 := blk_frozen h1 0
  have f11 := blk_frozen h1 1
  have f12 := blk_frozen h1 2
  have f13 := blk_frozen h1 3
  have f14 := blk_frozen h1 4
  have f15 := blk_frozen h1 5
  have H1 := Lib.hid h1
  have B1 := Lib.hid (hX.trans (b1.mono (by omega))); clear b1 h0 h1
  go_wp2
  exact ret_tmp_row_tmp rfl (w.heap.size + 1) 26 _ _ rfl (q_set H1.out rfl _ _ _ _ _ _) Try.underlying26 rfl (by kernel_rfl) rfl (TOut.none HV.out (q_below B1.out (by omega) _ _ _ _ _ _))
end Go.Proofs.Ytlmecndldclnnaa.chan
