/- Channels: may a queue be; copies of messages; a new queue; no condition. -/
import Derived.Test.YtlmecndldclnnaaRows
import Derived.Test.YtlmecndldclnnaaChA
import Derived.Test.YtlmecndldclnnaaLibS
import Derived.Test.YtlmecndldclnnaaLibI
namespace Go.Proofs.Ytlmecndldclnnaa.chan
open Go Go.ChangeShapes Go.WideShapes Go.ChangeAt Go.RowKit Go.Proofs.Ytlmecndldclnnaa.rows
def vcells (l : List Value) : List Value := l
theorem vcells_at (l : List Value) (k : Nat) (p : Value) (h : l[k]? = some p) : (vcells l)[k]? = some p := h
theorem vcells_length (l : List Value) : (vcells l).length = l.length := rfl
set_option maxHeartbeats 1000000 in
theorem index_long (B : Nat) (f : Value → Bool) (l : List Value) (A : Option Addr) (c : Nat) (h63 : l.length ≤ 1000000) (w : World) (h : Rd w A (vcells l))
    (hf : ∀ W : World, Below w.heap.size w W → ∀ p ∈ l, Calls Try.prog 29 #[p, .pointer (some ⟨B, 0, none⟩)] W fun e w' => e = .returned (.bool (f p)) ∧ Below W.heap.size W w') :
    Calls Try.prog 35 #[.slice A l.length c, .func (.func 29) #[] #[.pointer (some ⟨B, 0, none⟩)]] w fun e w' => e = .returned (.int .i64 (firstI f l)) ∧ Below w.heap.size w w' := by
  have h63' : (l.length : Int) ≤ 1000000 := by omega
  have H := Lib.hid h; have HF := Lib.hid hf
  clear h hf
  go_enter Try.func35, Try.ntmps35
  go_wp2
  go_loopw [8] (fun i wr => ∃ k : Nat, k ≤ l.length ∧ i = .int .i64 k ∧ (∀ (j : Nat) (p : Value), j < k → l[j]? = some p → f p = false) ∧ Below w.heap.size w wr) (fun i _ => l.length - (intOf i).toNat)
  case atStart => exact ⟨0, Nat.zero_le _, rfl, (fun j p hj => absurd hj (Nat.not_lt_zero _)), Below.refl _ _⟩
  case round =>
    obtain ⟨k, hk, rfl, hno, hb⟩ := hrel
    have HB := Lib.hid hb; have HN := Lib.hid hno; have hz := hb.size
    clear hb hno
    by_cases hkl : k < l.length
    · have hki : (k : Int) < (l.length : Int) := by omega
      obtain ⟨b, off, rfl, hlt⟩ := H.out.addr (by rw [vcells_length]; omega)
      obtain ⟨p, hp⟩ : ∃ p, l[k]? = some p := ⟨l[k], List.getElem?_eq_getElem hkl⟩
      have hr := H.out.below HB.out
      have hw := vcells_at l k _ hp
      have c0 := hr.cell hw
      have T := HF.out wr HB.out p (List.mem_of_getElem? hp)
      have HP := Lib.hid hp
      clear hw hp hr
      cases hfp : f p with
      | true =>
        rw [hfp] at T
        have HT := Lib.hid T; have HFP := Lib.hid hfp
        clear T hfp
        go_wp2_with fail
        refine HT.out.mono ?_
        rintro e w1 ⟨rfl, b1⟩
        have B1 := Lib.hid (HB.out.trans (b1.mono hz)); clear b1
        go_wp2
        go_ret
        exact ⟨by rw [firstI_at f l k p HP.out HFP.out HN.out]; rfl, B1.out⟩
      | false =>
        rw [hfp] at T
        have HT := Lib.hid T; have HFP := Lib.hid hfp
        clear T hfp
        go_wp2_with fail
        refine HT.out.mono ?_
        rintro e w1 ⟨rfl, b1⟩
        have B1 := Lib.hid (HB.out.trans (b1.mono hz)); clear b1
        go_wp2
        go_roundw
        case rel => exact ⟨k + 1, by omega, by go_num, (fun j q hj hq => (Nat.lt_or_eq_of_le (Nat.lt_succ_iff.1 hj)).elim (fun h => HN.out j q h hq) (fun h => by subst h; rw [HP.out] at hq; injection hq with hq; subst hq; exact HFP.out)), B1.out⟩
        case measure => simp [intOf]; omega
    · obtain rfl : k = l.length := by omega
      go_wp2
      go_ret
      exact ⟨by rw [firstI_none f l HN.out]; rfl, HB.out⟩
theorem contains_long (B : Nat) (f : Value → Bool) (l : List Value) (A : Option Addr) (c : Nat) (h63 : l.length ≤ 1000000) (w : World) (h : Rd w A (vcells l))
    (hf : ∀ W : World, Below w.heap.size w W → ∀ p ∈ l, Calls Try.prog 29 #[p, .pointer (some ⟨B, 0, none⟩)] W fun e w' => e = .returned (.bool (f p)) ∧ Below W.heap.size W w') :
    Calls Try.prog 30 #[.slice A l.length c, .func (.func 29) #[] #[.pointer (some ⟨B, 0, none⟩)]] w fun e w' => e = .returned (.bool (l.any f)) ∧ Below w.heap.size w w' := by
  have T := index_long B f l A c h63 w h hf
  have HT := Lib.hid T; have HI := Lib.hid (firstI_any f l)
  generalize firstI f l = z at *
  clear T h hf h63
  go_enter Try.func30, Try.ntmps30
  go_wp2_with fail
  refine HT.out.mono ?_
  rintro e w1 ⟨rfl, b1⟩
  have B1 := Lib.hid b1; clear b1
  go_wp2
  go_ret
  exact ⟨by rw [HI.out]; rfl, B1.out⟩

theorem below_alloc {w w' : World} {o : Obj} (h : Below (w.alloc o).heap.size (w.alloc o) w') : Below w.heap.size w w' :=
  ((Below.refl _ _).alloc (Nat.le_refl _) o).trans (h.mono (by simp))
/-- A queue's cells. -/
def qcells (x : Ch) (A : Option Addr) (n c : Nat) : Array Value := #[.int .i64 x.id, .int .i64 x.fr, .int .i64 x.to, .int .i64 x.cap, .int .i64 x.sz, .slice A n c]
def longV (sz : Int) (v : Value) : Bool := match v with
  | .slice _ n _ => decide (sz < (n : Int))
  | _ => false
theorem long1 (x : Ch) (A0 : Option Addr) (n0 c0 : Nat) (B : Nat) (A : Option Addr) (n c : Nat) (w : World) (hB : w.heap[B]? = some (.cells (qcells x A0 n0 c0) 26 (0, 0))) :
    Calls Try.prog 29 #[.slice A n c, .pointer (some ⟨B, 0, none⟩)] w fun e w' => e = .returned (.bool (decide (x.sz < (n : Int)))) ∧ w = w' := by
  have c4 : w.cell? ⟨B, 4, none⟩ = some (.int .i64 x.sz) := blk_cell hB 4
  clear hB
  go_enter Try.func29, Try.ntmps29
  go_wp2
  go_ret
  exact ⟨rfl, rfl⟩
def mayQ (x : Ch) (ls : List Msg) : Bool := mayC x && decide ((ls.length : Int) ≤ x.cap) && !(ls.any fun l => decide (x.sz < (l.length : Int)))
set_option maxHeartbeats 1000000 in
theorem mayQueue (x : Ch) (A : Option Addr) (c : Nat) (ls : List Msg) (h63 : ls.length ≤ 1000000) (w : World) (h : Rms w A ls) :
    Calls Try.prog 20 #[.agg (qcells x A ls.length c)] w fun e w' => e = .returned (.bool (mayQ x ls)) ∧ Below w.heap.size w w' := by
  have hX := (Below.refl w.heap.size w).alloc (Nat.le_refl _) (.cells (qcells x A ls.length c) 26)
  have G0 := blk_new w (qcells x A ls.length c) 26
  have T := may x (w.alloc (.cells (qcells x A ls.length c) 26))
  obtain ⟨vs, hvl, hrv, hvm⟩ := h
  have hany : vs.any (longV x.sz) = ls.any (fun l => decide (x.sz < (l.length : Int))) := any_of _ _ vs ls hvl fun k u l hu hl => by
    obtain ⟨A', c', e1, _⟩ := hvm k l hl
    rw [e1] at hu; injection hu with hu; subst hu; rfl
  have TC := fun (W : World) (hW : Below (w.alloc (.cells (qcells x A ls.length c) 26)).heap.size (w.alloc (.cells (qcells x A ls.length c) 26)) W) => contains_long w.heap.size (longV x.sz) vs A c (by omega) W ((hrv.below hX).below hW) (fun W2 hW2 p hp => by
    obtain ⟨k, hk⟩ := List.mem_iff_getElem?.1 hp
    have hkl := (List.getElem?_eq_some_iff.1 hk).1
    obtain ⟨A', c', e1, _⟩ := hvm k ls[k] (List.getElem?_eq_getElem (by omega))
    rw [hk] at e1; injection e1 with e1; subst e1
    exact (long1 x A ls.length c w.heap.size A' _ c' W2 (blk_below (blk_below G0 hW (by simp)) hW2 (by have := hW.size; simp at this; omega))).mono fun e w' ⟨he, hw⟩ => ⟨he, hw ▸ Below.refl _ _⟩)
  rw [hvl, hany] at TC
  unfold mayQ
  generalize (ls.any fun l => decide (x.sz < (l.length : Int))) = an at *
  generalize ls.length = n at *
  have HX := Lib.hid hX; have HG := Lib.hid G0; have HTC := Lib.hid TC
  clear hX G0 TC hvm hany hrv hvl
  obtain ⟨i, f, t, cp, s⟩ := x
  cases hm : mayC ⟨i, f, t, cp, s⟩ with
  | false =>
    rw [hm] at T
    have HT := Lib.hid T; clear T hm
    try dsimp only [qcells, Ch.cells]
    go_enter Try.func20, Try.ntmps20
    go_wp2_with fail
    refine HT.out.mono ?_
    rintro e w1 ⟨rfl, b1⟩
    have B1 := Lib.hid (below_alloc b1); clear b1
    go_wp2
    go_ret
    exact ⟨rfl, B1.out⟩
  | true =>
    rw [hm] at T
    have HT := Lib.hid T; clear T hm
    by_cases hcp : (n : Int) ≤ cp
    · simp only [hcp, decide_true, Bool.true_and]
      cases an with
      | true =>
        try dsimp only [qcells, Ch.cells]
        go_enter Try.func20, Try.ntmps20
        go_wp2_with fail
        refine HT.out.mono ?_
        rintro e w1 ⟨rfl, b1⟩
        have g1 := blk_below HG.out b1 (by simp)
        have c3 : w1.cell? ⟨w.heap.size, 3, none⟩ = some (.int .i64 cp) := blk_cell g1 3
        have c5 : w1.cell? ⟨w.heap.size, 5, none⟩ = some (.slice A n c) := blk_cell g1 5
        have K := Lib.hid (HTC.out w1 b1); have B1 := Lib.hid (below_alloc b1); clear b1 g1
        go_wp2_with fail
        refine K.out.mono ?_
        rintro e w2 ⟨rfl, b2⟩
        have B2 := Lib.hid (B1.out.trans (b2.mono B1.out.size)); clear b2
        go_wp2
        go_ret
        exact ⟨rfl, B2.out⟩
      | false =>
        try dsimp only [qcells, Ch.cells]
        go_enter Try.func20, Try.ntmps20
        go_wp2_with fail
        refine HT.out.mono ?_
        rintro e w1 ⟨rfl, b1⟩
        have g1 := blk_below HG.out b1 (by simp)
        have c3 : w1.cell? ⟨w.heap.size, 3, none⟩ = some (.int .i64 cp) := blk_cell g1 3
        have c5 : w1.cell? ⟨w.heap.size, 5, none⟩ = some (.slice A n c) := blk_cell g1 5
        have K := Lib.hid (HTC.out w1 b1); have B1 := Lib.hid (below_alloc b1); clear b1 g1
        go_wp2_with fail
        refine K.out.mono ?_
        rintro e w2 ⟨rfl, b2⟩
        have B2 := Lib.hid (B1.out.trans (b2.mono B1.out.size)); clear b2
        go_wp2
        go_ret
        exact ⟨rfl, B2.out⟩
    · simp only [hcp, decide_false, Bool.and_false, Bool.false_and]
      try dsimp only [qcells, Ch.cells]
      go_enter Try.func20, Try.ntmps20
      go_wp2_with fail
      refine HT.out.mono ?_
      rintro e w1 ⟨rfl, b1⟩
      have g1 := blk_below HG.out b1 (by simp)
      have c3 : w1.cell? ⟨w.heap.size, 3, none⟩ = some (.int .i64 cp) := blk_cell g1 3
      have c5 : w1.cell? ⟨w.heap.size, 5, none⟩ = some (.slice A n c) := blk_cell g1 5
      have B1 := Lib.hid (below_alloc b1); clear b1 g1
      go_wp2
      go_ret
      exact ⟨rfl, B1.out⟩
theorem mayQ_bad {x : Ch} {ls : List Msg} (k : Nat) (l : Msg) (hl : ls[k]? = some l) (h : x.sz < (l.length : Int)) : mayQ x ls = false := by
  unfold mayQ
  rw [show (ls.any fun l => decide (x.sz < (l.length : Int))) = true from List.any_eq_true.2 ⟨l, List.mem_of_getElem? hl, decide_eq_true h⟩]
  simp
theorem mayQ_good {x : Ch} {ls : List Msg} (h1 : mayC x = true) (h2 : (ls.length : Int) ≤ x.cap) (h : ∀ (k : Nat) (l : Msg), k < ls.length → ls[k]? = some l → (l.length : Int) ≤ x.sz) : mayQ x ls = true := by
  unfold mayQ
  rw [h1, decide_eq_true h2, show (ls.any fun l => decide (x.sz < (l.length : Int))) = false from ?_]
  · rfl
  · rw [List.any_eq_false]
    intro l hl
    obtain ⟨k, hk⟩ := List.mem_iff_getElem?.1 hl
    have := h k l (List.getElem?_eq_some_iff.1 hk).1 hk
    simp; omega
set_option maxHeartbeats 2000000 in
theorem rmayQueue (x : Ch) (A : Option Addr) (c : Nat) (ls : List Msg) (h63 : ls.length ≤ 1000000) (w : World) (h : Rms w A ls) :
    Calls Try.prog 26 #[.agg (qcells x A ls.length c)] w fun e w' => e = .returned (.bool (mayQ x ls)) ∧ Below w.heap.size w w' := by
  have hX := (Below.refl w.heap.size w).alloc (Nat.le_refl _) (.cells (qcells x A ls.length c) 26)
  have G0 := blk_new w (qcells x A ls.length c) 26
  have T := rmay x (w.alloc (.cells (qcells x A ls.length c) 26))
  have HX := Lib.hid hX; have HG := Lib.hid G0; have H := Lib.hid (h.below hX)
  have h63' : (ls.length : Int) ≤ 1000000 := by omega
  have hsz : (w.alloc (.cells (qcells x A ls.length c) 26)).heap.size = w.heap.size + 1 := by simp
  clear hX G0 h
  cases hm : mayC x with
  | false =>
    rw [hm] at T
    have HV := Lib.hid (show mayQ x ls = false by unfold mayQ; rw [hm]; rfl)
    have HT := Lib.hid T; clear T hm
    obtain ⟨i, f, t, cp, s⟩ := x
    try dsimp only [qcells, Ch.cells]
    go_enter Try.func26, Try.ntmps26
    go_wp2_with fail
    refine HT.out.mono ?_
    rintro e w1 ⟨rfl, b1⟩
    have B1 := Lib.hid (below_alloc b1); clear b1
    go_wp2
    go_ret
    exact ⟨by rw [HV.out]; rfl, B1.out⟩
  | true =>
    rw [hm] at T
    have HM := Lib.hid hm
    have HT := Lib.hid T; clear T hm
    by_cases hcp : (ls.length : Int) ≤ x.cap
    · have HCP := Lib.hid hcp
      have HBAD := Lib.hid (fun k l hl h => mayQ_bad (x := x) (ls := ls) k l hl h)
      have HGOOD := Lib.hid (fun h => mayQ_good (x := x) (ls := ls) HM.out hcp h)
      obtain ⟨i, f, t, cp, s⟩ := x
      simp only at hcp
      try dsimp only [qcells, Ch.cells]
      go_enter Try.func26, Try.ntmps26
      go_wp2_with fail
      refine HT.out.mono ?_
      rintro e w1 ⟨rfl, b1⟩
      have G1 := Lib.hid (blk_below HG.out b1 (by simp))
      have c3 : w1.cell? ⟨w.heap.size, 3, none⟩ = some (.int .i64 cp) := blk_cell G1.out 3
      have c5 : w1.cell? ⟨w.heap.size, 5, none⟩ = some (.slice A ls.length c) := blk_cell G1.out 5
      have H1 := Lib.hid (H.out.below b1); have z1 := b1.size; have B1 := Lib.hid (below_alloc b1); clear b1
      go_wp2_with fail
      clear c3 c5
      go_loopw [3] (fun i wr => ∃ k : Nat, k ≤ ls.length ∧ i = .int .i64 k ∧ (∀ (j : Nat) (l : Msg), j < k → ls[j]? = some l → (l.length : Int) ≤ s) ∧ Below w1.heap.size w1 wr) (fun i _ => ls.length - (intOf i).toNat)
      case atStart => exact ⟨0, Nat.zero_le _, rfl, (fun j l h => absurd h (Nat.not_lt_zero _)), Below.refl _ _⟩
      case round =>
        obtain ⟨k, hk, rfl, hall, hb⟩ := hrel
        have HB := Lib.hid hb; have HA := Lib.hid hall; clear hb hall
        have gr := blk_below G1.out HB.out (by omega)
        have c4 : wr.cell? ⟨w.heap.size, 4, none⟩ = some (.int .i64 s) := blk_cell gr 4
        have c5 : wr.cell? ⟨w.heap.size, 5, none⟩ = some (.slice A ls.length c) := blk_cell gr 5
        clear gr
        by_cases hkl : k < ls.length
        · have hki : (k : Int) < (ls.length : Int) := by omega
          obtain ⟨b, off, rfl⟩ := H1.out.addr (by omega)
          obtain ⟨l, hl⟩ : ∃ l, ls[k]? = some l := ⟨_, List.getElem?_eq_getElem hkl⟩
          obtain ⟨A', c', cl, _, _, _⟩ := (H1.out.below HB.out).at hl
          have HL := Lib.hid hl; clear hl
          by_cases hs : s < (l.length : Int)
          · have d1 : decide (s < (l.length : Int)) = true := decide_eq_true hs
            have HS := Lib.hid hs; clear hs
            go_wp2_with fail
            go_quiet (fail)
            go_wp2
            go_ret
            exact ⟨by rw [HBAD.out k l HL.out HS.out]; rfl, B1.out.trans ((below_drewN HB.out _).mono (by have := B1.out.size; omega))⟩
          · have d1 : decide (s < (l.length : Int)) = false := decide_eq_false hs
            have HS := Lib.hid (show (l.length : Int) ≤ s by omega); clear hs
            go_wp2_with fail
            go_quiet (fail)
            go_wp2_with fail
            go_roundw
            case rel => exact ⟨k + 1, by omega, by go_num, (fun j y hj hy => (Nat.lt_or_eq_of_le (Nat.lt_succ_iff.1 hj)).elim (fun h => HA.out j y h hy) (fun h => by subst h; rw [HL.out] at hy; injection hy with hy; subst hy; exact HS.out)), below_drewN HB.out _⟩
            case measure => simp [intOf]; omega
        · obtain rfl : k = ls.length := by omega
          go_wp2
          go_ret
          exact ⟨by rw [HGOOD.out HA.out]; rfl, B1.out.trans (HB.out.mono (by have := B1.out.size; omega))⟩
    · have HV := Lib.hid (show mayQ x ls = false by unfold mayQ; rw [decide_eq_false hcp]; simp)
      obtain ⟨i, f, t, cp, s⟩ := x
      simp only at hcp
      have d1 : (cp : Int) < (ls.length : Int) := by omega
      try dsimp only [qcells, Ch.cells]
      go_enter Try.func26, Try.ntmps26
      go_wp2_with fail
      refine HT.out.mono ?_
      rintro e w1 ⟨rfl, b1⟩
      have g1 := blk_below HG.out b1 (by simp)
      have c3 : w1.cell? ⟨w.heap.size, 3, none⟩ = some (.int .i64 cp) := blk_cell g1 3
      have c5 : w1.cell? ⟨w.heap.size, 5, none⟩ = some (.slice A ls.length c) := blk_cell g1 5
      have B1 := Lib.hid (below_alloc b1); clear b1 g1
      go_wp2
      go_ret
      exact ⟨by rw [HV.out]; rfl, B1.out⟩
/-! ### copies of messages -/
set_option maxHeartbeats 2000000 in
theorem copied (A : Option Addr) (c : Nat) (ls : List Msg) (h63 : ls.length ≤ 1000) (hml : ∀ l ∈ ls, l.length ≤ 1000000) (w : World) (h : Rms w A ls) :
    Calls Try.prog 27 #[.slice A ls.length c] w fun e w' => ∃ v, e = .returned v ∧ Grow w.heap.size w' v ls ∧ Below w.heap.size w w' := by
  obtain ⟨i0, hi, hz0, hz1, hz2⟩ := info_parts info_row
  have h63' : (ls.length : Int) ≤ 1000 := by omega
  have H := Lib.hid h; have HM := Lib.hid hml
  clear h hml
  try dsimp only [qcells, Ch.cells]
  go_enter Try.func27, Try.ntmps27
  go_wp2
  go_loopw [3, 8] (fun v i wr => ∃ k : Nat, k ≤ ls.length ∧ i = .int .i64 k ∧ Grow w.heap.size wr v (ls.take k) ∧ Below w.heap.size w wr) (fun _ i _ => ls.length - (intOf i).toNat)
  case atStart => exact ⟨0, Nat.zero_le _, rfl, Grow.nil _ _, Below.refl _ _⟩
  case round =>
    obtain ⟨k, hk, rfl, hg, hb⟩ := hrel
    have HB := Lib.hid hb; have HG := Lib.hid hg; have hz := hb.size
    clear hb hg
    by_cases hkl : k < ls.length
    · have hki : (k : Int) < (ls.length : Int) := by omega
      obtain ⟨b, off, rfl⟩ := H.out.addr (by omega)
      obtain ⟨l, hl⟩ : ∃ l, ls[k]? = some l := ⟨_, List.getElem?_eq_getElem hkl⟩
      obtain ⟨A', c', cl, hlc, hA', hrl⟩ := (H.out.below HB.out).at hl
      have TC := clone A' c' l hA' hlc (HM.out l (List.mem_of_getElem? hl)) wr hrl
      have HT := Lib.hid TC
      have HTK := Lib.hid (show ls.take (k + 1) = ls.take k ++ [l] by rw [List.take_add_one, hl]; rfl)
      have HLEN := Lib.hid (show (ls.take k).length = k by rw [List.length_take]; omega)
      obtain ⟨A0, c0, rfl, _, _, _, _⟩ := HG.out.form
      clear TC hlc hA' hrl hl
      have hlen : (ls.take k).length = k := HLEN.out
      rw [hlen] at HG ⊢
      clear hlen
      go_wp2_with fail
      refine HT.out.mono ?_
      rintro e w1 ⟨v1, rfl, hv1⟩
      have hm1 := hv1.msg
      obtain ⟨Av, cv, rfl, _, _, _, _, b1⟩ := hv1
      have hG1 := (HG.out.below b1).alloc (.cells #[.slice Av l.length cv] 27)
      have hB1 := (HB.out.trans (b1.mono hz)).alloc (Nat.le_trans hz b1.size) (.cells #[.slice Av l.length cv] 27)
      have hm2 := (hm1.below ((Below.refl w1.heap.size w1).alloc (Nat.le_refl _) (.cells #[.slice Av l.length cv] 27)) (Nat.le_refl _)).mono hz (show w1.heap.size ≤ (w1.alloc (.cells #[.slice Av l.length cv] 27)).heap.size by simp)
      obtain ⟨vs, hown, hvl, hms⟩ := hG1.own
      have hle := HLEN.out
      rw [hle] at hown hvl
      have HM2 := Lib.hid hm2; have HMS := Lib.hid hms; have HVL := Lib.hid hvl; have HB1 := Lib.hid hB1; have HO := Lib.hid hown
      have zz := hB1.size
      clear hm1 hm2 hG1 hB1 hms hvl hle b1 hown
      go_wp2_with (at_builtin; refine wpList_append_rd _ rfl (.tmp 12) (.tmp 15) 24 rfl w.heap.size 27 i0 (.slice none 0 0) 1 24 Try.underlying24 hi hz0 hz1 hz2 rfl (by decide) _ k vs rfl HO.out _ 1 _ [.slice Av l.length cv] rfl rfl (Rd.new _ _ _) ?c2 ?c3 ?c4 ?c5 ?_)
      case c2 => intro u hu; simp at hu; subst hu; rfl
      case c3 => unfold maxLen; omega
      case c4 => omega
      case c5 => exact zz
      intro v' w3 hown3 hg3
      have hgs : Grow w.heap.size w3 v' (ls.take k ++ [l]) := Grow.snoc (by rw [HLEN.out]; exact HO.out) (by rw [HLEN.out]; exact HVL.out) HMS.out HM2.out (by rw [HLEN.out]; exact hown3) hg3
      rw [← HTK.out] at hgs
      have hb3 := below_own HB1.out HO.out hg3 zz
      have HG3 := Lib.hid hgs; have HB3 := Lib.hid hb3
      clear hown3 hg3 hgs hb3 zz
      go_wp2
      go_roundw
      case rel => exact ⟨k + 1, by omega, by go_num, HG3.out, HB3.out⟩
      case measure => simp [intOf]; omega
    · obtain rfl : k = ls.length := by omega
      have hg := HG.out
      rw [List.take_length] at hg
      have HG2 := Lib.hid hg; clear hg
      go_wp2
      go_ret
      exact ⟨_, rfl, HG2.out, HB.out⟩
/-- Six stores into a queue's block. -/
theorem q_set {w : World} {g : Nat} {cs : Array Value} (hg : w.heap[g]? = some (.cells cs 26 (0, 0))) (hs : cs.size = 6) (u0 u1 u2 u3 u4 u5 : Value) :
    ((((((w.setCell ⟨g, 0, none⟩ u0).setCell ⟨g, 1, none⟩ u1).setCell ⟨g, 2, none⟩ u2).setCell ⟨g, 3, none⟩ u3).setCell ⟨g, 4, none⟩ u4).setCell ⟨g, 5, none⟩ u5).heap[g]? = some (.cells #[u0, u1, u2, u3, u4, u5] 26 (0, 0)) := by
  obtain ⟨l⟩ := cs
  have hl : l.length = 6 := by simpa using hs
  match l, hl with
  | [a0, a1, a2, a3, a4, a5], _ => exact blk_eq (blk_set (blk_set (blk_set (blk_set (blk_set (blk_set hg _ _) _ _) _ _) _ _) _ _) _ _) rfl
theorem q_below {B : Nat} {a w : World} {g : Nat} (h : Below B a w) (hB : B ≤ g) (u0 u1 u2 u3 u4 u5 : Value) :
    Below B a ((((((w.setCell ⟨g, 0, none⟩ u0).setCell ⟨g, 1, none⟩ u1).setCell ⟨g, 2, none⟩ u2).setCell ⟨g, 3, none⟩ u3).setCell ⟨g, 4, none⟩ u4).setCell ⟨g, 5, none⟩ u5) :=
  (((((h.setCell (p := ⟨g, 0, none⟩) hB u0).setCell (p := ⟨g, 1, none⟩) hB u1).setCell (p := ⟨g, 2, none⟩) hB u2).setCell (p := ⟨g, 3, none⟩) hB u3).setCell (p := ⟨g, 4, none⟩) hB u4).setCell (p := ⟨g, 5, none⟩) hB u5
set_option maxHeartbeats 1000000 in
theorem new_any (x : Ch) (w : World) : Calls Try.prog 19 #[.agg x.cells.toArray] w fun e w' => e = .returned (if mayC x = true then .tuple #[.agg (qcells x none 0 0), .int .i64 0] else .tuple #[.agg (qcells ⟨0, 0, 0, 0, 0⟩ none 0 0), .int .i64 2]) ∧ Below w.heap.size w w' := by
  obtain ⟨i, f, t, cp, s⟩ := x
  have T := may ⟨i, f, t, cp, s⟩ ((w.alloc (.cells #[.int .i64 i, .int .i64 f, .int .i64 t, .int .i64 cp, .int .i64 s] 23)).alloc (.cells (qcells ⟨0, 0, 0, 0, 0⟩ none 0 0) 26))
  have g0 := Lib.hid (blk_alloc (blk_new w #[.int .i64 i, .int .i64 f, .int .i64 t, .int .i64 cp, .int .i64 s] 23) (.cells (qcells ⟨0, 0, 0, 0, 0⟩ none 0 0) 26))
  have g1 := Lib.hid (show ((w.alloc (.cells #[.int .i64 i, .int .i64 f, .int .i64 t, .int .i64 cp, .int .i64 s] 23)).alloc (.cells (qcells ⟨0, 0, 0, 0, 0⟩ none 0 0) 26)).heap[w.heap.size + 1]? = some (.cells (qcells ⟨0, 0, 0, 0, 0⟩ none 0 0) 26 (0, 0)) by
    have := blk_new (w.alloc (.cells #[.int .i64 i, .int .i64 f, .int .i64 t, .int .i64 cp, .int .i64 s] 23)) (qcells ⟨0, 0, 0, 0, 0⟩ none 0 0) 26; simpa using this)
  have hsz : ((w.alloc (.cells #[.int .i64 i, .int .i64 f, .int .i64 t, .int .i64 cp, .int .i64 s] 23)).alloc (.cells (qcells ⟨0, 0, 0, 0, 0⟩ none 0 0) 26)).heap.size = w.heap.size + 2 := by simp
  cases hm : mayC ⟨i, f, t, cp, s⟩ with
  | true =>
    rw [hm] at T
    have HT := Lib.hid T; clear T hm
    rw [if_pos rfl]
    try dsimp only [qcells, Ch.cells]
    go_enter Try.func19, Try.ntmps19
    go_wp2_with fail
    refine HT.out.mono ?_
    rintro e w1 ⟨rfl, b1⟩
    have h0 := blk_below g0.out b1 (by omega); have h1 := blk_below g1.out b1 (by omega)
    have a0 : w1.cell? ⟨w.heap.size, 0, none⟩ = some (.int .i64 i) := blk_cell h0 0
    have a1 : w1.cell? ⟨w.heap.size, 1, none⟩ = some (.int .i64 f) := blk_cell h0 1
    have a2 : w1.cell? ⟨w.heap.size, 2, none⟩ = some (.int .i64 t) := blk_cell h0 2
    have a3 : w1.cell? ⟨w.heap.size, 3, none⟩ = some (.int .i64 cp) := blk_cell h0 3
    have a4 : w1.cell? ⟨w.heap.size, 4, none⟩ = some (.int .i64 s) := blk_cell h0 4
    have q0 : w1.cell? ⟨w.heap.size + 1, 0, none⟩ = some (.int .i64 0) := blk_cell h1 0
    have q1 : w1.cell? ⟨w.heap.size + 1, 1, none⟩ = some (.int .i64 0) := blk_cell h1 1
    have q2 : w1.cell? ⟨w.heap.size + 1, 2, none⟩ = some (.int .i64 0) := blk_cell h1 2
    have q3 : w1.cell? ⟨w.heap.size + 1, 3, none⟩ = some (.int .i64 0) := blk_cell h1 3
    have q4 : w1.cell? ⟨w.heap.size + 1, 4, none⟩ = some (.int .i64 0) := blk_cell h1 4
    have q5 : w1.cell? ⟨w.heap.size + 1, 5, none⟩ = some (.slice none 0 0) := blk_cell h1 5
    have f0 := blk_frozen h1 0; have f1 := blk_frozen h1 1; have f2 := blk_frozen h1 2; have f3 := blk_frozen h1 3; have f4 := blk_frozen h1 4; have f5 := blk_frozen h1 5
    have H1 := Lib.hid h1
    have B1 := Lib.hid (below_alloc (below_alloc b1)); clear b1 h0 h1
    go_wp2
    exact ret_row_tmp rfl (w.heap.size + 1) 26 _ _ rfl (q_set H1.out rfl _ _ _ _ _ _) Try.underlying26 rfl (by kernel_rfl) rfl ⟨rfl, q_below B1.out (by omega) _ _ _ _ _ _⟩
  | false =>
    rw [hm] at T
    have HT := Lib.hid T; clear T hm
    rw [if_neg (by decide)]
    try dsimp only [qcells, Ch.cells]
    go_enter Try.func19, Try.ntmps19
    go_wp2_with fail
    refine HT.out.mono ?_
    rintro e w1 ⟨rfl, b1⟩
    have h1 := blk_below g1.out b1 (by omega)
    have q0 : w1.cell? ⟨w.heap.size + 1, 0, none⟩ = some (.int .i64 0) := blk_cell h1 0
    have q1 : w1.cell? ⟨w.heap.size + 1, 1, none⟩ = some (.int .i64 0) := blk_cell h1 1
    have q2 : w1.cell? ⟨w.heap.size + 1, 2, none⟩ = some (.int .i64 0) := blk_cell h1 2
    have q3 : w1.cell? ⟨w.heap.size + 1, 3, none⟩ = some (.int .i64 0) := blk_cell h1 3
    have q4 : w1.cell? ⟨w.heap.size + 1, 4, none⟩ = some (.int .i64 0) := blk_cell h1 4
    have q5 : w1.cell? ⟨w.heap.size + 1, 5, none⟩ = some (.slice none 0 0) := blk_cell h1 5
    have f0 := blk_frozen h1 0; have f1 := blk_frozen h1 1; have f2 := blk_frozen h1 2; have f3 := blk_frozen h1 3; have f4 := blk_frozen h1 4; have f5 := blk_frozen h1 5
    have H1 := Lib.hid h1
    have B1 := Lib.hid (below_alloc (below_alloc b1)); clear b1 h1
    go_wp2
    exact ret_row_tmp rfl (w.heap.size + 1) 26 _ _ rfl (q_set H1.out rfl _ _ _ _ _ _) Try.underlying26 rfl (by kernel_rfl) rfl ⟨rfl, q_below B1.out (by omega) _ _ _ _ _ _⟩
end Go.Proofs.Ytlmecndldclnnaa.chan
