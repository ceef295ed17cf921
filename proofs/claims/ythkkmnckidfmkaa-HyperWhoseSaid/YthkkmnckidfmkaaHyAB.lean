/- Calls of a partition: parts and queues as data; the first queue of a list; no condition and what belongs to it. -/
import Derived.Test.YthkkmnckidfmkaaRows
import Derived.Test.YthkkmnckidfmkaaHyCh2
import Derived.Test.YthkkmnckidfmkaaHyMem2
import Derived.Test.YthkkmnckidfmkaaLibT
import Derived.Test.YthkkmnckidfmkaaLibI
namespace Go.Proofs.Ythkkmnckidfmkaa.hy
open Go Go.ChangeShapes Go.WideShapes Go.ChangeAt Go.RowKit Go.Proofs.Ythkkmnckidfmkaa.rows
abbrev Ch := chan.Ch
structure Pt where
  id : Int
  size : Int
  keep : Bool
  r0 : Int
  r1 : Int
  r2 : Int
  r3 : Int
  r4 : Int
  r5 : Int
  r6 : Int
  r7 : Int
  pc : Int
  st : Int
  mem : Msg
  deriving DecidableEq
structure Qu where
  ch : Ch
  msgs : List Msg
  deriving DecidableEq
/-- How an element's bytes read. -/
def inM (w : World) (A : Option Addr) (c : Nat) (x : Qu) : Prop := x.msgs.length ≤ c ∧ (A = none → c = 0) ∧ Rms w A x.msgs
theorem inM_below : ∀ w w' A c x, inM w A c x → Below w.heap.size w w' → inM w' A c x := fun _ _ _ _ _ h hb => ⟨h.1, h.2.1, h.2.2.below hb⟩
def Pt.cells (x : Pt) (A : Option Addr) (c : Nat) : List Value := [.int .i64 x.id, .int .i64 x.size, .bool x.keep, .int .u32 x.r0, .int .u32 x.r1, .int .u32 x.r2, .int .u32 x.r3, .int .u32 x.r4, .int .u32 x.r5, .int .u32 x.r6, .int .u32 x.r7, .int .u32 x.pc, .int .u8 x.st, .slice A x.mem.length c]
theorem info_pt : (Try.prog.info? 26).map (·.size) = some 14 := by kernel_rfl
theorem pt_one (x : Pt) (A : Option Addr) (c : Nat) : ((Pt.cells x A c).toArray).all (·.oneCell') = true := by simp [Pt.cells, Value.oneCell']
def Qu.cells (x : Qu) (A : Option Addr) (c : Nat) : List Value := [.int .i64 x.ch.id, .int .i64 x.ch.fr, .int .i64 x.ch.to, .int .i64 x.ch.cap, .int .i64 x.ch.sz, .slice A x.msgs.length c]
theorem qu_len : ∀ (x : Qu) A c, (Qu.cells x A c).length = 6 := fun _ _ _ => rfl
/-- A row of queues. -/
def Qus (w : World) (A : Option Addr) (xs : List Qu) : Prop := Rws Qu.cells (inM) w A xs
theorem Qus.below {w w' : World} {A : Option Addr} {xs : List Qu} (h : Qus w A xs) (hb : Below w.heap.size w w') : Qus w' A xs := Rws.below inM_below h hb
theorem info_qu : (Try.prog.info? 36).map (·.size) = some 6 := by kernel_rfl
theorem qu_one (x : Qu) (A : Option Addr) (c : Nat) : ((Qu.cells x A c).toArray).all (·.oneCell') = true := by simp [Qu.cells, Value.oneCell']
set_option maxHeartbeats 2000000 in
theorem index_bad (f : Qu → Bool) (l : List Qu) (A : Option Addr) (n c : Nat) (hn : l.length = n) (h63 : n ≤ 1000000) (w : World) (h : Qus w A l)
    (hf : ∀ W : World, Below w.heap.size w W → ∀ x ∈ l, ∀ A c, inM W A c x → Calls Try.prog 20 #[.agg #[.int .i64 x.ch.id, .int .i64 x.ch.fr, .int .i64 x.ch.to, .int .i64 x.ch.cap, .int .i64 x.ch.sz, .slice A x.msgs.length c]] W fun e w' => e = .returned (.bool (f x)) ∧ Below W.heap.size W w') :
    Calls Try.prog 35 #[.slice A n c, .func (.func 20) #[] #[]] w fun e w' => e = .returned (.int .i64 (firstI f l)) ∧ Below w.heap.size w w' := by
  have h63' : (n : Int) ≤ 1000000 := by omega
  have H := Lib.hid h; have HF := Lib.hid hf; have HN0 := Lib.hid hn
  clear h hf hn
  go_enter Try.func35, Try.ntmps35
  go_wp2
  go_loopw [8] (fun i wr => ∃ k : Nat, k ≤ n ∧ i = .int .i64 k ∧ (∀ (j : Nat) (p : Qu), j < k → l[j]? = some p → f p = false) ∧ Below w.heap.size w wr) (fun i _ => n - (intOf i).toNat)
  case atStart => exact ⟨0, Nat.zero_le _, rfl, (fun j p hj => absurd hj (Nat.not_lt_zero _)), Below.refl _ _⟩
  case round =>
    obtain ⟨k, hk, rfl, hno, hb⟩ := hrel
    have HB := Lib.hid hb; have HN := Lib.hid hno; have hz := hb.size
    clear hb hno
    by_cases hkl : k < n
    · have hki : (k : Int) < (n : Int) := by omega
      have hk0 : (0 : Int) ≤ (k : Int) := by omega
      obtain ⟨b, off, rfl, _⟩ := Rws.addr qu_len (by decide) H.out (by rw [HN0.out]; omega)
      obtain ⟨x, hx⟩ : ∃ x, l[k]? = some x := ⟨_, List.getElem?_eq_getElem (by rw [HN0.out]; exact hkl)⟩
      obtain ⟨Am, cm, him, hc⟩ := Rws.at qu_len (H.out.below HB.out) hx
      have c0 : wr.cell? ⟨b, off + k * 6, none⟩ = some (.int .i64 x.ch.id) := hc 0 _ rfl
      have c1 : wr.cell? ⟨b, off + k * 6 + 1, none⟩ = some (.int .i64 x.ch.fr) := hc 1 _ rfl
      have c2 : wr.cell? ⟨b, off + k * 6 + 2, none⟩ = some (.int .i64 x.ch.to) := hc 2 _ rfl
      have c3 : wr.cell? ⟨b, off + k * 6 + 3, none⟩ = some (.int .i64 x.ch.cap) := hc 3 _ rfl
      have c4 : wr.cell? ⟨b, off + k * 6 + 4, none⟩ = some (.int .i64 x.ch.sz) := hc 4 _ rfl
      have c5 : wr.cell? ⟨b, off + k * 6 + 5, none⟩ = some (.slice Am x.msgs.length cm) := hc 5 _ rfl
      have T := HF.out wr HB.out x (List.mem_of_getElem? hx) Am cm him
      have HP := Lib.hid hx
      clear hx hc him
      cases hfp : f x with
      | true =>
        rw [hfp] at T
        have HT := Lib.hid T; have HFP := Lib.hid hfp
        clear T hfp
        go_wp2_with fail
        refine HT.out.mono ?_
        rintro e w1 ⟨rfl, b1⟩
        have B1 := Lib.hid (HB.out.trans (b1.mono hz)); clear b1
        go_wp2
        go_ret
        exact ⟨by rw [firstI_at f l k x HP.out HFP.out HN.out]; rfl, B1.out⟩
      | false =>
        rw [hfp] at T
        have HT := Lib.hid T; have HFP := Lib.hid hfp
        clear T hfp
        go_wp2_with fail
        refine HT.out.mono ?_
        rintro e w1 ⟨rfl, b1⟩
        have B1 := Lib.hid (HB.out.trans (b1.mono hz)); clear b1
        go_wp2
        go_roundw
        case rel => exact ⟨k + 1, by omega, by go_num, (fun j q hj hq => (Nat.lt_or_eq_of_le (Nat.lt_succ_iff.1 hj)).elim (fun h => HN.out j q h hq) (fun h => by subst h; rw [HP.out] at hq; injection hq with hq; subst hq; exact HFP.out)), B1.out⟩
        case measure => simp [intOf]; omega
    · obtain rfl : k = n := by omega
      have HFN := Lib.hid (firstI_none f l (fun j q hj hq => HN.out j q (by rw [← HN0.out]; exact hj) hq))
      go_wp2
      go_ret
      exact ⟨by rw [HFN.out]; rfl, HB.out⟩
set_option maxHeartbeats 2000000 in
theorem index_id (B : Nat) (f : Qu → Bool) (l : List Qu) (A : Option Addr) (n c : Nat) (hn : l.length = n) (h63 : n ≤ 1000000) (w : World) (h : Qus w A l)
    (hf : ∀ W : World, Below w.heap.size w W → ∀ x ∈ l, ∀ A c, inM W A c x → Calls Try.prog 50 #[.agg #[.int .i64 x.ch.id, .int .i64 x.ch.fr, .int .i64 x.ch.to, .int .i64 x.ch.cap, .int .i64 x.ch.sz, .slice A x.msgs.length c], .pointer (some ⟨B, 0, none⟩)] W fun e w' => e = .returned (.bool (f x)) ∧ Below W.heap.size W w') :
    Calls Try.prog 35 #[.slice A n c, .func (.func 50) #[] #[.pointer (some ⟨B, 0, none⟩)]] w fun e w' => e = .returned (.int .i64 (firstI f l)) ∧ Below w.heap.size w w' := by
  have h63' : (n : Int) ≤ 1000000 := by omega
  have H := Lib.hid h; have HF := Lib.hid hf; have HN0 := Lib.hid hn
  clear h hf hn
  go_enter Try.func35, Try.ntmps35
  go_wp2
  go_loopw [8] (fun i wr => ∃ k : Nat, k ≤ n ∧ i = .int .i64 k ∧ (∀ (j : Nat) (p : Qu), j < k → l[j]? = some p → f p = false) ∧ Below w.heap.size w wr) (fun i _ => n - (intOf i).toNat)
  case atStart => exact ⟨0, Nat.zero_le _, rfl, (fun j p hj => absurd hj (Nat.not_lt_zero _)), Below.refl _ _⟩
  case round =>
    obtain ⟨k, hk, rfl, hno, hb⟩ := hrel
    have HB := Lib.hid hb; have HN := Lib.hid hno; have hz := hb.size
    clear hb hno
    by_cases hkl : k < n
    · have hki : (k : Int) < (n : Int) := by omega
      have hk0 : (0 : Int) ≤ (k : Int) := by omega
      obtain ⟨b, off, rfl, _⟩ := Rws.addr qu_len (by decide) H.out (by rw [HN0.out]; omega)
      obtain ⟨x, hx⟩ : ∃ x, l[k]? = some x := ⟨_, List.getElem?_eq_getElem (by rw [HN0.out]; exact hkl)⟩
      obtain ⟨Am, cm, him, hc⟩ := Rws.at qu_len (H.out.below HB.out) hx
      have c0 : wr.cell? ⟨b, off + k * 6, none⟩ = some (.int .i64 x.ch.id) := hc 0 _ rfl
      have c1 : wr.cell? ⟨b, off + k * 6 + 1, none⟩ = some (.int .i64 x.ch.fr) := hc 1 _ rfl
      have c2 : wr.cell? ⟨b, off + k * 6 + 2, none⟩ = some (.int .i64 x.ch.to) := hc 2 _ rfl
      have c3 : wr.cell? ⟨b, off + k * 6 + 3, none⟩ = some (.int .i64 x.ch.cap) := hc 3 _ rfl
      have c4 : wr.cell? ⟨b, off + k * 6 + 4, none⟩ = some (.int .i64 x.ch.sz) := hc 4 _ rfl
      have c5 : wr.cell? ⟨b, off + k * 6 + 5, none⟩ = some (.slice Am x.msgs.length cm) := hc 5 _ rfl
      have T := HF.out wr HB.out x (List.mem_of_getElem? hx) Am cm him
      have HP := Lib.hid hx
      clear hx hc him
      cases hfp : f x with
      | true =>
        rw [hfp] at T
        have HT := Lib.hid T; have HFP := Lib.hid hfp
        clear T hfp
        go_wp2_with fail
        refine HT.out.mono ?_
        rintro e w1 ⟨rfl, b1⟩
        have B1 := Lib.hid (HB.out.trans (b1.mono hz)); clear b1
        go_wp2
        go_ret
        exact ⟨by rw [firstI_at f l k x HP.out HFP.out HN.out]; rfl, B1.out⟩
      | false =>
        rw [hfp] at T
        have HT := Lib.hid T; have HFP := Lib.hid hfp
        clear T hfp
        go_wp2_with fail
        refine HT.out.mono ?_
        rintro e w1 ⟨rfl, b1⟩
        have B1 := Lib.hid (HB.out.trans (b1.mono hz)); clear b1
        go_wp2
        go_roundw
        case rel => exact ⟨k + 1, by omega, by go_num, (fun j q hj hq => (Nat.lt_or_eq_of_le (Nat.lt_succ_iff.1 hj)).elim (fun h => HN.out j q h hq) (fun h => by subst h; rw [HP.out] at hq; injection hq with hq; subst hq; exact HFP.out)), B1.out⟩
        case measure => simp [intOf]; omega
    · obtain rfl : k = n := by omega
      have HFN := Lib.hid (firstI_none f l (fun j q hj hq => HN.out j q (by rw [← HN0.out]; exact hj) hq))
      go_wp2
      go_ret
      exact ⟨by rw [HFN.out]; rfl, HB.out⟩
theorem do1 (x : Qu) (A : Option Addr) (c : Nat) (h63 : x.msgs.length ≤ 1000000) (w : World) (h : inM w A c x) :
    Calls Try.prog 20 #[.agg #[.int .i64 x.ch.id, .int .i64 x.ch.fr, .int .i64 x.ch.to, .int .i64 x.ch.cap, .int .i64 x.ch.sz, .slice A x.msgs.length c]] w fun e w' => e = .returned (.bool (!chan.mayQ x.ch x.msgs)) ∧ Below w.heap.size w w' := by
  have hX := (Below.refl w.heap.size w).alloc (Nat.le_refl _) (.cells #[.int .i64 x.ch.id, .int .i64 x.ch.fr, .int .i64 x.ch.to, .int .i64 x.ch.cap, .int .i64 x.ch.sz, .slice A x.msgs.length c] 36)
  have G0 := blk_new w #[.int .i64 x.ch.id, .int .i64 x.ch.fr, .int .i64 x.ch.to, .int .i64 x.ch.cap, .int .i64 x.ch.sz, .slice A x.msgs.length c] 36
  have T := chan.mayQueue x.ch A c x.msgs h63 (w.alloc (.cells #[.int .i64 x.ch.id, .int .i64 x.ch.fr, .int .i64 x.ch.to, .int .i64 x.ch.cap, .int .i64 x.ch.sz, .slice A x.msgs.length c] 36)) (h.2.2.below hX)
  generalize chan.mayQ x.ch x.msgs = v at *
  have HX := Lib.hid hX; have HT := Lib.hid T; clear T h hX
  have c0 := blk_cell G0 0
  have c1 := blk_cell G0 1
  have c2 := blk_cell G0 2
  have c3 := blk_cell G0 3
  have c4 := blk_cell G0 4
  have c5 := blk_cell G0 5
  clear G0
  go_enter Try.func20, Try.ntmps20
  go_wp2_with fail
  refine HT.out.mono ?_
  rintro e w1 ⟨rfl, b1⟩
  have B1 := Lib.hid (HX.out.trans (b1.mono HX.out.size)); clear b1
  cases v
  all_goals
    go_wp2
    go_ret
    exact ⟨rfl, B1.out⟩
theorem contains_bad (l : List Qu) (A : Option Addr) (n c : Nat) (hn : l.length = n) (h63 : n ≤ 1000000) (hm : ∀ x ∈ l, x.msgs.length ≤ 1000000) (w : World) (h : Qus w A l) :
    Calls Try.prog 22 #[.slice A n c, .func (.func 20) #[] #[]] w fun e w' => e = .returned (.bool (l.any fun x => !chan.mayQ x.ch x.msgs)) ∧ Below w.heap.size w w' := by
  have T := index_bad (fun x => !chan.mayQ x.ch x.msgs) l A n c hn h63 w h (fun W hW x hx A c hi => do1 x A c (hm x hx) W hi)
  rw [firstI_any]
  have hlo := firstI_lo (fun x : Qu => !chan.mayQ x.ch x.msgs) l
  generalize firstI (fun x : Qu => !chan.mayQ x.ch x.msgs) l = v at *
  have HT := Lib.hid T; clear T
  go_enter Try.func22, Try.ntmps22
  go_wp2_with fail
  refine HT.out.mono ?_
  rintro e w1 ⟨rfl, b1⟩
  have B1 := Lib.hid b1; clear b1
  go_wp2
  go_ret
  exact ⟨rfl, B1.out⟩
theorem queue1 (x : Qu) (A : Option Addr) (c : Nat) (B : Nat) (r : Int) (h0 : 0 ≤ r) (h1 : r < 4294967296) (w : World) (hB : w.cell? ⟨B, 0, none⟩ = some (.int .u32 r)) :
    Calls Try.prog 50 #[.agg #[.int .i64 x.ch.id, .int .i64 x.ch.fr, .int .i64 x.ch.to, .int .i64 x.ch.cap, .int .i64 x.ch.sz, .slice A x.msgs.length c], .pointer (some ⟨B, 0, none⟩)] w fun e w' => e = .returned (.bool (decide (x.ch.id = r))) ∧ Below w.heap.size w w' := by
  have G0 := blk_new w #[.int .i64 x.ch.id, .int .i64 x.ch.fr, .int .i64 x.ch.to, .int .i64 x.ch.cap, .int .i64 x.ch.sz, .slice A x.msgs.length c] 36
  have c0 := blk_cell G0 0
  have hr := Lib.cell?_alloc_marked (.cells #[.int .i64 x.ch.id, .int .i64 x.ch.fr, .int .i64 x.ch.to, .int .i64 x.ch.cap, .int .i64 x.ch.sz, .slice A x.msgs.length c] 36) hB
  clear G0 hB
  by_cases hd : x.ch.id = r
  · subst hd
    go_enter Try.func50, Try.ntmps50
    go_wp2
    go_ret
    exact ⟨by simp, (Below.refl _ _).alloc (Nat.le_refl _) _⟩
  · have hd2 : (x.ch.id == r) = false := by simp [hd]
    have HD := Lib.hid hd; clear hd
    go_enter Try.func50, Try.ntmps50
    go_wp2
    go_ret
    exact ⟨by simp [HD.out], (Below.refl _ _).alloc (Nat.le_refl _) _⟩
end Go.Proofs.Ythkkmnckidfmkaa.hy
namespace Go.Proofs.Ythkkmnckidfmkaa.hy
open Go Go.ChangeShapes Go.WideShapes Go.ChangeAt Go.RowKit Go.Proofs.Ythkkmnckidfmkaa.rows
/-- All blocks of other elements stay. -/
def KeptX (T0 : TypeId) (w w' : World) : Prop := w.heap.size ≤ w'.heap.size ∧ ∀ (g : Nat) (cs : Array Value) (t : TypeId), t ≠ T0 → w.heap[g]? = some (.cells cs t (0, 0)) → w'.heap[g]? = some (.cells cs t (0, 0))
theorem KeptX.set {T0 : TypeId} {w : World} {g : Nat} {cs : Array Value} (hg : w.heap[g]? = some (.cells cs T0 (0, 0))) (k : Nat) (u : Value) : KeptX T0 w (w.setCell ⟨g, k, none⟩ u) :=
  ⟨by simp, fun g' cs' t ht hg' => blk_far hg' (p := ⟨g, k, none⟩) (fun e => by
    have e' : g' = g := e
    rw [e', hg] at hg'; injection hg' with hg'; injection hg' with _ h2; exact ht h2.symm) u⟩
theorem KeptX.trans {T0 : TypeId} {a b c : World} (h : KeptX T0 a b) (k : KeptX T0 b c) : KeptX T0 a c := ⟨Nat.le_trans h.1 k.1, fun g cs t ht hg => k.2 g cs t ht (h.2 g cs t ht hg)⟩
theorem RowIn.keptX {T T0 : TypeId} {lo : Nat} {w w' : World} {A : Option Addr} {xs : List Value} (h : RowIn T lo w.heap.size w A xs) (hT : T ≠ T0) (k : KeptX T0 w w') : RowIn T lo w'.heap.size w' A xs := by
  rcases h with h | ⟨g, off, cs, rfl, h1, h2, hg, hc⟩
  · exact .inl h
  · exact .inr ⟨g, off, cs, rfl, h1, Nat.lt_of_lt_of_le h2 k.1, k.2 g cs T hT hg, hc⟩
/-- Messages of the call's own. -/
def ownM (lo : Nat) (w : World) (A : Option Addr) (c : Nat) (x : Qu) : Prop := x.msgs.length ≤ c ∧ (A = none → c = 0) ∧ Own2 lo w.heap.size w A x.msgs
theorem ownM.below {lo : Nat} {w w' : World} {A : Option Addr} {c : Nat} {x : Qu} (h : ownM lo w A c x) (hb : Below w.heap.size w w') : ownM lo w' A c x := ⟨h.1, h.2.1, (h.2.2.below hb (Nat.le_refl _)).mono (Nat.le_refl _) hb.size⟩
theorem ownM.keptX {T0 : TypeId} (hT : 5 ≠ T0) (hT2 : 24 ≠ T0) {lo : Nat} {w w' : World} {A : Option Addr} {c : Nat} {x : Qu} (h : ownM lo w A c x) (k : KeptX T0 w w') : ownM lo w' A c x := by
  obtain ⟨g1, g2, vs, h1, h2, h3⟩ := h
  refine ⟨g1, g2, vs, h1, RowIn.keptX h2 hT2 k, fun j l hj => ?_⟩
  obtain ⟨A', c, e1, e2, e3, e5, e4⟩ := h3 j l hj
  exact ⟨A', c, e1, e2, e3, e5, RowIn.keptX e4 hT k⟩
theorem ownM.lo {lo lo' : Nat} {w : World} {A : Option Addr} {c : Nat} {x : Qu} (h : ownM lo w A c x) (hl : lo' ≤ lo) : ownM lo' w A c x := ⟨h.1, h.2.1, h.2.2.mono hl (Nat.le_refl _)⟩
/-- Bytes of the call's own. -/
def Bys (lo : Nat) (w : World) (C : Option Addr) (ci : Nat) (l : Msg) : Prop := l.length ≤ ci ∧ (C = none → ci = 0) ∧ RowIn 5 lo w.heap.size w C (bcs l)
theorem Bys.below {lo : Nat} {w w' : World} {C : Option Addr} {ci : Nat} {l : Msg} (h : Bys lo w C ci l) (hb : Below w.heap.size w w') : Bys lo w' C ci l := ⟨h.1, h.2.1, (h.2.2.below hb (Nat.le_refl _)).mono (Nat.le_refl _) hb.size⟩
theorem Bys.keptX {T0 : TypeId} (hT : 5 ≠ T0) {lo : Nat} {w w' : World} {C : Option Addr} {ci : Nat} {l : Msg} (h : Bys lo w C ci l) (k : KeptX T0 w w') : Bys lo w' C ci l := ⟨h.1, h.2.1, RowIn.keptX h.2.2 hT k⟩
theorem Bys.lo {lo lo' : Nat} {w : World} {C : Option Addr} {ci : Nat} {l : Msg} (h : Bys lo w C ci l) (hl : lo' ≤ lo) : Bys lo' w C ci l := ⟨h.1, h.2.1, h.2.2.mono hl (Nat.le_refl _)⟩
theorem Bys.nil {lo : Nat} {w : World} : Bys lo w none 0 [] := ⟨Nat.le_refl _, fun _ => rfl, .inl rfl⟩
theorem Bys.of_copy {l : Msg} {w w' : World} {v : Value} (h : mem.CopyOf l w v w') : ∃ A c, v = .slice A l.length c ∧ Bys w.heap.size w' A c l ∧ Below w.heap.size w w' := by
  obtain ⟨A, c, rfl, ho, hb⟩ := h
  obtain ⟨A', c', e, h1, h2, _, _⟩ := own_form3 ho
  injection e with eA _ ec
  subst eA; subst ec
  exact ⟨A, c, rfl, ⟨h1, h2, RowIn.of_own ho (Nat.le_refl _)⟩, hb⟩
theorem Bys.of_msg {lo : Nat} {w : World} {v : Value} {l : Msg} (h : MsgAt lo w.heap.size w v l) : ∃ A c, v = .slice A l.length c ∧ Bys lo w A c l := by
  obtain ⟨A, c, e, h1, h2, _, h4⟩ := h
  exact ⟨A, c, e, h1, h2, h4⟩
/-- Queues in a row of the call's own. -/
def QRow (lo : Nat) (w : World) (B : Option Addr) (d : Nat) (qs : List Qu) : Prop :=
  qs.length ≤ d ∧ (B = none → d = 0) ∧ ((∃ g, B = some ⟨g, 0, none⟩) ∨ qs = []) ∧ ∃ us : List (Sl Qu), us.map (·.1) = qs ∧ RowIn 36 lo w.heap.size w B (flat Qu.cells us) ∧ ∀ u ∈ us, ownM lo w u.2.1 u.2.2 u.1
theorem QRow.below {lo : Nat} {w w' : World} {B : Option Addr} {d : Nat} {qs : List Qu} (h : QRow lo w B d qs) (hb : Below w.heap.size w w') : QRow lo w' B d qs := by
  obtain ⟨h1, h2, h3, us, e1, e2, e3⟩ := h
  exact ⟨h1, h2, h3, us, e1, (e2.below hb (Nat.le_refl _)).mono (Nat.le_refl _) hb.size, fun u hu => (e3 u hu).below hb⟩
theorem QRow.keptX {T0 : TypeId} (hT : 5 ≠ T0) (hT2 : 24 ≠ T0) (hT3 : 36 ≠ T0) {lo : Nat} {w w' : World} {B : Option Addr} {d : Nat} {qs : List Qu} (h : QRow lo w B d qs) (k : KeptX T0 w w') : QRow lo w' B d qs := by
  obtain ⟨h1, h2, h3, us, e1, e2, e3⟩ := h
  exact ⟨h1, h2, h3, us, e1, RowIn.keptX e2 hT3 k, fun u hu => (e3 u hu).keptX hT hT2 k⟩
theorem QRow.qus {lo : Nat} {w : World} {B : Option Addr} {d : Nat} {qs : List Qu} (h : QRow lo w B d qs) : Qus w B qs := by
  obtain ⟨_, _, _, us, e1, e2, e3⟩ := h
  exact ⟨us, e1, e2.rd, fun u hu => ⟨(e3 u hu).1, (e3 u hu).2.1, (e3 u hu).2.2.rows⟩⟩
theorem QRow.lo {lo lo' : Nat} {w : World} {B : Option Addr} {d : Nat} {qs : List Qu} (h : QRow lo w B d qs) (hl : lo' ≤ lo) : QRow lo' w B d qs := by
  obtain ⟨h1, h2, h3, us, e1, e2, e3⟩ := h
  exact ⟨h1, h2, h3, us, e1, e2.mono hl (Nat.le_refl _), fun u hu => (e3 u hu).lo hl⟩
theorem QRow.nil {lo : Nat} {w : World} : QRow lo w none 0 [] := ⟨Nat.le_refl _, fun _ => rfl, .inr rfl, [], rfl, .inl rfl, fun u hu => by cases hu⟩
theorem flat_get : ∀ (us : List (Sl Qu)) (j : Nat), (flat Qu.cells us)[j]? = (us[j / 6]?).bind fun u => (Qu.cells u.1 u.2.1 u.2.2)[j % 6]?
  | [], j => by simp [flat]
  | u :: us, j => by
    have e : flat Qu.cells (u :: us) = Qu.cells u.1 u.2.1 u.2.2 ++ flat Qu.cells us := by simp [flat]
    rw [e]
    have hl : (Qu.cells u.1 u.2.1 u.2.2).length = 6 := rfl
    by_cases hj : j < 6
    · rw [List.getElem?_append_left (by rw [hl]; exact hj), Nat.div_eq_of_lt hj, Nat.mod_eq_of_lt hj]; rfl
    · rw [List.getElem?_append_right (by rw [hl]; omega), hl, flat_get us (j - 6)]
      have e1 : j / 6 = (j - 6) / 6 + 1 := by omega
      have e2 : j % 6 = (j - 6) % 6 := by omega
      rw [e1, e2]; rfl
abbrev set6 (w : World) (g o : Nat) (u0 u1 u2 u3 u4 u5 : Value) : World := (((((w.setCell ⟨g, o, none⟩ u0).setCell ⟨g, o + 1, none⟩ u1).setCell ⟨g, o + 2, none⟩ u2).setCell ⟨g, o + 3, none⟩ u3).setCell ⟨g, o + 4, none⟩ u4).setCell ⟨g, o + 5, none⟩ u5
abbrev put6 (cs : Array Value) (o : Nat) (u0 u1 u2 u3 u4 u5 : Value) : Array Value := (((((cs.setIfInBounds o u0).setIfInBounds (o + 1) u1).setIfInBounds (o + 2) u2).setIfInBounds (o + 3) u3).setIfInBounds (o + 4) u4).setIfInBounds (o + 5) u5
theorem set6_here {w : World} {g : Nat} {cs : Array Value} {T : TypeId} (hg : w.heap[g]? = some (.cells cs T (0, 0))) (o : Nat) (u0 u1 u2 u3 u4 u5 : Value) : (set6 w g o u0 u1 u2 u3 u4 u5).heap[g]? = some (.cells (put6 cs o u0 u1 u2 u3 u4 u5) T (0, 0)) :=
  blk_set (blk_set (blk_set (blk_set (blk_set (blk_set hg o u0) (o + 1) u1) (o + 2) u2) (o + 3) u3) (o + 4) u4) (o + 5) u5
theorem set6_kept {w : World} {g : Nat} {cs : Array Value} {T : TypeId} (hg : w.heap[g]? = some (.cells cs T (0, 0))) (o : Nat) (u0 u1 u2 u3 u4 u5 : Value) : KeptX T w (set6 w g o u0 u1 u2 u3 u4 u5) :=
  have h1 := blk_set hg o u0
  have h2 := blk_set h1 (o + 1) u1
  have h3 := blk_set h2 (o + 2) u2
  have h4 := blk_set h3 (o + 3) u3
  have h5 := blk_set h4 (o + 4) u4
  (KeptX.set hg o u0).trans ((KeptX.set h1 (o + 1) u1).trans ((KeptX.set h2 (o + 2) u2).trans ((KeptX.set h3 (o + 3) u3).trans ((KeptX.set h4 (o + 4) u4).trans (KeptX.set h5 (o + 5) u5)))))
theorem set6_below {B : Nat} {a w : World} {g : Nat} (h : Below B a w) (hB : B ≤ g) (o : Nat) (u0 u1 u2 u3 u4 u5 : Value) : Below B a (set6 w g o u0 u1 u2 u3 u4 u5) :=
  (((((h.setCell (p := ⟨g, o, none⟩) hB u0).setCell (p := ⟨g, o + 1, none⟩) hB u1).setCell (p := ⟨g, o + 2, none⟩) hB u2).setCell (p := ⟨g, o + 3, none⟩) hB u3).setCell (p := ⟨g, o + 4, none⟩) hB u4).setCell (p := ⟨g, o + 5, none⟩) hB u5
theorem put6_get {cs : Array Value} {k j : Nat} {u0 u1 u2 u3 u4 u5 v : Value} (hs : k * 6 + 5 < cs.size) (h : if j / 6 = k then [u0, u1, u2, u3, u4, u5][j % 6]? = some v else cs[j]? = some v) : (put6 cs (k * 6) u0 u1 u2 u3 u4 u5)[j]? = some v := by
  simp only [put6, Array.getElem?_setIfInBounds, Array.size_setIfInBounds]
  by_cases hj : j / 6 = k
  · rw [if_pos hj] at h
    have hr : j % 6 < 6 := Nat.mod_lt _ (by decide)
    have ej : j = k * 6 + j % 6 := by omega
    generalize j % 6 = r at *
    subst ej
    match r, hr, h with
    | 0, _, h => simpa [show k * 6 < cs.size by omega] using h
    | 1, _, h => simpa [show k * 6 + 1 < cs.size by omega] using h
    | 2, _, h => simpa [show k * 6 + 2 < cs.size by omega] using h
    | 3, _, h => simpa [show k * 6 + 3 < cs.size by omega] using h
    | 4, _, h => simpa [show k * 6 + 4 < cs.size by omega] using h
    | 5, _, h => simpa [show k * 6 + 5 < cs.size by omega] using h
  · rw [if_neg hj] at h
    rw [if_neg (by omega), if_neg (by omega), if_neg (by omega), if_neg (by omega), if_neg (by omega), if_neg (by omega)]
    exact h
/-- The place of a queue in its row. -/
theorem QRow.open {lo : Nat} {w : World} {B : Option Addr} {d : Nat} {qs : List Qu} (h : QRow lo w B d qs) {k : Nat} {q : Qu} (hq : qs[k]? = some q) :
    ∃ (gq : Nat) (A : Option Addr) (c : Nat), B = some ⟨gq, 0, none⟩ ∧ lo ≤ gq ∧ (∃ cs, w.heap[gq]? = some (.cells cs 36 (0, 0))) ∧ (∀ (j : Nat) (u : Value), (Qu.cells q A c)[j]? = some u → w.cell? ⟨gq, k * 6 + j, none⟩ = some u) ∧ ownM lo w A c q ∧
    (∀ (w' : World) (q' : Qu) (A' : Option Addr) (c' : Nat), QRow lo w' B d qs → ownM lo w' A' c' q' →
      QRow lo (set6 w' gq (k * 6) (.int .i64 q'.ch.id) (.int .i64 q'.ch.fr) (.int .i64 q'.ch.to) (.int .i64 q'.ch.cap) (.int .i64 q'.ch.sz) (.slice A' q'.msgs.length c')) B d (qs.set k q')) := by
  obtain ⟨h1, h2, h3, us, e1, e2, e3⟩ := h
  have hk := (List.getElem?_eq_some_iff.1 hq).1
  have hne : qs ≠ [] := fun e => by rw [e] at hk; exact absurd hk (Nat.not_lt_zero _)
  rcases h3 with ⟨gq, rfl⟩ | h3
  case inr => exact absurd h3 hne
  have hul : us.length = qs.length := by rw [← e1, List.length_map]
  obtain ⟨u, hu⟩ : ∃ u, us[k]? = some u := ⟨_, List.getElem?_eq_getElem (by rw [hul]; exact hk)⟩
  have hu1 : u.1 = q := by
    rw [← e1, List.getElem?_map, hu] at hq
    simpa using hq
  subst hu1
  have hfl : flat Qu.cells us ≠ [] := fun e => by
    have := flat_length Qu.cells 6 qu_len us
    rw [e] at this
    simp at this; omega
  rcases e2 with e2 | ⟨g', off, cs, eB, l1, l2, hg, hc⟩
  · exact absurd e2 hfl
  injection eB with eB; injection eB with eB1 eB2 _
  subst eB1; subst eB2
  refine ⟨gq, u.2.1, u.2.2, rfl, l1, ⟨cs, hg⟩, fun j v hv => ?_, e3 u (List.mem_of_getElem? hu), fun w' q' A' c' hQ ho => ?_⟩
  · rw [blk_cell hg]
    have := hc (k * 6 + j) v (flat_at Qu.cells 6 qu_len us k u hu j v hv)
    rwa [Nat.zero_add] at this
  · obtain ⟨h1', h2', _, us2, f1, f2, f3⟩ := hQ
    rcases f2 with f2 | ⟨g2, off2, cs2, eB, m1, m2, hg2, hc2⟩
    · have := flat_length Qu.cells 6 qu_len us2
      rw [f2] at this
      have hl2 : us2.length = qs.length := by rw [← f1, List.length_map]
      simp at this; omega
    injection eB with eB; injection eB with eB1 eB2 _
    subst eB1; subst eB2
    have hl2 : us2.length = qs.length := by rw [← f1, List.length_map]
    have hsz : k * 6 + 5 < cs2.size := by
      have hlen := flat_length Qu.cells 6 qu_len us2
      have := hc2 (k * 6 + 5) _ (List.getElem?_eq_getElem (by rw [hlen, hl2]; omega))
      rw [Nat.zero_add] at this
      exact (Array.getElem?_eq_some_iff.1 this).1
    have KX := set6_kept hg2 (k * 6) (.int .i64 q'.ch.id) (.int .i64 q'.ch.fr) (.int .i64 q'.ch.to) (.int .i64 q'.ch.cap) (.int .i64 q'.ch.sz) (.slice A' q'.msgs.length c')
    refine ⟨by rw [List.length_set]; exact h1', h2', .inl ⟨gq, rfl⟩, us2.set k (q', A', c'), ?_, ?_, fun x hx => ?_⟩
    · rw [List.map_set, f1]
    · refine .inr ⟨gq, 0, _, rfl, m1, Nat.lt_of_lt_of_le m2 KX.1, set6_here hg2 _ _ _ _ _ _ _, fun j v hv => ?_⟩
      rw [Nat.zero_add]
      refine put6_get hsz ?_
      rw [flat_get, List.getElem?_set] at hv
      by_cases hj : j / 6 = k
      · rw [if_pos hj]
        rw [if_pos hj.symm, if_pos (by rw [hl2]; exact hk)] at hv
        exact hv
      · rw [if_neg hj]
        rw [if_neg (fun e => hj e.symm), ← flat_get] at hv
        have := hc2 j v hv
        rwa [Nat.zero_add] at this
    · rcases List.mem_or_eq_of_mem_set hx with hx | rfl
      · exact (f3 x hx).keptX (by decide) (by decide) KX
      · exact ho.keptX (by decide) (by decide) KX
/-! ### The caller -/
def cells20 (x : Pt) (Am : Option Addr) (cm : Nat) (fr tk ver : Int) (B : Option Addr) (nq d : Nat) (Ci : Option Addr) (ni ci : Nat) (y : Bool) : Array Value :=
  #[.int .i64 x.id, .int .i64 x.size, .bool x.keep, .int .u32 x.r0, .int .u32 x.r1, .int .u32 x.r2, .int .u32 x.r3, .int .u32 x.r4, .int .u32 x.r5, .int .u32 x.r6, .int .u32 x.r7, .int .u32 x.pc, .int .u8 x.st, .slice Am x.mem.length cm, .int .i64 fr, .int .i64 tk, .int .i64 ver, .slice B nq d, .slice Ci ni ci, .bool y]
/-- The caller's block, and what its slices read as. -/
def Ato (lo g : Nat) (w : World) (cs : Array Value) (Am : Option Addr) (cm : Nat) (l : Msg) (B : Option Addr) (d : Nat) (qs : List Qu) (Ci : Option Addr) (ci : Nat) (inp : Msg) : Prop :=
  w.heap[g]? = some (.cells cs 61 (0, 0)) ∧ lo ≤ g ∧ Bys lo w Am cm l ∧ QRow lo w B d qs ∧ Bys lo w Ci ci inp
section
variable {lo g : Nat} {w w' : World} {cs : Array Value} {Am : Option Addr} {cm : Nat} {l : Msg} {B : Option Addr} {d : Nat} {qs : List Qu} {Ci : Option Addr} {ci : Nat} {inp : Msg}
theorem Ato.lt (h : Ato lo g w cs Am cm l B d qs Ci ci inp) : g < w.heap.size := blk_lt h.1
theorem Ato.size (h : Ato lo g w cs Am cm l B d qs Ci ci inp) : lo ≤ w.heap.size := Nat.le_trans h.2.1 (Nat.le_of_lt h.lt)
theorem Ato.below (h : Ato lo g w cs Am cm l B d qs Ci ci inp) (hb : Below w.heap.size w w') : Ato lo g w' cs Am cm l B d qs Ci ci inp :=
  ⟨blk_below h.1 hb h.lt, h.2.1, h.2.2.1.below hb, h.2.2.2.1.below hb, h.2.2.2.2.below hb⟩
theorem Ato.set (h : Ato lo g w cs Am cm l B d qs Ci ci inp) (k : Nat) (u : Value) : Ato lo g (w.setCell ⟨g, k, none⟩ u) (cs.setIfInBounds k u) Am cm l B d qs Ci ci inp :=
  have kx := KeptX.set h.1 k u
  ⟨blk_set h.1 k u, h.2.1, h.2.2.1.keptX (by decide) kx, h.2.2.2.1.keptX (by decide) (by decide) (by decide) kx, h.2.2.2.2.keptX (by decide) kx⟩
theorem Ato.drew (h : Ato lo g w cs Am cm l B d qs Ci ci inp) : Ato lo g w.drew cs Am cm l B d qs Ci ci inp := h
theorem Ato.cell (h : Ato lo g w cs Am cm l B d qs Ci ci inp) (k : Nat) : w.cell? ⟨g, k, none⟩ = cs[k]? := blk_cell h.1 k
theorem Ato.frozen (h : Ato lo g w cs Am cm l B d qs Ci ci inp) (k : Nat) : w.frozen? ⟨g, k, none⟩ = false := blk_frozen h.1 k
/-- Another queue in a queue's place. -/
theorem Ato.putQ {gq : Nat} (h : Ato lo g w cs Am cm l (some ⟨gq, 0, none⟩) d qs Ci ci inp) {k : Nat} (hk : k < qs.length) {q' : Qu} {A' : Option Addr} {c' : Nat} (ho : ownM lo w A' c' q') :
    Ato lo g (set6 w gq (k * 6) (.int .i64 q'.ch.id) (.int .i64 q'.ch.fr) (.int .i64 q'.ch.to) (.int .i64 q'.ch.cap) (.int .i64 q'.ch.sz) (.slice A' q'.msgs.length c')) cs Am cm l (some ⟨gq, 0, none⟩) d (qs.set k q') Ci ci inp ∧ lo ≤ gq := by
  obtain ⟨q, hq⟩ : ∃ q, qs[k]? = some q := ⟨_, List.getElem?_eq_getElem hk⟩
  obtain ⟨gq', A, c, e, hl, ⟨cq, hg⟩, _, _, hput⟩ := h.2.2.2.1.open hq
  injection e with e; injection e with e; subst e
  have KX := set6_kept hg (k * 6) (.int .i64 q'.ch.id) (.int .i64 q'.ch.fr) (.int .i64 q'.ch.to) (.int .i64 q'.ch.cap) (.int .i64 q'.ch.sz) (.slice A' q'.msgs.length c')
  exact ⟨⟨KX.2 _ _ _ (by decide) h.1, h.2.1, h.2.2.1.keptX (by decide) KX, hput w q' A' c' h.2.2.2.1 ho, h.2.2.2.2.keptX (by decide) KX⟩, hl⟩
end
end Go.Proofs.Ythkkmnckidfmkaa.hy
