/- Moves: parts, partitions, queues as data; the first one of a list; no condition. -/
import Derived.Test.YtnfjkpeifleogaaRows
import Derived.Test.YtnfjkpeifleogaaLibT
import Derived.Test.YtnfjkpeifleogaaLibI
namespace Go.Proofs.Ytnfjkpeifleogaa.mv
open Go Go.ChangeShapes Go.WideShapes Go.ChangeAt Go.RowKit Go.Proofs.Ytnfjkpeifleogaa.rows
structure Pt where
  id : Int
  size : Int
  keep : Bool
  r0 : Int
  r1 : Int
  r2 : Int
  r3 : Int
  r4 : Int
  r5 : Int
  r6 : Int
  r7 : Int
  pc : Int
  st : Int
  mem : Msg
  deriving DecidableEq
structure Pn where
  id : Int
  base : Int
  size : Int
  keep : Bool
  img : Msg
  deriving DecidableEq
structure Ch where
  id : Int
  fr : Int
  to : Int
  cap : Int
  sz : Int
  deriving DecidableEq
structure Qu where
  ch : Ch
  msgs : List Msg
  deriving DecidableEq
def Ch.cells (c : Ch) : List Value := [.int .i64 c.id, .int .i64 c.fr, .int .i64 c.to, .int .i64 c.cap, .int .i64 c.sz]
/-- How an element's bytes read. -/
def inB {α : Type} (f : α → Msg) (w : World) (A : Option Addr) (c : Nat) (x : α) : Prop := (f x).length ≤ c ∧ (A = none → c = 0) ∧ Rd w A (bcs (f x))
def inM (w : World) (A : Option Addr) (c : Nat) (x : Qu) : Prop := x.msgs.length ≤ c ∧ (A = none → c = 0) ∧ Rms w A x.msgs
theorem inB_below {α : Type} (f : α → Msg) : ∀ w w' A c x, inB f w A c x → Below w.heap.size w w' → inB f w' A c x := fun _ _ _ _ _ h hb => ⟨h.1, h.2.1, h.2.2.below hb⟩
theorem inM_below : ∀ w w' A c x, inM w A c x → Below w.heap.size w w' → inM w' A c x := fun _ _ _ _ _ h hb => ⟨h.1, h.2.1, h.2.2.below hb⟩
def Pt.cells (x : Pt) (A : Option Addr) (c : Nat) : List Value := [.int .i64 x.id, .int .i64 x.size, .bool x.keep, .int .u32 x.r0, .int .u32 x.r1, .int .u32 x.r2, .int .u32 x.r3, .int .u32 x.r4, .int .u32 x.r5, .int .u32 x.r6, .int .u32 x.r7, .int .u32 x.pc, .int .u8 x.st, .slice A x.mem.length c]
theorem pt_len : ∀ (x : Pt) A c, (Pt.cells x A c).length = 14 := fun _ _ _ => rfl
/-- A row of Pts. -/
def Pts (w : World) (A : Option Addr) (xs : List Pt) : Prop := Rws Pt.cells (inB (fun x : Pt => x.mem)) w A xs
theorem Pts.below {w w' : World} {A : Option Addr} {xs : List Pt} (h : Pts w A xs) (hb : Below w.heap.size w w') : Pts w' A xs := Rws.below (inB_below _) h hb
theorem info_pt : (Try.prog.info? 44).map (·.size) = some 14 := by kernel_rfl
theorem pt_one (x : Pt) (A : Option Addr) (c : Nat) : ((Pt.cells x A c).toArray).all (·.oneCell') = true := by simp [Pt.cells, Value.oneCell']
set_option maxHeartbeats 2000000 in
theorem index_pt (B : Nat) (f : Pt → Bool) (l : List Pt) (A : Option Addr) (n c : Nat) (hn : l.length = n) (h63 : n ≤ 1000000) (w : World) (h : Pts w A l)
    (hf : ∀ W : World, Below w.heap.size w W → ∀ x ∈ l, ∀ A c, Calls Try.prog 34 #[.agg #[.int .i64 x.id, .int .i64 x.size, .bool x.keep, .int .u32 x.r0, .int .u32 x.r1, .int .u32 x.r2, .int .u32 x.r3, .int .u32 x.r4, .int .u32 x.r5, .int .u32 x.r6, .int .u32 x.r7, .int .u32 x.pc, .int .u8 x.st, .slice A x.mem.length c], .pointer (some ⟨B, 0, none⟩)] W fun e w' => e = .returned (.bool (f x)) ∧ Below W.heap.size W w') :
    Calls Try.prog 42 #[.slice A n c, .func (.func 34) #[] #[.pointer (some ⟨B, 0, none⟩)]] w fun e w' => e = .returned (.int .i64 (firstI f l)) ∧ Below w.heap.size w w' := by
  have h63' : (n : Int) ≤ 1000000 := by omega
  have H := Lib.hid h; have HF := Lib.hid hf; have HN0 := Lib.hid hn
  clear h hf hn
  go_enter Try.func42, Try.ntmps42
  go_wp2
  go_loopw [8] (fun i wr => ∃ k : Nat, k ≤ n ∧ i = .int .i64 k ∧ (∀ (j : Nat) (p : Pt), j < k → l[j]? = some p → f p = false) ∧ Below w.heap.size w wr) (fun i _ => n - (intOf i).toNat)
  case atStart => exact ⟨0, Nat.zero_le _, rfl, (fun j p hj => absurd hj (Nat.not_lt_zero _)), Below.refl _ _⟩
  case round =>
    obtain ⟨k, hk, rfl, hno, hb⟩ := hrel
    have HB := Lib.hid hb; have HN := Lib.hid hno; have hz := hb.size
    clear hb hno
    by_cases hkl : k < n
    · have hki : (k : Int) < (n : Int) := by omega
      have hk0 : (0 : Int) ≤ (k : Int) := by omega
      obtain ⟨b, off, rfl, _⟩ := Rws.addr pt_len (by decide) H.out (by rw [HN0.out]; omega)
      obtain ⟨x, hx⟩ : ∃ x, l[k]? = some x := ⟨_, List.getElem?_eq_getElem (by rw [HN0.out]; exact hkl)⟩
      obtain ⟨Am, cm, _, hc⟩ := Rws.at pt_len (H.out.below HB.out) hx
      have c0 : wr.cell? ⟨b, off + k * 14, none⟩ = some (.int .i64 x.id) := hc 0 _ rfl
      have c1 : wr.cell? ⟨b, off + k * 14 + 1, none⟩ = some (.int .i64 x.size) := hc 1 _ rfl
      have c2 : wr.cell? ⟨b, off + k * 14 + 2, none⟩ = some (.bool x.keep) := hc 2 _ rfl
      have c3 : wr.cell? ⟨b, off + k * 14 + 3, none⟩ = some (.int .u32 x.r0) := hc 3 _ rfl
      have c4 : wr.cell? ⟨b, off + k * 14 + 4, none⟩ = some (.int .u32 x.r1) := hc 4 _ rfl
      have c5 : wr.cell? ⟨b, off + k * 14 + 5, none⟩ = some (.int .u32 x.r2) := hc 5 _ rfl
      have c6 : wr.cell? ⟨b, off + k * 14 + 6, none⟩ = some (.int .u32 x.r3) := hc 6 _ rfl
      have c7 : wr.cell? ⟨b, off + k * 14 + 7, none⟩ = some (.int .u32 x.r4) := hc 7 _ rfl
      have c8 : wr.cell? ⟨b, off + k * 14 + 8, none⟩ = some (.int .u32 x.r5) := hc 8 _ rfl
      have c9 : wr.cell? ⟨b, off + k * 14 + 9, none⟩ = some (.int .u32 x.r6) := hc 9 _ rfl
      have c10 : wr.cell? ⟨b, off + k * 14 + 10, none⟩ = some (.int .u32 x.r7) := hc 10 _ rfl
      have c11 : wr.cell? ⟨b, off + k * 14 + 11, none⟩ = some (.int .u32 x.pc) := hc 11 _ rfl
      have c12 : wr.cell? ⟨b, off + k * 14 + 12, none⟩ = some (.int .u8 x.st) := hc 12 _ rfl
      have c13 : wr.cell? ⟨b, off + k * 14 + 13, none⟩ = some (.slice Am x.mem.length cm) := hc 13 _ rfl
      have T := HF.out wr HB.out x (List.mem_of_getElem? hx) Am cm
      have HP := Lib.hid hx
      clear hx hc
      cases hfp : f x with
      | true =>
        rw [hfp] at T
        have HT := Lib.hid T; have HFP := Lib.hid hfp
        clear T hfp
        go_wp2_with fail
        refine HT.out.mono ?_
        rintro e w1 ⟨rfl, b1⟩
        have B1 := Lib.hid (HB.out.trans (b1.mono hz)); clear b1
        go_wp2
        go_ret
        exact ⟨by rw [firstI_at f l k x HP.out HFP.out HN.out]; rfl, B1.out⟩
      | false =>
        rw [hfp] at T
        have HT := Lib.hid T; have HFP := Lib.hid hfp
        clear T hfp
        go_wp2_with fail
        refine HT.out.mono ?_
        rintro e w1 ⟨rfl, b1⟩
        have B1 := Lib.hid (HB.out.trans (b1.mono hz)); clear b1
        go_wp2
        go_roundw
        case rel => exact ⟨k + 1, by omega, by go_num, (fun j q hj hq => (Nat.lt_or_eq_of_le (Nat.lt_succ_iff.1 hj)).elim (fun h => HN.out j q h hq) (fun h => by subst h; rw [HP.out] at hq; injection hq with hq; subst hq; exact HFP.out)), B1.out⟩
        case measure => simp [intOf]; omega
    · obtain rfl : k = n := by omega
      have HFN := Lib.hid (firstI_none f l (fun j q hj hq => HN.out j q (by rw [← HN0.out]; exact hj) hq))
      go_wp2
      go_ret
      exact ⟨by rw [HFN.out]; rfl, HB.out⟩
/-- The first one of which something holds, with its slice; or none. -/
def PtOut (o : Option Pt) (w : World) (e : Ending) (w' : World) : Prop :=
  Below w.heap.size w w' ∧ match o with
    | none => e = .returned (.tuple #[.agg #[.int .i64 0, .int .i64 0, .bool false, .int .u32 0, .int .u32 0, .int .u32 0, .int .u32 0, .int .u32 0, .int .u32 0, .int .u32 0, .int .u32 0, .int .u32 0, .int .u8 0, .slice none 0 0], .bool false])
    | some x => ∃ A c, e = .returned (.tuple #[.agg #[.int .i64 x.id, .int .i64 x.size, .bool x.keep, .int .u32 x.r0, .int .u32 x.r1, .int .u32 x.r2, .int .u32 x.r3, .int .u32 x.r4, .int .u32 x.r5, .int .u32 x.r6, .int .u32 x.r7, .int .u32 x.pc, .int .u8 x.st, .slice A x.mem.length c], .bool true]) ∧ inB (fun x : Pt => x.mem) w' A c x
set_option maxHeartbeats 2000000 in
theorem pick_pt (B : Nat) (f : Pt → Bool) (l : List Pt) (A : Option Addr) (n c : Nat) (hn : l.length = n) (h63 : n ≤ 1000000) (w : World) (h : Pts w A l)
    (hf : ∀ W : World, Below w.heap.size w W → ∀ x ∈ l, ∀ A c, Calls Try.prog 34 #[.agg #[.int .i64 x.id, .int .i64 x.size, .bool x.keep, .int .u32 x.r0, .int .u32 x.r1, .int .u32 x.r2, .int .u32 x.r3, .int .u32 x.r4, .int .u32 x.r5, .int .u32 x.r6, .int .u32 x.r7, .int .u32 x.pc, .int .u8 x.st, .slice A x.mem.length c], .pointer (some ⟨B, 0, none⟩)] W fun e w' => e = .returned (.bool (f x)) ∧ Below W.heap.size W w') :
    Calls Try.prog 33 #[.slice A n c, .func (.func 34) #[] #[.pointer (some ⟨B, 0, none⟩)]] w (PtOut (l.find? f) w) := by
  have hX := (Below.refl w.heap.size w).alloc (Nat.le_refl _) (.cells #[.int .i64 0, .int .i64 0, .bool false, .int .u32 0, .int .u32 0, .int .u32 0, .int .u32 0, .int .u32 0, .int .u32 0, .int .u32 0, .int .u32 0, .int .u32 0, .int .u8 0, .slice none 0 0] 44)
  have TI := index_pt B f l A n c hn h63 (w.alloc (.cells #[.int .i64 0, .int .i64 0, .bool false, .int .u32 0, .int .u32 0, .int .u32 0, .int .u32 0, .int .u32 0, .int .u32 0, .int .u32 0, .int .u32 0, .int .u32 0, .int .u8 0, .slice none 0 0] 44)) (h.below hX) (fun W hW => hf W (hX.trans (hW.mono hX.size)))
  have HX := Lib.hid hX; have G0 := Lib.hid (blk_new w #[.int .i64 0, .int .i64 0, .bool false, .int .u32 0, .int .u32 0, .int .u32 0, .int .u32 0, .int .u32 0, .int .u32 0, .int .u32 0, .int .u32 0, .int .u32 0, .int .u8 0, .slice none 0 0] 44)
  have H := Lib.hid h; have HN0 := Lib.hid hn
  have hspec := firstI_spec f l
  have hli : (n : Int) ≤ 1000000 := by omega
  clear hX h hn hf
  rcases hspec with ⟨e, hno⟩ | ⟨i, x, e, hx, hfx, hbe⟩
  · rw [e] at TI
    have HT := Lib.hid TI
    have HO := Lib.hid (show l.find? f = none from List.find?_eq_none.2 fun x hx => by rw [hno x hx]; simp)
    clear TI e hno
    go_enter Try.func33, Try.ntmps33
    go_wp2_with fail
    refine HT.out.mono ?_
    rintro e w1 ⟨rfl, b1⟩
    have B1 := Lib.hid (HX.out.trans (b1.mono HX.out.size))
    have G1 := Lib.hid (blk_alloc (blk_below G0.out b1 (blk_lt G0.out)) (.cells #[.int .i64 0, .int .i64 0, .bool false, .int .u32 0, .int .u32 0, .int .u32 0, .int .u32 0, .int .u32 0, .int .u32 0, .int .u32 0, .int .u32 0, .int .u32 0, .int .u8 0, .slice none 0 0] 44))
    have N1 := Lib.hid (blk_new w1 #[.int .i64 0, .int .i64 0, .bool false, .int .u32 0, .int .u32 0, .int .u32 0, .int .u32 0, .int .u32 0, .int .u32 0, .int .u32 0, .int .u32 0, .int .u32 0, .int .u8 0, .slice none 0 0] 44)
    have B2 := Lib.hid (B1.out.alloc B1.out.size (.cells #[.int .i64 0, .int .i64 0, .bool false, .int .u32 0, .int .u32 0, .int .u32 0, .int .u32 0, .int .u32 0, .int .u32 0, .int .u32 0, .int .u32 0, .int .u32 0, .int .u8 0, .slice none 0 0] 44))
    clear b1
    go_wp2_with (refine wpList_store_at rfl 44 (.tmp 4) (.tmp 17) rfl w.heap.size #[.int .i64 0, .int .i64 0, .bool false, .int .u32 0, .int .u32 0, .int .u32 0, .int .u32 0, .int .u32 0, .int .u32 0, .int .u32 0, .int .u32 0, .int .u32 0, .int .u8 0, .slice none 0 0] rfl rfl 44 _ G1.out info_pt rfl (by simp [Value.oneCell']) ?_)
    intro w3 hw3
    have B3 := Lib.hid (below_row B2.out (Nat.le_refl w.heap.size) #[.int .i64 0, .int .i64 0, .bool false, .int .u32 0, .int .u32 0, .int .u32 0, .int .u32 0, .int .u32 0, .int .u32 0, .int .u32 0, .int .u32 0, .int .u32 0, .int .u8 0, .slice none 0 0])
    have G3 := Lib.hid (blk_row G1.out #[.int .i64 0, .int .i64 0, .bool false, .int .u32 0, .int .u32 0, .int .u32 0, .int .u32 0, .int .u32 0, .int .u32 0, .int .u32 0, .int .u32 0, .int .u32 0, .int .u8 0, .slice none 0 0])
    rw [← hw3.out] at B3 G3
    clear hw3
    go_wp2
    refine ret_row_tmp rfl w.heap.size 44 _ _ rfl G3.out Try.underlying44 rfl info_pt rfl ?_
    rw [HO.out]
    exact ⟨B3.out, rfl⟩
  · rw [e] at TI
    have HT := Lib.hid TI
    have HO := Lib.hid (show l.find? f = some x from by
      rw [List.find?_eq_some_iff_getElem]
      refine ⟨hfx, i, (List.getElem?_eq_some_iff.1 hx).1, (List.getElem?_eq_some_iff.1 hx).2, fun j hj => ?_⟩
      have := hbe j _ hj (List.getElem?_eq_getElem (Nat.lt_trans hj (List.getElem?_eq_some_iff.1 hx).1))
      rw [this]; rfl)
    have hil : i < n := by rw [← HN0.out]; exact (List.getElem?_eq_some_iff.1 hx).1
    have hii : (i : Int) < (n : Int) := by omega
    have hi0 : (0 : Int) ≤ (i : Int) := by omega
    obtain ⟨b, off, rfl, hlt⟩ := Rws.addr pt_len (by decide) H.out (by rw [HN0.out]; omega)
    have HXI := Lib.hid hx
    clear TI e hbe hfx hx
    go_enter Try.func33, Try.ntmps33
    go_wp2_with fail
    refine HT.out.mono ?_
    rintro e w1 ⟨rfl, b1⟩
    have B1 := Lib.hid (HX.out.trans (b1.mono HX.out.size))
    have G1 := Lib.hid (blk_below G0.out b1 (blk_lt G0.out))
    obtain ⟨Am, cm, hin, hc⟩ := Rws.at pt_len H.out HXI.out
    have c0 : w1.cell? ⟨b, off + i * 14, none⟩ = some (.int .i64 x.id) := (B1.out.cell (p := ⟨b, off + i * 14, none⟩) hlt).trans (hc 0 _ rfl)
    have c1 : w1.cell? ⟨b, off + i * 14 + 1, none⟩ = some (.int .i64 x.size) := (B1.out.cell (p := ⟨b, off + i * 14 + 1, none⟩) hlt).trans (hc 1 _ rfl)
    have c2 : w1.cell? ⟨b, off + i * 14 + 2, none⟩ = some (.bool x.keep) := (B1.out.cell (p := ⟨b, off + i * 14 + 2, none⟩) hlt).trans (hc 2 _ rfl)
    have c3 : w1.cell? ⟨b, off + i * 14 + 3, none⟩ = some (.int .u32 x.r0) := (B1.out.cell (p := ⟨b, off + i * 14 + 3, none⟩) hlt).trans (hc 3 _ rfl)
    have c4 : w1.cell? ⟨b, off + i * 14 + 4, none⟩ = some (.int .u32 x.r1) := (B1.out.cell (p := ⟨b, off + i * 14 + 4, none⟩) hlt).trans (hc 4 _ rfl)
    have c5 : w1.cell? ⟨b, off + i * 14 + 5, none⟩ = some (.int .u32 x.r2) := (B1.out.cell (p := ⟨b, off + i * 14 + 5, none⟩) hlt).trans (hc 5 _ rfl)
    have c6 : w1.cell? ⟨b, off + i * 14 + 6, none⟩ = some (.int .u32 x.r3) := (B1.out.cell (p := ⟨b, off + i * 14 + 6, none⟩) hlt).trans (hc 6 _ rfl)
    have c7 : w1.cell? ⟨b, off + i * 14 + 7, none⟩ = some (.int .u32 x.r4) := (B1.out.cell (p := ⟨b, off + i * 14 + 7, none⟩) hlt).trans (hc 7 _ rfl)
    have c8 : w1.cell? ⟨b, off + i * 14 + 8, none⟩ = some (.int .u32 x.r5) := (B1.out.cell (p := ⟨b, off + i * 14 + 8, none⟩) hlt).trans (hc 8 _ rfl)
    have c9 : w1.cell? ⟨b, off + i * 14 + 9, none⟩ = some (.int .u32 x.r6) := (B1.out.cell (p := ⟨b, off + i * 14 + 9, none⟩) hlt).trans (hc 9 _ rfl)
    have c10 : w1.cell? ⟨b, off + i * 14 + 10, none⟩ = some (.int .u32 x.r7) := (B1.out.cell (p := ⟨b, off + i * 14 + 10, none⟩) hlt).trans (hc 10 _ rfl)
    have c11 : w1.cell? ⟨b, off + i * 14 + 11, none⟩ = some (.int .u32 x.pc) := (B1.out.cell (p := ⟨b, off + i * 14 + 11, none⟩) hlt).trans (hc 11 _ rfl)
    have c12 : w1.cell? ⟨b, off + i * 14 + 12, none⟩ = some (.int .u8 x.st) := (B1.out.cell (p := ⟨b, off + i * 14 + 12, none⟩) hlt).trans (hc 12 _ rfl)
    have c13 : w1.cell? ⟨b, off + i * 14 + 13, none⟩ = some (.slice Am x.mem.length cm) := (B1.out.cell (p := ⟨b, off + i * 14 + 13, none⟩) hlt).trans (hc 13 _ rfl)
    have HIN := Lib.hid hin
    clear b1 hc hin
    go_wp2_with (refine wpList_store_at rfl 44 (.tmp 4) (.tmp 16) rfl w.heap.size #[.int .i64 x.id, .int .i64 x.size, .bool x.keep, .int .u32 x.r0, .int .u32 x.r1, .int .u32 x.r2, .int .u32 x.r3, .int .u32 x.r4, .int .u32 x.r5, .int .u32 x.r6, .int .u32 x.r7, .int .u32 x.pc, .int .u8 x.st, .slice Am x.mem.length cm] rfl rfl 44 _ G1.out info_pt rfl (by simp [Value.oneCell']) ?_)
    intro w3 hw3
    have B3 := Lib.hid (below_row B1.out (Nat.le_refl w.heap.size) #[.int .i64 x.id, .int .i64 x.size, .bool x.keep, .int .u32 x.r0, .int .u32 x.r1, .int .u32 x.r2, .int .u32 x.r3, .int .u32 x.r4, .int .u32 x.r5, .int .u32 x.r6, .int .u32 x.r7, .int .u32 x.pc, .int .u8 x.st, .slice Am x.mem.length cm])
    have G3 := Lib.hid (blk_row G1.out #[.int .i64 x.id, .int .i64 x.size, .bool x.keep, .int .u32 x.r0, .int .u32 x.r1, .int .u32 x.r2, .int .u32 x.r3, .int .u32 x.r4, .int .u32 x.r5, .int .u32 x.r6, .int .u32 x.r7, .int .u32 x.pc, .int .u8 x.st, .slice Am x.mem.length cm])
    rw [← hw3.out] at B3 G3
    have I3 := Lib.hid ((inB_below _) _ _ _ _ _ HIN.out B3.out)
    clear hw3
    go_wp2
    refine ret_row_tmp rfl w.heap.size 44 _ _ rfl G3.out Try.underlying44 rfl info_pt rfl ?_
    rw [HO.out]
    exact ⟨B3.out, Am, cm, rfl, I3.out⟩
def Pn.cells (x : Pn) (A : Option Addr) (c : Nat) : List Value := [.int .i64 x.id, .int .i64 x.base, .int .i64 x.size, .bool x.keep, .slice A x.img.length c]
theorem pn_len : ∀ (x : Pn) A c, (Pn.cells x A c).length = 5 := fun _ _ _ => rfl
/-- A row of Pns. -/
def Pns (w : World) (A : Option Addr) (xs : List Pn) : Prop := Rws Pn.cells (inB (fun x : Pn => x.img)) w A xs
theorem Pns.below {w w' : World} {A : Option Addr} {xs : List Pn} (h : Pns w A xs) (hb : Below w.heap.size w w') : Pns w' A xs := Rws.below (inB_below _) h hb
theorem info_pn : (Try.prog.info? 40).map (·.size) = some 5 := by kernel_rfl
theorem pn_one (x : Pn) (A : Option Addr) (c : Nat) : ((Pn.cells x A c).toArray).all (·.oneCell') = true := by simp [Pn.cells, Value.oneCell']
set_option maxHeartbeats 2000000 in
theorem index_pn (B : Nat) (f : Pn → Bool) (l : List Pn) (A : Option Addr) (n c : Nat) (hn : l.length = n) (h63 : n ≤ 1000000) (w : World) (h : Pns w A l)
    (hf : ∀ W : World, Below w.heap.size w W → ∀ x ∈ l, ∀ A c, Calls Try.prog 45 #[.agg #[.int .i64 x.id, .int .i64 x.base, .int .i64 x.size, .bool x.keep, .slice A x.img.length c], .pointer (some ⟨B, 0, none⟩)] W fun e w' => e = .returned (.bool (f x)) ∧ Below W.heap.size W w') :
    Calls Try.prog 46 #[.slice A n c, .func (.func 45) #[] #[.pointer (some ⟨B, 0, none⟩)]] w fun e w' => e = .returned (.int .i64 (firstI f l)) ∧ Below w.heap.size w w' := by
  have h63' : (n : Int) ≤ 1000000 := by omega
  have H := Lib.hid h; have HF := Lib.hid hf; have HN0 := Lib.hid hn
  clear h hf hn
  go_enter Try.func46, Try.ntmps46
  go_wp2
  go_loopw [8] (fun i wr => ∃ k : Nat, k ≤ n ∧ i = .int .i64 k ∧ (∀ (j : Nat) (p : Pn), j < k → l[j]? = some p → f p = false) ∧ Below w.heap.size w wr) (fun i _ => n - (intOf i).toNat)
  case atStart => exact ⟨0, Nat.zero_le _, rfl, (fun j p hj => absurd hj (Nat.not_lt_zero _)), Below.refl _ _⟩
  case round =>
    obtain ⟨k, hk, rfl, hno, hb⟩ := hrel
    have HB := Lib.hid hb; have HN := Lib.hid hno; have hz := hb.size
    clear hb hno
    by_cases hkl : k < n
    · have hki : (k : Int) < (n : Int) := by omega
      have hk0 : (0 : Int) ≤ (k : Int) := by omega
      obtain ⟨b, off, rfl, _⟩ := Rws.addr pn_len (by decide) H.out (by rw [HN0.out]; omega)
      obtain ⟨x, hx⟩ : ∃ x, l[k]? = some x := ⟨_, List.getElem?_eq_getElem (by rw [HN0.out]; exact hkl)⟩
      obtain ⟨Am, cm, _, hc⟩ := Rws.at pn_len (H.out.below HB.out) hx
      have c0 : wr.cell? ⟨b, off + k * 5, none⟩ = some (.int .i64 x.id) := hc 0 _ rfl
      have c1 : wr.cell? ⟨b, off + k * 5 + 1, none⟩ = some (.int .i64 x.base) := hc 1 _ rfl
      have c2 : wr.cell? ⟨b, off + k * 5 + 2, none⟩ = some (.int .i64 x.size) := hc 2 _ rfl
      have c3 : wr.cell? ⟨b, off + k * 5 + 3, none⟩ = some (.bool x.keep) := hc 3 _ rfl
      have c4 : wr.cell? ⟨b, off + k * 5 + 4, none⟩ = some (.slice Am x.img.length cm) := hc 4 _ rfl
      have T := HF.out wr HB.out x (List.mem_of_getElem? hx) Am cm
      have HP := Lib.hid hx
      clear hx hc
      cases hfp : f x with
      | true =>
        rw [hfp] at T
        have HT := Lib.hid T; have HFP := Lib.hid hfp
        clear T hfp
        go_wp2_with fail
        refine HT.out.mono ?_
        rintro e w1 ⟨rfl, b1⟩
        have B1 := Lib.hid (HB.out.trans (b1.mono hz)); clear b1
        go_wp2
        go_ret
        exact ⟨by rw [firstI_at f l k x HP.out HFP.out HN.out]; rfl, B1.out⟩
      | false =>
        rw [hfp] at T
        have HT := Lib.hid T; have HFP := Lib.hid hfp
        clear T hfp
        go_wp2_with fail
        refine HT.out.mono ?_
        rintro e w1 ⟨rfl, b1⟩
        have B1 := Lib.hid (HB.out.trans (b1.mono hz)); clear b1
        go_wp2
        go_roundw
        case rel => exact ⟨k + 1, by omega, by go_num, (fun j q hj hq => (Nat.lt_or_eq_of_le (Nat.lt_succ_iff.1 hj)).elim (fun h => HN.out j q h hq) (fun h => by subst h; rw [HP.out] at hq; injection hq with hq; subst hq; exact HFP.out)), B1.out⟩
        case measure => simp [intOf]; omega
    · obtain rfl : k = n := by omega
      have HFN := Lib.hid (firstI_none f l (fun j q hj hq => HN.out j q (by rw [← HN0.out]; exact hj) hq))
      go_wp2
      go_ret
      exact ⟨by rw [HFN.out]; rfl, HB.out⟩
/-- The first one of which something holds, with its slice; or none. -/
def PnOut (o : Option Pn) (w : World) (e : Ending) (w' : World) : Prop :=
  Below w.heap.size w w' ∧ match o with
    | none => e = .returned (.tuple #[.agg #[.int .i64 0, .int .i64 0, .int .i64 0, .bool false, .slice none 0 0], .bool false])
    | some x => ∃ A c, e = .returned (.tuple #[.agg #[.int .i64 x.id, .int .i64 x.base, .int .i64 x.size, .bool x.keep, .slice A x.img.length c], .bool true]) ∧ inB (fun x : Pn => x.img) w' A c x
set_option maxHeartbeats 2000000 in
theorem pick_pn (B : Nat) (f : Pn → Bool) (l : List Pn) (A : Option Addr) (n c : Nat) (hn : l.length = n) (h63 : n ≤ 1000000) (w : World) (h : Pns w A l)
    (hf : ∀ W : World, Below w.heap.size w W → ∀ x ∈ l, ∀ A c, Calls Try.prog 45 #[.agg #[.int .i64 x.id, .int .i64 x.base, .int .i64 x.size, .bool x.keep, .slice A x.img.length c], .pointer (some ⟨B, 0, none⟩)] W fun e w' => e = .returned (.bool (f x)) ∧ Below W.heap.size W w') :
    Calls Try.prog 44 #[.slice A n c, .func (.func 45) #[] #[.pointer (some ⟨B, 0, none⟩)]] w (PnOut (l.find? f) w) := by
  have hX := (Below.refl w.heap.size w).alloc (Nat.le_refl _) (.cells #[.int .i64 0, .int .i64 0, .int .i64 0, .bool false, .slice none 0 0] 40)
  have TI := index_pn B f l A n c hn h63 (w.alloc (.cells #[.int .i64 0, .int .i64 0, .int .i64 0, .bool false, .slice none 0 0] 40)) (h.below hX) (fun W hW => hf W (hX.trans (hW.mono hX.size)))
  have HX := Lib.hid hX; have G0 := Lib.hid (blk_new w #[.int .i64 0, .int .i64 0, .int .i64 0, .bool false, .slice none 0 0] 40)
  have H := Lib.hid h; have HN0 := Lib.hid hn
  have hspec := firstI_spec f l
  have hli : (n : Int) ≤ 1000000 := by omega
  clear hX h hn hf
  rcases hspec with ⟨e, hno⟩ | ⟨i, x, e, hx, hfx, hbe⟩
  · rw [e] at TI
    have HT := Lib.hid TI
    have HO := Lib.hid (show l.find? f = none from List.find?_eq_none.2 fun x hx => by rw [hno x hx]; simp)
    clear TI e hno
    go_enter Try.func44, Try.ntmps44
    go_wp2_with fail
    refine HT.out.mono ?_
    rintro e w1 ⟨rfl, b1⟩
    have B1 := Lib.hid (HX.out.trans (b1.mono HX.out.size))
    have G1 := Lib.hid (blk_alloc (blk_below G0.out b1 (blk_lt G0.out)) (.cells #[.int .i64 0, .int .i64 0, .int .i64 0, .bool false, .slice none 0 0] 40))
    have N1 := Lib.hid (blk_new w1 #[.int .i64 0, .int .i64 0, .int .i64 0, .bool false, .slice none 0 0] 40)
    have B2 := Lib.hid (B1.out.alloc B1.out.size (.cells #[.int .i64 0, .int .i64 0, .int .i64 0, .bool false, .slice none 0 0] 40))
    clear b1
    go_wp2_with (refine wpList_store_at rfl 40 (.tmp 4) (.tmp 17) rfl w.heap.size #[.int .i64 0, .int .i64 0, .int .i64 0, .bool false, .slice none 0 0] rfl rfl 40 _ G1.out info_pn rfl (by simp [Value.oneCell']) ?_)
    intro w3 hw3
    have B3 := Lib.hid (below_row B2.out (Nat.le_refl w.heap.size) #[.int .i64 0, .int .i64 0, .int .i64 0, .bool false, .slice none 0 0])
    have G3 := Lib.hid (blk_row G1.out #[.int .i64 0, .int .i64 0, .int .i64 0, .bool false, .slice none 0 0])
    rw [← hw3.out] at B3 G3
    clear hw3
    go_wp2
    refine ret_row_tmp rfl w.heap.size 40 _ _ rfl G3.out Try.underlying40 rfl info_pn rfl ?_
    rw [HO.out]
    exact ⟨B3.out, rfl⟩
  · rw [e] at TI
    have HT := Lib.hid TI
    have HO := Lib.hid (show l.find? f = some x from by
      rw [List.find?_eq_some_iff_getElem]
      refine ⟨hfx, i, (List.getElem?_eq_some_iff.1 hx).1, (List.getElem?_eq_some_iff.1 hx).2, fun j hj => ?_⟩
      have := hbe j _ hj (List.getElem?_eq_getElem (Nat.lt_trans hj (List.getElem?_eq_some_iff.1 hx).1))
      rw [this]; rfl)
    have hil : i < n := by rw [← HN0.out]; exact (List.getElem?_eq_some_iff.1 hx).1
    have hii : (i : Int) < (n : Int) := by omega
    have hi0 : (0 : Int) ≤ (i : Int) := by omega
    obtain ⟨b, off, rfl, hlt⟩ := Rws.addr pn_len (by decide) H.out (by rw [HN0.out]; omega)
    have HXI := Lib.hid hx
    clear TI e hbe hfx hx
    go_enter Try.func44, Try.ntmps44
    go_wp2_with fail
    refine HT.out.mono ?_
    rintro e w1 ⟨rfl, b1⟩
    have B1 := Lib.hid (HX.out.trans (b1.mono HX.out.size))
    have G1 := Lib.hid (blk_below G0.out b1 (blk_lt G0.out))
    obtain ⟨Am, cm, hin, hc⟩ := Rws.at pn_len H.out HXI.out
    have c0 : w1.cell? ⟨b, off + i * 5, none⟩ = some (.int .i64 x.id) := (B1.out.cell (p := ⟨b, off + i * 5, none⟩) hlt).trans (hc 0 _ rfl)
    have c1 : w1.cell? ⟨b, off + i * 5 + 1, none⟩ = some (.int .i64 x.base) := (B1.out.cell (p := ⟨b, off + i * 5 + 1, none⟩) hlt).trans (hc 1 _ rfl)
    have c2 : w1.cell? ⟨b, off + i * 5 + 2, none⟩ = some (.int .i64 x.size) := (B1.out.cell (p := ⟨b, off + i * 5 + 2, none⟩) hlt).trans (hc 2 _ rfl)
    have c3 : w1.cell? ⟨b, off + i * 5 + 3, none⟩ = some (.bool x.keep) := (B1.out.cell (p := ⟨b, off + i * 5 + 3, none⟩) hlt).trans (hc 3 _ rfl)
    have c4 : w1.cell? ⟨b, off + i * 5 + 4, none⟩ = some (.slice Am x.img.length cm) := (B1.out.cell (p := ⟨b, off + i * 5 + 4, none⟩) hlt).trans (hc 4 _ rfl)
    have HIN := Lib.hid hin
    clear b1 hc hin
    go_wp2_with (refine wpList_store_at rfl 40 (.tmp 4) (.tmp 16) rfl w.heap.size #[.int .i64 x.id, .int .i64 x.base, .int .i64 x.size, .bool x.keep, .slice Am x.img.length cm] rfl rfl 40 _ G1.out info_pn rfl (by simp [Value.oneCell']) ?_)
    intro w3 hw3
    have B3 := Lib.hid (below_row B1.out (Nat.le_refl w.heap.size) #[.int .i64 x.id, .int .i64 x.base, .int .i64 x.size, .bool x.keep, .slice Am x.img.length cm])
    have G3 := Lib.hid (blk_row G1.out #[.int .i64 x.id, .int .i64 x.base, .int .i64 x.size, .bool x.keep, .slice Am x.img.length cm])
    rw [← hw3.out] at B3 G3
    have I3 := Lib.hid ((inB_below _) _ _ _ _ _ HIN.out B3.out)
    clear hw3
    go_wp2
    refine ret_row_tmp rfl w.heap.size 40 _ _ rfl G3.out Try.underlying40 rfl info_pn rfl ?_
    rw [HO.out]
    exact ⟨B3.out, Am, cm, rfl, I3.out⟩
def Qu.cells (x : Qu) (A : Option Addr) (c : Nat) : List Value := [.int .i64 x.ch.id, .int .i64 x.ch.fr, .int .i64 x.ch.to, .int .i64 x.ch.cap, .int .i64 x.ch.sz, .slice A x.msgs.length c]
theorem qu_len : ∀ (x : Qu) A c, (Qu.cells x A c).length = 6 := fun _ _ _ => rfl
/-- A row of Qus. -/
def Qus (w : World) (A : Option Addr) (xs : List Qu) : Prop := Rws Qu.cells (inM) w A xs
theorem Qus.below {w w' : World} {A : Option Addr} {xs : List Qu} (h : Qus w A xs) (hb : Below w.heap.size w w') : Qus w' A xs := Rws.below inM_below h hb
theorem info_qu : (Try.prog.info? 53).map (·.size) = some 6 := by kernel_rfl
theorem qu_one (x : Qu) (A : Option Addr) (c : Nat) : ((Qu.cells x A c).toArray).all (·.oneCell') = true := by simp [Qu.cells, Value.oneCell']
set_option maxHeartbeats 2000000 in
theorem index_qu (B : Nat) (f : Qu → Bool) (l : List Qu) (A : Option Addr) (n c : Nat) (hn : l.length = n) (h63 : n ≤ 1000000) (w : World) (h : Qus w A l)
    (hf : ∀ W : World, Below w.heap.size w W → ∀ x ∈ l, ∀ A c, Calls Try.prog 37 #[.agg #[.int .i64 x.ch.id, .int .i64 x.ch.fr, .int .i64 x.ch.to, .int .i64 x.ch.cap, .int .i64 x.ch.sz, .slice A x.msgs.length c], .pointer (some ⟨B, 0, none⟩)] W fun e w' => e = .returned (.bool (f x)) ∧ Below W.heap.size W w') :
    Calls Try.prog 43 #[.slice A n c, .func (.func 37) #[] #[.pointer (some ⟨B, 0, none⟩)]] w fun e w' => e = .returned (.int .i64 (firstI f l)) ∧ Below w.heap.size w w' := by
  have h63' : (n : Int) ≤ 1000000 := by omega
  have H := Lib.hid h; have HF := Lib.hid hf; have HN0 := Lib.hid hn
  clear h hf hn
  go_enter Try.func43, Try.ntmps43
  go_wp2
  go_loopw [8] (fun i wr => ∃ k : Nat, k ≤ n ∧ i = .int .i64 k ∧ (∀ (j : Nat) (p : Qu), j < k → l[j]? = some p → f p = false) ∧ Below w.heap.size w wr) (fun i _ => n - (intOf i).toNat)
  case atStart => exact ⟨0, Nat.zero_le _, rfl, (fun j p hj => absurd hj (Nat.not_lt_zero _)), Below.refl _ _⟩
  case round =>
    obtain ⟨k, hk, rfl, hno, hb⟩ := hrel
    have HB := Lib.hid hb; have HN := Lib.hid hno; have hz := hb.size
    clear hb hno
    by_cases hkl : k < n
    · have hki : (k : Int) < (n : Int) := by omega
      have hk0 : (0 : Int) ≤ (k : Int) := by omega
      obtain ⟨b, off, rfl, _⟩ := Rws.addr qu_len (by decide) H.out (by rw [HN0.out]; omega)
      obtain ⟨x, hx⟩ : ∃ x, l[k]? = some x := ⟨_, List.getElem?_eq_getElem (by rw [HN0.out]; exact hkl)⟩
      obtain ⟨Am, cm, _, hc⟩ := Rws.at qu_len (H.out.below HB.out) hx
      have c0 : wr.cell? ⟨b, off + k * 6, none⟩ = some (.int .i64 x.ch.id) := hc 0 _ rfl
      have c1 : wr.cell? ⟨b, off + k * 6 + 1, none⟩ = some (.int .i64 x.ch.fr) := hc 1 _ rfl
      have c2 : wr.cell? ⟨b, off + k * 6 + 2, none⟩ = some (.int .i64 x.ch.to) := hc 2 _ rfl
      have c3 : wr.cell? ⟨b, off + k * 6 + 3, none⟩ = some (.int .i64 x.ch.cap) := hc 3 _ rfl
      have c4 : wr.cell? ⟨b, off + k * 6 + 4, none⟩ = some (.int .i64 x.ch.sz) := hc 4 _ rfl
      have c5 : wr.cell? ⟨b, off + k * 6 + 5, none⟩ = some (.slice Am x.msgs.length cm) := hc 5 _ rfl
      have T := HF.out wr HB.out x (List.mem_of_getElem? hx) Am cm
      have HP := Lib.hid hx
      clear hx hc
      cases hfp : f x with
      | true =>
        rw [hfp] at T
        have HT := Lib.hid T; have HFP := Lib.hid hfp
        clear T hfp
        go_wp2_with fail
        refine HT.out.mono ?_
        rintro e w1 ⟨rfl, b1⟩
        have B1 := Lib.hid (HB.out.trans (b1.mono hz)); clear b1
        go_wp2
        go_ret
        exact ⟨by rw [firstI_at f l k x HP.out HFP.out HN.out]; rfl, B1.out⟩
      | false =>
        rw [hfp] at T
        have HT := Lib.hid T; have HFP := Lib.hid hfp
        clear T hfp
        go_wp2_with fail
        refine HT.out.mono ?_
        rintro e w1 ⟨rfl, b1⟩
        have B1 := Lib.hid (HB.out.trans (b1.mono hz)); clear b1
        go_wp2
        go_roundw
        case rel => exact ⟨k + 1, by omega, by go_num, (fun j q hj hq => (Nat.lt_or_eq_of_le (Nat.lt_succ_iff.1 hj)).elim (fun h => HN.out j q h hq) (fun h => by subst h; rw [HP.out] at hq; injection hq with hq; subst hq; exact HFP.out)), B1.out⟩
        case measure => simp [intOf]; omega
    · obtain rfl : k = n := by omega
      have HFN := Lib.hid (firstI_none f l (fun j q hj hq => HN.out j q (by rw [← HN0.out]; exact hj) hq))
      go_wp2
      go_ret
      exact ⟨by rw [HFN.out]; rfl, HB.out⟩
/-- The first one of which something holds, with its slice; or none. -/
def QuOut (o : Option Qu) (w : World) (e : Ending) (w' : World) : Prop :=
  Below w.heap.size w w' ∧ match o with
    | none => e = .returned (.tuple #[.agg #[.int .i64 0, .int .i64 0, .int .i64 0, .int .i64 0, .int .i64 0, .slice none 0 0], .bool false])
    | some x => ∃ A c, e = .returned (.tuple #[.agg #[.int .i64 x.ch.id, .int .i64 x.ch.fr, .int .i64 x.ch.to, .int .i64 x.ch.cap, .int .i64 x.ch.sz, .slice A x.msgs.length c], .bool true]) ∧ inM w' A c x
set_option maxHeartbeats 2000000 in
theorem pick_qu (B : Nat) (f : Qu → Bool) (l : List Qu) (A : Option Addr) (n c : Nat) (hn : l.length = n) (h63 : n ≤ 1000000) (w : World) (h : Qus w A l)
    (hf : ∀ W : World, Below w.heap.size w W → ∀ x ∈ l, ∀ A c, Calls Try.prog 37 #[.agg #[.int .i64 x.ch.id, .int .i64 x.ch.fr, .int .i64 x.ch.to, .int .i64 x.ch.cap, .int .i64 x.ch.sz, .slice A x.msgs.length c], .pointer (some ⟨B, 0, none⟩)] W fun e w' => e = .returned (.bool (f x)) ∧ Below W.heap.size W w') :
    Calls Try.prog 36 #[.slice A n c, .func (.func 37) #[] #[.pointer (some ⟨B, 0, none⟩)]] w (QuOut (l.find? f) w) := by
  have hX := (Below.refl w.heap.size w).alloc (Nat.le_refl _) (.cells #[.int .i64 0, .int .i64 0, .int .i64 0, .int .i64 0, .int .i64 0, .slice none 0 0] 53)
  have TI := index_qu B f l A n c hn h63 (w.alloc (.cells #[.int .i64 0, .int .i64 0, .int .i64 0, .int .i64 0, .int .i64 0, .slice none 0 0] 53)) (h.below hX) (fun W hW => hf W (hX.trans (hW.mono hX.size)))
  have HX := Lib.hid hX; have G0 := Lib.hid (blk_new w #[.int .i64 0, .int .i64 0, .int .i64 0, .int .i64 0, .int .i64 0, .slice none 0 0] 53)
  have H := Lib.hid h; have HN0 := Lib.hid hn
  have hspec := firstI_spec f l
  have hli : (n : Int) ≤ 1000000 := by omega
  clear hX h hn hf
  rcases hspec with ⟨e, hno⟩ | ⟨i, x, e, hx, hfx, hbe⟩
  · rw [e] at TI
    have HT := Lib.hid TI
    have HO := Lib.hid (show l.find? f = none from List.find?_eq_none.2 fun x hx => by rw [hno x hx]; simp)
    clear TI e hno
    go_enter Try.func36, Try.ntmps36
    go_wp2_with fail
    refine HT.out.mono ?_
    rintro e w1 ⟨rfl, b1⟩
    have B1 := Lib.hid (HX.out.trans (b1.mono HX.out.size))
    have G1 := Lib.hid (blk_alloc (blk_below G0.out b1 (blk_lt G0.out)) (.cells #[.int .i64 0, .int .i64 0, .int .i64 0, .int .i64 0, .int .i64 0, .slice none 0 0] 53))
    have N1 := Lib.hid (blk_new w1 #[.int .i64 0, .int .i64 0, .int .i64 0, .int .i64 0, .int .i64 0, .slice none 0 0] 53)
    have B2 := Lib.hid (B1.out.alloc B1.out.size (.cells #[.int .i64 0, .int .i64 0, .int .i64 0, .int .i64 0, .int .i64 0, .slice none 0 0] 53))
    clear b1
    go_wp2_with (refine wpList_store_at rfl 53 (.tmp 4) (.tmp 17) rfl w.heap.size #[.int .i64 0, .int .i64 0, .int .i64 0, .int .i64 0, .int .i64 0, .slice none 0 0] rfl rfl 53 _ G1.out info_qu rfl (by simp [Value.oneCell']) ?_)
    intro w3 hw3
    have B3 := Lib.hid (below_row B2.out (Nat.le_refl w.heap.size) #[.int .i64 0, .int .i64 0, .int .i64 0, .int .i64 0, .int .i64 0, .slice none 0 0])
    have G3 := Lib.hid (blk_row G1.out #[.int .i64 0, .int .i64 0, .int .i64 0, .int .i64 0, .int .i64 0, .slice none 0 0])
    rw [← hw3.out] at B3 G3
    clear hw3
    go_wp2
    refine ret_row_tmp rfl w.heap.size 53 _ _ rfl G3.out Try.underlying53 rfl info_qu rfl ?_
    rw [HO.out]
    exact ⟨B3.out, rfl⟩
  · rw [e] at TI
    have HT := Lib.hid TI
    have HO := Lib.hid (show l.find? f = some x from by
      rw [List.find?_eq_some_iff_getElem]
      refine ⟨hfx, i, (List.getElem?_eq_some_iff.1 hx).1, (List.getElem?_eq_some_iff.1 hx).2, fun j hj => ?_⟩
      have := hbe j _ hj (List.getElem?_eq_getElem (Nat.lt_trans hj (List.getElem?_eq_some_iff.1 hx).1))
      rw [this]; rfl)
    have hil : i < n := by rw [← HN0.out]; exact (List.getElem?_eq_some_iff.1 hx).1
    have hii : (i : Int) < (n : Int) := by omega
    have hi0 : (0 : Int) ≤ (i : Int) := by omega
    obtain ⟨b, off, rfl, hlt⟩ := Rws.addr qu_len (by decide) H.out (by rw [HN0.out]; omega)
    have HXI := Lib.hid hx
    clear TI e hbe hfx hx
    go_enter Try.func36, Try.ntmps36
    go_wp2_with fail
    refine HT.out.mono ?_
    rintro e w1 ⟨rfl, b1⟩
    have B1 := Lib.hid (HX.out.trans (b1.mono HX.out.size))
    have G1 := Lib.hid (blk_below G0.out b1 (blk_lt G0.out))
    obtain ⟨Am, cm, hin, hc⟩ := Rws.at qu_len H.out HXI.out
    have c0 : w1.cell? ⟨b, off + i * 6, none⟩ = some (.int .i64 x.ch.id) := (B1.out.cell (p := ⟨b, off + i * 6, none⟩) hlt).trans (hc 0 _ rfl)
    have c1 : w1.cell? ⟨b, off + i * 6 + 1, none⟩ = some (.int .i64 x.ch.fr) := (B1.out.cell (p := ⟨b, off + i * 6 + 1, none⟩) hlt).trans (hc 1 _ rfl)
    have c2 : w1.cell? ⟨b, off + i * 6 + 2, none⟩ = some (.int .i64 x.ch.to) := (B1.out.cell (p := ⟨b, off + i * 6 + 2, none⟩) hlt).trans (hc 2 _ rfl)
    have c3 : w1.cell? ⟨b, off + i * 6 + 3, none⟩ = some (.int .i64 x.ch.cap) := (B1.out.cell (p := ⟨b, off + i * 6 + 3, none⟩) hlt).trans (hc 3 _ rfl)
    have c4 : w1.cell? ⟨b, off + i * 6 + 4, none⟩ = some (.int .i64 x.ch.sz) := (B1.out.cell (p := ⟨b, off + i * 6 + 4, none⟩) hlt).trans (hc 4 _ rfl)
    have c5 : w1.cell? ⟨b, off + i * 6 + 5, none⟩ = some (.slice Am x.msgs.length cm) := (B1.out.cell (p := ⟨b, off + i * 6 + 5, none⟩) hlt).trans (hc 5 _ rfl)
    have HIN := Lib.hid hin
    clear b1 hc hin
    go_wp2_with (refine wpList_store_at rfl 53 (.tmp 4) (.tmp 16) rfl w.heap.size #[.int .i64 x.ch.id, .int .i64 x.ch.fr, .int .i64 x.ch.to, .int .i64 x.ch.cap, .int .i64 x.ch.sz, .slice Am x.msgs.length cm] rfl rfl 53 _ G1.out info_qu rfl (by simp [Value.oneCell']) ?_)
    intro w3 hw3
    have B3 := Lib.hid (below_row B1.out (Nat.le_refl w.heap.size) #[.int .i64 x.ch.id, .int .i64 x.ch.fr, .int .i64 x.ch.to, .int .i64 x.ch.cap, .int .i64 x.ch.sz, .slice Am x.msgs.length cm])
    have G3 := Lib.hid (blk_row G1.out #[.int .i64 x.ch.id, .int .i64 x.ch.fr, .int .i64 x.ch.to, .int .i64 x.ch.cap, .int .i64 x.ch.sz, .slice Am x.msgs.length cm])
    rw [← hw3.out] at B3 G3
    have I3 := Lib.hid (inM_below _ _ _ _ _ HIN.out B3.out)
    clear hw3
    go_wp2
    refine ret_row_tmp rfl w.heap.size 53 _ _ rfl G3.out Try.underlying53 rfl info_qu rfl ?_
    rw [HO.out]
    exact ⟨B3.out, Am, cm, rfl, I3.out⟩
end Go.Proofs.Ytnfjkpeifleogaa.mv
