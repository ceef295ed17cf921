/- Calls of a partition: the reference's copy of a world; no condition. -/
import Derived.Test.YthkkmnckidfmkaaRows
import Derived.Test.YthkkmnckidfmkaaHyG
import Derived.Deep.CutRange
import Derived.Deep.RegionHeld3
import Derived.Deep.RegionLaw
namespace Go.Proofs.Ythkkmnckidfmkaa.hy
open Go Go.ChangeShapes Go.WideShapes Go.ChangeAt Go.RowKit Go.Proofs.Ythkkmnckidfmkaa.rows
theorem info_rw : (Try.prog.info? 29).map (·.size) = some 5 := by kernel_rfl
def ownX (lo hi : Nat) (w : World) (A : Option Addr) (c : Nat) (x : Qu) : Prop := x.msgs.length ≤ c ∧ (A = none → c = 0) ∧ Own2 lo hi w A x.msgs
def GrowQ (lo : Nat) (w : World) (v : Value) (xs : List Qu) : Prop := GrowX Qu.cells 36 6 ownX lo w v xs
theorem ownX_below : ∀ lo w w' A c x, ownX lo w.heap.size w A c x → Below w.heap.size w w' → ownX lo w'.heap.size w' A c x := fun _ _ _ _ _ _ h hb => ownM.below h hb
theorem ownX_keptX {T0 : TypeId} (hT : 5 ≠ T0) (hT2 : 24 ≠ T0) {lo : Nat} {w w' : World} {A : Option Addr} {c : Nat} {x : Qu} (h : ownX lo w.heap.size w A c x) (k : KeptX T0 w w') : ownX lo w'.heap.size w' A c x := ownM.keptX hT hT2 h k
theorem GrowQ.below {lo : Nat} {w w' : World} {v : Value} {xs : List Qu} (h : GrowQ lo w v xs) (hb : Below w.heap.size w w') : GrowQ lo w' v xs := GrowX.below ownX_below h hb
theorem GrowQ.keptX {T0 : TypeId} (h1 : 36 ≠ T0) (h2 : 5 ≠ T0) (h3 : 24 ≠ T0) {lo : Nat} {w w' : World} {v : Value} {xs : List Qu} (h : GrowQ lo w v xs) (k : KeptX T0 w w') : GrowQ lo w' v xs := by
  obtain ⟨us, e1, e2, e3⟩ := h
  exact ⟨us, e1, own_keptX e2 h1 k, fun u hu => ownX_keptX h2 h3 (e3 u hu) k⟩
theorem GrowQ.form {lo : Nat} {w : World} {v : Value} {xs : List Qu} (h : GrowQ lo w v xs) : ∃ A c, v = .slice A xs.length c := by
  obtain ⟨us, e1, e2, e3⟩ := h
  rcases e2.2 with ⟨h1, h2⟩ | ⟨g, cap, cur, h1, _⟩
  · exact ⟨none, 0, by rw [h1, h2]⟩
  · exact ⟨_, cap, h1⟩
theorem GrowQ.row {lo n d : Nat} {w : World} {A : Option Addr} {xs : List Qu} (h : GrowQ lo w (.slice A n d) xs) : QRow lo w A d xs := by
  obtain ⟨us, e1, e2, e3⟩ := h
  have hl : us.length = xs.length := by rw [← e1, List.length_map]
  rcases e2.2 with ⟨h1, h2⟩ | ⟨g, cap, cur, h1, hb, hg, hc, _, hs, ht⟩
  · injection h1 with hA _ hd
    have hx : xs = [] := List.eq_nil_of_length_eq_zero h2
    subst hx; subst hA; subst hd
    exact QRow.nil
  · injection h1 with hA hn hd
    subst hA; subst hd
    refine ⟨hc, (fun h => by cases h), .inl ⟨g, rfl⟩, us, e1, .inr ⟨g, 0, cur, rfl, hb, blk_lt hg, hg, fun j u hu => ?_⟩, e3⟩
    rw [Nat.zero_add]
    rw [← ht, List.getElem?_take] at hu
    split at hu
    · simpa using hu
    · cases hu
theorem KeptX.grown {T0 : TypeId} {w w' : World} {lo sz n : Nat} {v : Value} {xs : List Value} (ho : w.ownsRow lo T0 sz v n xs) (hg : w.grownBy w' v.ownBlock) : KeptX T0 w w' :=
  ⟨hg.size, fun _ _ _ ht hgc => blk_grown hgc hg (own_ne ho hgc (fun e => ht e.symm))⟩
theorem Grow.keptX {T0 : TypeId} (h1 : 24 ≠ T0) (h2 : 5 ≠ T0) {lo : Nat} {w w' : World} {v : Value} {ls : List Msg} (h : Grow lo w v ls) (k : KeptX T0 w w') : Grow lo w' v ls := by
  obtain ⟨vs, e1, e2, e3⟩ := h
  refine ⟨vs, e1, own_keptX e2 h1 k, fun j l hj => ?_⟩
  obtain ⟨u, g1, A, c, g2, g3, g4, g5, g6⟩ := e3 j l hj
  exact ⟨u, g1, A, c, g2, g3, g4, g5, RowIn.keptX g6 h2 k⟩
theorem own_lo {w : World} {lo lo' : Nat} {e : TypeId} {size n : Nat} {v : Value} {xs : List Value} (h : w.ownsRow lo e size v n xs) (hl : lo' ≤ lo) : w.ownsRow lo' e size v n xs := by
  refine ⟨h.1, ?_⟩
  rcases h.2 with hn | ⟨g, cap, cur, rfl, hb0, rest⟩
  · exact .inl hn
  · exact .inr ⟨g, cap, cur, rfl, Nat.le_trans hl hb0, rest⟩
theorem belowD {B : Nat} {a w : World} (h : Below B a w) : Below B a w.drew := h.drew
theorem belowA {B : Nat} {a w : World} (h : Below B a w) (hB : B ≤ a.heap.size) (o : Obj) : Below B a (w.alloc o) := h.alloc (Nat.le_trans hB h.size) o
theorem belowS {B : Nat} {a w : World} {g : Nat} (h : Below B a w) (hg : B ≤ g) (k : Nat) (u : Value) : Below B a (w.setCell ⟨g, k, none⟩ u) := h.setCell (p := ⟨g, k, none⟩) hg u
abbrev set5 (w : World) (g : Nat) (u0 u1 u2 u3 u4 : Value) : World := ((((w.setCell ⟨g, 0, none⟩ u0).setCell ⟨g, 1, none⟩ u1).setCell ⟨g, 2, none⟩ u2).setCell ⟨g, 3, none⟩ u3).setCell ⟨g, 4, none⟩ u4
theorem set5_here {w : World} {g : Nat} {a b c d e : Value} {T : TypeId} (h : w.heap[g]? = some (.cells #[a, b, c, d, e] T (0, 0))) (u0 u1 u2 u3 u4 : Value) : (set5 w g u0 u1 u2 u3 u4).heap[g]? = some (.cells #[u0, u1, u2, u3, u4] T (0, 0)) := blk_set (blk_set (blk_set (blk_set (blk_set h 0 u0) 1 u1) 2 u2) 3 u3) 4 u4
theorem set5_kept {w : World} {g : Nat} {cs : Array Value} {T : TypeId} (hg : w.heap[g]? = some (.cells cs T (0, 0))) (u0 u1 u2 u3 u4 : Value) : KeptX T w (set5 w g u0 u1 u2 u3 u4) :=
  have h1 := blk_set hg 0 u0
  have h2 := blk_set h1 1 u1
  have h3 := blk_set h2 2 u2
  have h4 := blk_set h3 3 u3
  (KeptX.set hg 0 u0).trans ((KeptX.set h1 1 u1).trans ((KeptX.set h2 2 u2).trans ((KeptX.set h3 3 u3).trans (KeptX.set h4 4 u4))))
theorem set5_below {B : Nat} {a w : World} {g : Nat} (h : Below B a w) (hB : B ≤ g) (u0 u1 u2 u3 u4 : Value) : Below B a (set5 w g u0 u1 u2 u3 u4) := belowS (belowS (belowS (belowS (belowS h hB 0 u0) hB 1 u1) hB 2 u2) hB 3 u3) hB 4 u4
/-- The copy begun: its block, and the input's bytes. -/
def Begun (L : Nat) (wb : World) (fr tk ver : Int) (ni : Nat) (inp : Msg) (t : Value) (wc : World) : Prop :=
  ∃ g3 C2 c2, t = .pointer (some ⟨g3, 0, none⟩) ∧ L ≤ g3 ∧ wc.heap[g3]? = some (.cells #[.int .i64 fr, .int .i64 tk, .int .i64 ver, .slice none 0 0, .slice C2 ni c2] 29 (0, 0)) ∧ Bys L wc C2 c2 inp ∧ Below L wb wc
theorem Begun.alloc {L : Nat} {wb w3 : World} {fr tk ver : Int} {ni : Nat} {inp : Msg} {C2 : Option Addr} {c2 : Nat} (hb : Below L wb w3) (hL : L ≤ wb.heap.size) (hy : Bys L w3 C2 c2 inp) : Begun L wb fr tk ver ni inp (.pointer (some ⟨w3.heap.size, 0, none⟩)) (w3.alloc (.cells #[.int .i64 fr, .int .i64 tk, .int .i64 ver, .slice none 0 0, .slice C2 ni c2] 29)) :=
  ⟨_, C2, c2, rfl, Nat.le_trans hL hb.size, blk_new _ _ _, hy.below (ext1 _ _), belowA hb hL _⟩
theorem Begun.set {L g : Nat} {wb w3 : World} {fr tk ver : Int} {ni : Nat} {inp : Msg} {C2 : Option Addr} {c2 : Nat} {a b c d e : Value} (hb : Below L wb w3) (hg : L ≤ g) (h3 : w3.heap[g]? = some (.cells #[a, b, c, d, e] 29 (0, 0))) (hy : Bys L w3 C2 c2 inp) : Begun L wb fr tk ver ni inp (.pointer (some ⟨g, 0, none⟩)) (set5 w3 g (.int .i64 fr) (.int .i64 tk) (.int .i64 ver) (.slice none 0 0) (.slice C2 ni c2)) :=
  ⟨g, C2, c2, rfl, hg, set5_here h3 _ _ _ _ _, hy.keptX (by decide) (set5_kept h3 _ _ _ _ _), set5_below hb hg _ _ _ _ _⟩
theorem Begun.drew {L : Nat} {wb w3 : World} {fr tk ver : Int} {ni : Nat} {inp : Msg} {t : Value} (h : Begun L wb fr tk ver ni inp t w3) : Begun L wb fr tk ver ni inp t w3.drew := by
  obtain ⟨g, C, c, h1, h2, h3, h4, h5⟩ := h
  exact ⟨g, C, c, h1, h2, h3, h4, h5.drew⟩
/-- What Copied tells. -/
def CdOut (fr tk ver : Int) (nq ni : Nat) (qs : List Qu) (inp : Msg) (w : World) (e : Ending) (w' : World) : Prop :=
  ∃ B2 d2 C2 c2, e = .returned (.agg #[.int .i64 fr, .int .i64 tk, .int .i64 ver, .slice B2 nq d2, .slice C2 ni c2]) ∧ WOut w.heap.size w' B2 d2 qs C2 c2 inp ∧ Below w.heap.size w w'
theorem blk_new2 (w : World) (o : Obj) (cs : Array Value) (t : TypeId) : ((w.alloc o).alloc (.cells cs t)).heap[w.heap.size + 1]? = some (.cells cs t (0, 0)) := by
  have := blk_new (w.alloc o) cs t
  simpa using this
set_option maxRecDepth 100000 in
set_option maxHeartbeats 4000000 in
theorem copied (fr tk ver : Int) (qs : List Qu) (inp : Msg) (B : Option Addr) (d : Nat) (Ci : Option Addr) (ci : Nat) (hs : Small qs inp) (w : World) (hw : WIn w B d qs Ci ci inp) :
    Calls Try.prog 19 #[.agg #[.int .i64 fr, .int .i64 tk, .int .i64 ver, .slice B qs.length d, .slice Ci inp.length ci]] w (CdOut fr tk ver qs.length inp.length qs inp w) := by
  obtain ⟨i0, hi0, hz0, hz1, hz2⟩ := info_parts info_byte
  obtain ⟨j0, ji, jz0, jz1, jz2⟩ := info_parts info_quz
  obtain ⟨l0, li, lz0, lz1, lz2⟩ := info_parts info_row
  obtain ⟨hq, hd, hB, hi, hci, hCi⟩ := hw
  obtain ⟨s1, s2, s3⟩ := hs
  obtain ⟨nq, hnq⟩ : ∃ m, qs.length = m := ⟨_, rfl⟩
  obtain ⟨ni, hni⟩ : ∃ m, inp.length = m := ⟨_, rfl⟩
  rw [hnq] at hd s1 ⊢; rw [hni] at s2 ⊢
  have hX := ((Below.refl w.heap.size w).alloc (Nat.le_refl _) (.cells #[.int .i64 fr, .int .i64 tk, .int .i64 ver, .slice B nq d, .slice Ci ni ci] 29)).alloc (by simp) (.cells #[.int .i64 0, .int .i64 0, .int .i64 0, .slice none 0 0, .slice none 0 0] 29)
  have G0 := Lib.hid (blk_alloc (blk_new w #[.int .i64 fr, .int .i64 tk, .int .i64 ver, .slice B nq d, .slice Ci ni ci] 29) (.cells #[.int .i64 0, .int .i64 0, .int .i64 0, .slice none 0 0, .slice none 0 0] 29))
  have G1 := Lib.hid (show ((w.alloc (.cells #[.int .i64 fr, .int .i64 tk, .int .i64 ver, .slice B nq d, .slice Ci ni ci] 29)).alloc (.cells #[.int .i64 0, .int .i64 0, .int .i64 0, .slice none 0 0, .slice none 0 0] 29)).heap[w.heap.size + 1]? = some (.cells #[.int .i64 0, .int .i64 0, .int .i64 0, .slice none 0 0, .slice none 0 0] 29 (0, 0)) by have := blk_new (w.alloc (.cells #[.int .i64 fr, .int .i64 tk, .int .i64 ver, .slice B nq d, .slice Ci ni ci] 29)) #[.int .i64 0, .int .i64 0, .int .i64 0, .slice none 0 0, .slice none 0 0] 29; simpa using this)
  have hrc := bcs_length inp
  rw [hni] at hrc
  have HX := Lib.hid hX; have HNQ := Lib.hid hnq; have HNI := Lib.hid hni; have S3 := Lib.hid s3; have HQ := Lib.hid (hq.below hX); have HIN := Lib.hid (hi.below hX); have HRC := Lib.hid hrc
  clear hX hq hi hnq hni s3 hB hCi hrc
  have a0 := blk_cell G0.out 0
  have a1 := blk_cell G0.out 1
  have a2 := blk_cell G0.out 2
  have a4 := blk_cell G0.out 4
  go_enter Try.func19, Try.ntmps19
  go_wp2_with fail
  generalize ((w.alloc (.cells #[.int .i64 fr, .int .i64 tk, .int .i64 ver, .slice B nq d, .slice Ci ni ci] 29)).alloc (.cells #[.int .i64 0, .int .i64 0, .int .i64 0, .slice none 0 0, .slice none 0 0] 29)) = wb at *
  obtain ⟨L, hL⟩ : ∃ x, wb.heap.size = x := ⟨_, rfl⟩
  have HL := Lib.hid hL
  have hLw : w.heap.size ≤ L := by rw [← hL]; exact HX.out.size
  have hL0 : w.heap.size + 1 < L := by rw [← hL]; exact blk_lt G1.out
  clear hL
  go_cut [3] from 7 to 17 (fun t3 wc => Begun L wb fr tk ver ni inp t3 wc)
  case first =>
    have HSALL := Lib.hid (show ∀ w', Below L wb w' → (Below L wb w' ∧ w'.cell? ⟨w.heap.size, 0, none⟩ = some (.int .i64 fr) ∧ w'.cell? ⟨w.heap.size, 1, none⟩ = some (.int .i64 tk) ∧ w'.cell? ⟨w.heap.size, 2, none⟩ = some (.int .i64 ver) ∧ w'.cell? ⟨w.heap.size, 4, none⟩ = some (.slice Ci ni ci)) from fun w' hb => ⟨hb, (hb.cell (p := ⟨w.heap.size, 0, none⟩) (by show w.heap.size < L; omega)).trans a0, (hb.cell (p := ⟨w.heap.size, 1, none⟩) (by show w.heap.size < L; omega)).trans a1, (hb.cell (p := ⟨w.heap.size, 2, none⟩) (by show w.heap.size < L; omega)).trans a2, (hb.cell (p := ⟨w.heap.size, 4, none⟩) (by show w.heap.size < L; omega)).trans a4⟩)
    have hk0 := Below.refl L wb
    have hk1 : Below L wb wb.drew := (Below.refl L wb).drew
    have hLz : L ≤ wb.heap.size := by rw [HL.out]; exact Nat.le_refl _
    have HOW1 := Lib.hid (show (wb.alloc (.cells #[] 5)).ownsRow L 5 1 (.slice (some ⟨wb.heap.size, 0, none⟩) 0 0) 0 [] from own_lo (World.ownsRow_lit wb #[] 0 (Nat.le_refl _) (by decide) rfl) hLz)
    have HOW2 := Lib.hid (show ((wb.alloc (.cells #[.int .i64 0, .int .i64 0, .int .i64 0, .slice none 0 0, .slice none 0 0] 29)).alloc (.cells #[] 5)).ownsRow L 5 1 (.slice (some ⟨wb.heap.size + 1, 0, none⟩) 0 0) 0 [] from ⟨rfl, .inr ⟨wb.heap.size + 1, 0, #[], rfl, Nat.le_trans hLz (Nat.le_succ _), blk_new2 _ _ _ _, Nat.le_refl _, by decide, rfl, rfl⟩⟩)
    have HOW3 := Lib.hid (HOW1.out.alloc (.cells #[.int .i64 0, .int .i64 0, .int .i64 0, .slice none 0 0, .slice none 0 0] 29))
    have HZ2 := Lib.hid (blk_alloc (blk_new wb #[.int .i64 0, .int .i64 0, .int .i64 0, .slice none 0 0, .slice none 0 0] 29) (.cells #[] 5))
    have HZ3 := Lib.hid (blk_new2 wb (.cells #[] 5) #[.int .i64 0, .int .i64 0, .int .i64 0, .slice none 0 0, .slice none 0 0] 29)
    go_wp2_with fail
    go_region_held3 (fun w' => Below L wb w' ∧ w'.cell? ⟨w.heap.size, 0, none⟩ = some (.int .i64 fr) ∧ w'.cell? ⟨w.heap.size, 1, none⟩ = some (.int .i64 tk) ∧ w'.cell? ⟨w.heap.size, 2, none⟩ = some (.int .i64 ver) ∧ w'.cell? ⟨w.heap.size, 4, none⟩ = some (.slice Ci ni ci))
      (first | (with_reducible exact HSALL.out _ hk1) | (with_reducible exact HSALL.out _ (by assumption)) | (refine HSALL.out _ ?_; repeat' (first | (with_reducible assumption) | (with_reducible refine belowD ?_) | (with_reducible refine belowA ?_ hLz _) | (with_reducible refine belowS ?_ (by first | exact hLz | omega) _ _))))
      (first
        | (refine step_append_rd rfl (.tmp 13) (.tmp 15) 24 rfl L 5 i0 (.int .u8 0) 1 1 Try.underlying24 hi0 hz0 hz1 hz2 rfl (by decide) _ 0 [] rfl (HOW1.out.drew) _ ni _ (bcs inp) rfl (by rw [HRC.out, Nat.mul_one]) (HIN.out.below (ext1 wb (.cells #[] 5))).drew (bcs_one inp) (by unfold maxLen; omega) (by omega) (Nat.le_trans hLz (Below.size (belowD (ext1 wb (.cells #[] 5))))) ?_; intro v3 w3 hown3 hg3; rw [Nat.zero_add] at hown3; obtain ⟨C2, c2, rfl, hc3, hA3, _, hr3⟩ := own_form3 hown3; have hb3 : Below L wb w3 := below_own (((Below.refl L wb).alloc hLz (.cells #[] 5)).drew) (HOW1.out.drew) hg3 (Nat.le_trans hLz (Below.size (belowD (ext1 wb (.cells #[] 5))))); have hy3 : Bys L w3 C2 c2 inp := ⟨by rw [HNI.out]; exact hc3, hA3, hr3⟩)
        | (refine step_append_rd rfl (.tmp 13) (.tmp 15) 24 rfl L 5 i0 (.int .u8 0) 1 1 Try.underlying24 hi0 hz0 hz1 hz2 rfl (by decide) _ 0 [] rfl (HOW2.out.drew) _ ni _ (bcs inp) rfl (by rw [HRC.out, Nat.mul_one]) (HIN.out.below ((ext1 wb (.cells #[.int .i64 0, .int .i64 0, .int .i64 0, .slice none 0 0, .slice none 0 0] 29)).trans ((ext1 (wb.alloc (.cells #[.int .i64 0, .int .i64 0, .int .i64 0, .slice none 0 0, .slice none 0 0] 29)) (.cells #[] 5)).mono (ext1 wb (.cells #[.int .i64 0, .int .i64 0, .int .i64 0, .slice none 0 0, .slice none 0 0] 29)).size))).drew (bcs_one inp) (by unfold maxLen; omega) (by omega) (Nat.le_trans hLz (Below.size (belowD ((ext1 wb (.cells #[.int .i64 0, .int .i64 0, .int .i64 0, .slice none 0 0, .slice none 0 0] 29)).trans ((ext1 (wb.alloc (.cells #[.int .i64 0, .int .i64 0, .int .i64 0, .slice none 0 0, .slice none 0 0] 29)) (.cells #[] 5)).mono (ext1 wb (.cells #[.int .i64 0, .int .i64 0, .int .i64 0, .slice none 0 0, .slice none 0 0] 29)).size))))) ?_; intro v3 w3 hown3 hg3; rw [Nat.zero_add] at hown3; obtain ⟨C2, c2, rfl, hc3, hA3, _, hr3⟩ := own_form3 hown3; have hb3 : Below L wb w3 := below_own ((((Below.refl L wb).alloc hLz (.cells #[.int .i64 0, .int .i64 0, .int .i64 0, .slice none 0 0, .slice none 0 0] 29)).alloc (Nat.le_trans hLz (ext1 wb (.cells #[.int .i64 0, .int .i64 0, .int .i64 0, .slice none 0 0, .slice none 0 0] 29)).size) (.cells #[] 5)).drew) (HOW2.out.drew) hg3 (Nat.le_trans hLz (Below.size (belowD ((ext1 wb (.cells #[.int .i64 0, .int .i64 0, .int .i64 0, .slice none 0 0, .slice none 0 0] 29)).trans ((ext1 (wb.alloc (.cells #[.int .i64 0, .int .i64 0, .int .i64 0, .slice none 0 0, .slice none 0 0] 29)) (.cells #[] 5)).mono (ext1 wb (.cells #[.int .i64 0, .int .i64 0, .int .i64 0, .slice none 0 0, .slice none 0 0] 29)).size))))); have hy3 : Bys L w3 C2 c2 inp := ⟨by rw [HNI.out]; exact hc3, hA3, hr3⟩; have zz3 := (KeptX.grown (HOW2.out.drew) hg3).2 _ _ _ (by decide) (blk_drew HZ2.out); have z0 := blk_cell zz3 0; have zf0 := blk_frozen zz3 0; have z1 := blk_cell zz3 1; have zf1 := blk_frozen zz3 1; have z2 := blk_cell zz3 2; have zf2 := blk_frozen zz3 2; have z3 := blk_cell zz3 3; have zf3 := blk_frozen zz3 3; have z4 := blk_cell zz3 4; have zf4 := blk_frozen zz3 4)
        | (refine step_append_rd rfl (.tmp 13) (.tmp 15) 24 rfl L 5 i0 (.int .u8 0) 1 1 Try.underlying24 hi0 hz0 hz1 hz2 rfl (by decide) _ 0 [] rfl (HOW3.out.drew) _ ni _ (bcs inp) rfl (by rw [HRC.out, Nat.mul_one]) (HIN.out.below ((ext1 wb (.cells #[] 5)).trans ((ext1 (wb.alloc (.cells #[] 5)) (.cells #[.int .i64 0, .int .i64 0, .int .i64 0, .slice none 0 0, .slice none 0 0] 29)).mono (ext1 wb (.cells #[] 5)).size))).drew (bcs_one inp) (by unfold maxLen; omega) (by omega) (Nat.le_trans hLz (Below.size (belowD ((ext1 wb (.cells #[] 5)).trans ((ext1 (wb.alloc (.cells #[] 5)) (.cells #[.int .i64 0, .int .i64 0, .int .i64 0, .slice none 0 0, .slice none 0 0] 29)).mono (ext1 wb (.cells #[] 5)).size))))) ?_; intro v3 w3 hown3 hg3; rw [Nat.zero_add] at hown3; obtain ⟨C2, c2, rfl, hc3, hA3, _, hr3⟩ := own_form3 hown3; have hb3 : Below L wb w3 := below_own ((((Below.refl L wb).alloc hLz (.cells #[] 5)).alloc (Nat.le_trans hLz (ext1 wb (.cells #[] 5)).size) (.cells #[.int .i64 0, .int .i64 0, .int .i64 0, .slice none 0 0, .slice none 0 0] 29)).drew) (HOW3.out.drew) hg3 (Nat.le_trans hLz (Below.size (belowD ((ext1 wb (.cells #[] 5)).trans ((ext1 (wb.alloc (.cells #[] 5)) (.cells #[.int .i64 0, .int .i64 0, .int .i64 0, .slice none 0 0, .slice none 0 0] 29)).mono (ext1 wb (.cells #[] 5)).size))))); have hy3 : Bys L w3 C2 c2 inp := ⟨by rw [HNI.out]; exact hc3, hA3, hr3⟩; have zz3 := (KeptX.grown (HOW3.out.drew) hg3).2 _ _ _ (by decide) (blk_drew HZ3.out); have z0 := blk_cell zz3 0; have zf0 := blk_frozen zz3 0; have z1 := blk_cell zz3 1; have zf1 := blk_frozen zz3 1; have z2 := blk_cell zz3 2; have zf2 := blk_frozen zz3 2; have z3 := blk_cell zz3 3; have zf3 := blk_frozen zz3 3; have z4 := blk_cell zz3 4; have zf4 := blk_frozen zz3 4))
    all_goals (go_wp2_with fail; go_meet)
    all_goals first
      | (with_reducible exact Begun.alloc hb3 hLz hy3)
      | (with_reducible exact (Begun.alloc hb3 hLz hy3).drew)
      | (with_reducible exact Begun.set hb3 hLz zz3 hy3)
      | (with_reducible exact (Begun.set hb3 hLz zz3 hy3).drew)
      | (with_reducible exact Begun.set hb3 (Nat.le_trans hLz (Nat.le_succ _)) zz3 hy3)
      | (with_reducible exact (Begun.set hb3 (Nat.le_trans hLz (Nat.le_succ _)) zz3 hy3).drew)
  case rest =>
    obtain ⟨g3, C2, c2, rfl, hg3, h3, hy, hb⟩ := hcut
    have O3 := Lib.hid h3; have Y3 := Lib.hid hy; have B3 := Lib.hid hb; clear h3 hy hb
    clear a0 a1 a2 a4
    obtain ⟨w0, hw0⟩ : ∃ x : World, x = wc := ⟨_, rfl⟩
    subst hw0
    go_wp2_with fail
    go_loopw [4] (fun iv wr => ∃ k : Nat, k ≤ nq ∧ iv = .int .i64 k ∧ ∃ v, wr.heap[g3]? = some (.cells #[.int .i64 fr, .int .i64 tk, .int .i64 ver, v, .slice C2 ni c2] 29 (0, 0)) ∧ GrowQ L wr v (qs.take k) ∧ Bys L wr C2 c2 inp ∧ Below L wb wr) (fun iv _ => nq - (intOf iv).toNat)
    case atStart => exact ⟨0, Nat.zero_le _, rfl, _, O3.out, by rw [List.take_zero]; exact GrowX.nil _ _, Y3.out, B3.out⟩
    case round =>
      clear O3 Y3 B3
      obtain ⟨wo, hwo⟩ : ∃ x : World, x = wr := ⟨_, rfl⟩
      subst hwo
      obtain ⟨k, hk, rfl, v, ho, hg, hy, hb⟩ := hrel
      have HO := Lib.hid ho; have BR := Lib.hid hb; have HY := Lib.hid hy; have hLo : L ≤ wo.heap.size := by have := hb.size; rw [HL.out] at this; exact this
      have HQL := Lib.hid (show (qs.take k).length = k by rw [List.length_take, HNQ.out]; omega)
      obtain ⟨Bv, dv, rfl⟩ := hg.form
      have HG := Lib.hid hg
      clear ho hb hg hy
      rw [HQL.out] at HG HO
      have SR := Lib.hid (blk_below G0.out BR.out (show w.heap.size < L by omega))
      have s3 := blk_cell SR.out 3
      have HBR := Lib.hid (show Below wb.heap.size wb wo by rw [HL.out]; exact BR.out)
      by_cases hkl : k < nq
      · have hki : (k : Int) < (nq : Int) := by omega
        obtain ⟨q, hq⟩ : ∃ q, qs[k]? = some q := ⟨_, List.getElem?_eq_getElem (by rw [HNQ.out]; exact hkl)⟩
        obtain ⟨b, off, rfl, _⟩ := Rws.addr qu_len (by decide) HQ.out (by rw [HNQ.out]; omega)
        obtain ⟨A1, c1, hin, hc⟩ := Rws.at qu_len HQ.out hq
        have hcw := fun (j : Nat) (v : Value) (h : (Qu.cells q A1 c1)[j]? = some v) => (HBR.out.cell (p := ⟨_, _, none⟩) (World.block_lt_of_cell? wb _ (hc j v h))).trans (hc j v h)
        have y0 := hcw 0 _ rfl
        have y1 := hcw 1 _ rfl
        have y2 := hcw 2 _ rfl
        have y3 := hcw 3 _ rfl
        have y4 := hcw 4 _ rfl
        dsimp only [Qu.cells, Nat.add_zero] at y0 y1 y2 y3 y4
        have HTK := Lib.hid (show qs.take (k + 1) = qs.take k ++ [q] by rw [List.take_add_one, hq]; rfl)
        have HQM := Lib.hid (S3.out q (List.mem_of_getElem? hq))
        obtain ⟨nm, hnm⟩ : ∃ nm, q.msgs.length = nm := ⟨_, rfl⟩
        have HNM := Lib.hid hnm
        have hnmi : (nm : Int) ≤ 1000000 := by have := HQM.out.1; rw [hnm] at this; omega
        have HC := Lib.hid hc; have HIM := Lib.hid hin.2.2
        clear hc hin hcw hq hnm
        have QA := Lib.hid (blk_new wo #[.int .i64 q.ch.id, .int .i64 q.ch.fr, .int .i64 q.ch.to, .int .i64 q.ch.cap, .int .i64 q.ch.sz, .slice none 0 0] 36)
        have SA := Lib.hid (blk_alloc SR.out (.cells #[.int .i64 q.ch.id, .int .i64 q.ch.fr, .int .i64 q.ch.to, .int .i64 q.ch.cap, .int .i64 q.ch.sz, .slice none 0 0] 36))
        have hza : wo.heap.size + 1 = (wo.alloc (.cells #[.int .i64 q.ch.id, .int .i64 q.ch.fr, .int .i64 q.ch.to, .int .i64 q.ch.cap, .int .i64 q.ch.sz, .slice none 0 0] 36)).heap.size := by simp
        have HZA := Lib.hid hza
        clear hza
        go_wp2_with fail
        clear s3 y0 y1 y2 y3 y4
        have EA := Lib.hid (ext1 wo (.cells #[.int .i64 q.ch.id, .int .i64 q.ch.fr, .int .i64 q.ch.to, .int .i64 q.ch.cap, .int .i64 q.ch.sz, .slice none 0 0] 36))
        generalize (wo.alloc (.cells #[.int .i64 q.ch.id, .int .i64 q.ch.fr, .int .i64 q.ch.to, .int .i64 q.ch.cap, .int .i64 q.ch.sz, .slice none 0 0] 36)) = wa at *
        go_loopw [6] (fun jv wr => ∃ j : Nat, j ≤ nm ∧ jv = .int .i64 j ∧ ∃ u, wr.heap[wo.heap.size]? = some (.cells #[.int .i64 q.ch.id, .int .i64 q.ch.fr, .int .i64 q.ch.to, .int .i64 q.ch.cap, .int .i64 q.ch.sz, u] 36 (0, 0)) ∧ Grow (wo.heap.size + 1) wr u (q.msgs.take j) ∧ Below wo.heap.size wo wr ∧ wo.heap.size + 1 ≤ wr.heap.size) (fun jv _ => nm - (intOf jv).toNat)
        case atStart => exact ⟨0, Nat.zero_le _, rfl, _, QA.out, by rw [List.take_zero]; exact Grow.nil _ _, EA.out, by rw [← HZA.out]; exact Nat.le_refl _⟩
        case round =>
          obtain ⟨j, hj, rfl, u, hqb, hgu, hbi, hzi⟩ := hrel
          have HJL := Lib.hid (show (q.msgs.take j).length = j by rw [List.length_take, HNM.out]; omega)
          obtain ⟨Au, cu, rfl, hcu, hAu, _, _⟩ := hgu.form
          have HQB := Lib.hid hqb; have HGU := Lib.hid hgu; have BI := Lib.hid hbi
          clear hqb hgu hbi hAu
          rw [HJL.out] at HQB HGU hcu
          have BWI := Lib.hid (HBR.out.trans (BI.out.mono HBR.out.size))
          have SI := Lib.hid (blk_below SR.out BI.out (blk_lt SR.out))
          have s3 := blk_cell SI.out 3
          have y5 := (BWI.out.cell (p := ⟨_, _, none⟩) (World.block_lt_of_cell? wb _ (HC.out 5 _ rfl))).trans (HC.out 5 _ rfl)
          rw [HNM.out] at y5
          by_cases hjl : j < nm
          · have hji : (j : Int) < (nm : Int) := by omega
            obtain ⟨mg, hmg⟩ : ∃ mg, q.msgs[j]? = some mg := ⟨_, List.getElem?_eq_getElem (by rw [HNM.out]; exact hjl)⟩
            obtain ⟨b1, o1, rfl⟩ := HIM.out.addr (by rw [HNM.out]; omega)
            obtain ⟨Ax, cx, cxc, hcx, _, hrx⟩ := (HIM.out.below BWI.out).at hmg
            have HTJ := Lib.hid (show q.msgs.take (j + 1) = q.msgs.take j ++ [mg] by rw [List.take_add_one, hmg]; rfl)
            have hml := HQM.out.2 mg (List.mem_of_getElem? hmg)
            obtain ⟨ml, hmle⟩ : ∃ z, mg.length = z := ⟨_, rfl⟩
            rw [hmle] at cxc hml hcx
            have hbl := bcs_length mg
            rw [hmle] at hbl
            have HMLE := Lib.hid hmle; have HBL := Lib.hid hbl; have HRX := Lib.hid hrx; clear hmg hrx hmle hbl
            obtain ⟨vs, hown, hvl, hms⟩ := HGU.out.own
            rw [HJL.out] at hown hvl
            have HOWN := Lib.hid hown; have HVL := Lib.hid hvl; have HMS := Lib.hid hms
            clear hown hvl hms
            have q5 := blk_cell HQB.out 5
            have LTQ := Lib.hid (blk_lt HQB.out)
            have s3a : ∀ o, (wr.alloc o).cell? ⟨w.heap.size, 3, none⟩ = some (.slice (some ⟨b, off, none⟩) nq d) := fun o => Lib.cell?_alloc_marked o s3
            have q5a : ∀ o, (wr.alloc o).cell? ⟨wo.heap.size, 5, none⟩ = some (.slice Au j cu) := fun o => Lib.cell?_alloc_marked o q5
            have cxa : ∀ o, (wr.alloc o).cell? ⟨b1, o1 + j, none⟩ = some (.slice Ax ml cx) := fun o => Lib.cell?_alloc_marked o cxc
            have y5a : ∀ o, (wr.alloc o).cell? ⟨b, off + k * 6 + 5, none⟩ = some (.slice (some ⟨b1, o1, none⟩) nm c1) := fun o => Lib.cell?_alloc_marked o y5
            have HOW := Lib.hid (show (wr.alloc (.cells #[] 5)).ownsRow wr.heap.size 5 1 (.slice (some ⟨wr.heap.size, 0, none⟩) 0 0) 0 [] from World.ownsRow_lit wr #[] 0 (Nat.le_refl _) (by decide) rfl)
            go_wp2_with fail
            go_region_law (first
              | (refine step_append_rd rfl (.tmp 45) (.tmp 54) 24 rfl wr.heap.size 5 i0 (.int .u8 0) 1 1 Try.underlying24 hi0 hz0 hz1 hz2 rfl (by decide) _ 0 [] rfl (HOW.out.drew) _ ml _ (bcs mg) rfl (by rw [HBL.out, Nat.mul_one]) (HRX.out.below (ext1 wr (.cells #[] 5))).drew (bcs_one mg) (by unfold maxLen; omega) (by omega) (by simp) ?_; intro v1 w3 hown3 hg3; rw [Nat.zero_add] at hown3; obtain ⟨A9, c9, rfl, hc9, hA9, hf9, hr9⟩ := own_form3 hown3; have b5 := below_own (((Below.refl wr.heap.size wr).alloc (Nat.le_refl _) (.cells #[] 5)).drew) (HOW.out.drew) hg3 (by simp); have B5 := Lib.hid b5; have z5 := B5.out.size; have QB5 := Lib.hid (blk_below HQB.out B5.out LTQ.out); have HOW5 := Lib.hid (own_below HOWN.out B5.out); have q5b := blk_cell QB5.out 5; have q5c : ∀ o, (w3.alloc o).cell? ⟨wo.heap.size, 5, none⟩ = some (.slice Au j cu) := fun o => blk_cell (blk_alloc QB5.out o) 5; have hm5 : MsgAt wr.heap.size w3.heap.size w3 (.slice A9 ml c9) mg := ⟨A9, c9, (by rw [HMLE.out]), (by rw [HMLE.out]; exact hc9), hA9, hf9.elim .inl (fun e => .inr (by have h := HBL.out; rw [show bcs mg = [] from e] at h; exact List.eq_nil_of_length_eq_zero (by rw [HMLE.out, ← h]; rfl))), hr9⟩)
              | (refine step_append_rd rfl (.tmp 44) (.tmp 56) 34 rfl (wo.heap.size + 1) 24 l0 (.slice none 0 0) 1 24 Try.underlying34 li lz0 lz1 lz2 rfl (by decide) _ j vs rfl (HOW5.out.alloc _) _ 1 _ [.slice A9 ml c9] rfl rfl (Rd.new _ _ _) (by intro u hu; simp at hu; subst hu; rfl) (by unfold maxLen; omega) (by omega) (by simp; omega) ?_; intro v6 w6 hown6 hg6; obtain ⟨A6, c6, rfl, hc6, hA6, hf6, hr6⟩ := own_form3 hown6; have KX6 := Lib.hid (KeptX.grown (HOW5.out.alloc (.cells #[.slice A9 ml c9] 24)) hg6); have O6 := Lib.hid (KX6.out.2 _ _ _ (by decide) (blk_alloc QB5.out (.cells #[.slice A9 ml c9] 24))); have hb6 := below_own ((B5.out.mono (show wo.heap.size + 1 ≤ wr.heap.size from hzi)).alloc (by omega) (.cells #[.slice A9 ml c9] 24)) (HOW5.out.alloc _) hg6 (by simp; omega); have q5d := blk_cell O6.out 5; have f5d := blk_frozen O6.out 5))
            all_goals (go_wp2_with fail; go_roundw)
            all_goals first
              | (simp [intOf]; omega)
              | exact ⟨j + 1, by omega, by go_num, .slice A6 (j + 1) c6, blk_set O6.out 5 _, by rw [HTJ.out]; exact Grow.keptX (by decide) (by decide) (Grow.snoc (vs := vs) (by rw [HJL.out]; exact HOW5.out.alloc (.cells #[.slice A9 ml c9] 24)) (by rw [HJL.out]; exact HVL.out) (fun i l hi => by obtain ⟨u, e1, e2⟩ := HMS.out i l hi; exact ⟨u, e1, ((e2.below B5.out (Nat.le_refl _)).mono (Nat.le_refl _) B5.out.size |> fun h => (h.below (ext1 w3 (.cells #[.slice A9 ml c9] 24)) (Nat.le_refl _)).mono (Nat.le_refl _) (ext1 w3 (.cells #[.slice A9 ml c9] 24)).size)⟩) (((MsgAt.mono hm5 (show wo.heap.size + 1 ≤ wr.heap.size from hzi) (Nat.le_refl _)).below (ext1 w3 (.cells #[.slice A9 ml c9] 24)) (Nat.le_refl _)).mono (Nat.le_refl _) (ext1 w3 (.cells #[.slice A9 ml c9] 24)).size) (by rw [HJL.out]; exact hown6) hg6) (KeptX.set O6.out 5 _), (BI.out.trans (hb6.mono (Nat.le_succ _))).setCell (p := ⟨wo.heap.size, 5, none⟩) (Nat.le_refl _) _, by have := hb6.size; simp; omega⟩
          · have hjn : nm = j := by omega
            subst hjn
            have HGM := Lib.hid (show Grow (wo.heap.size + 1) wr (.slice Au nm cu) q.msgs by have h := HGU.out; rwa [List.take_of_length_le (by rw [HNM.out]; exact Nat.le_refl _)] at h)
            clear HGU
            have BW := BI
            have OUTW := Lib.hid (blk_below HO.out BI.out (blk_lt HO.out))
            have HMSG := Lib.hid (show ownX L wr.heap.size wr Au cu q by obtain ⟨A8, c8, e8, k1, k2, _, k4⟩ := HGM.out.form; rw [HNM.out] at e8; injection e8 with e1 _ e3; subst e1; subst e3; exact ⟨k1, k2, k4.mono (by omega) (Nat.le_refl _)⟩)
            have o2 := blk_cell OUTW.out 3
            have y0q := blk_cell HQB.out 0
            have y1q := blk_cell HQB.out 1
            have y2q := blk_cell HQB.out 2
            have y3q := blk_cell HQB.out 3
            have y4q := blk_cell HQB.out 4
            have y5q := blk_cell HQB.out 5
            go_upto_region 10 with fail
            clear s3 y5
            have hgw := HG.out.below BW.out
            obtain ⟨us, hus, hown, hms⟩ := hgw
            rw [HQL.out] at hown
            have HUS := Lib.hid hus; have HOWN := Lib.hid hown; have HMS := Lib.hid hms
            have hwz : L ≤ wr.heap.size := Nat.le_trans hLo BW.out.size
            have HUL := Lib.hid (show us.length = k by rw [← HQL.out, ← hus, List.length_map])
            clear hus hown hms
            go_wp2_with (at_builtin; refine wpList_append_rd _ rfl (.tmp 60) (.tmp 62) 27 rfl L 36 j0 (.agg #[.int .i64 0, .int .i64 0, .int .i64 0, .int .i64 0, .int .i64 0, .slice none 0 0]) 6 64 Try.underlying27 ji jz0 jz1 jz2 rfl (by decide) _ k (flat Qu.cells us) rfl (HOWN.out.alloc _) _ 1 _ #[.int .i64 q.ch.id, .int .i64 q.ch.fr, .int .i64 q.ch.to, .int .i64 q.ch.cap, .int .i64 q.ch.sz, .slice Au nm cu].toList rfl rfl (Rd.new _ _ _) ?d2 ?d3 ?d4 ?d5 ?_)
            case d2 => simp [Value.oneCell']
            case d3 => unfold maxLen; omega
            case d4 => omega
            case d5 => first | omega | (simp; omega)
            intro v5 w5 hown5 hg5
            have BA9 := Lib.hid (ext1 wr (.cells #[.int .i64 q.ch.id, .int .i64 q.ch.fr, .int .i64 q.ch.to, .int .i64 q.ch.cap, .int .i64 q.ch.sz, .slice Au nm cu] 36))
            have KX := Lib.hid (KeptX.grown (HOWN.out.alloc (.cells #[.int .i64 q.ch.id, .int .i64 q.ch.fr, .int .i64 q.ch.to, .int .i64 q.ch.cap, .int .i64 q.ch.sz, .slice Au nm cu] 36)) hg5)
            have O5 := Lib.hid (KX.out.2 _ _ _ (by decide) (blk_alloc OUTW.out (.cells #[.int .i64 q.ch.id, .int .i64 q.ch.fr, .int .i64 q.ch.to, .int .i64 q.ch.cap, .int .i64 q.ch.sz, .slice Au nm cu] 36)))
            have hb5 := below_own (B := L) ((BR.out.trans (BW.out.mono hLo)).alloc (by omega) (.cells #[.int .i64 q.ch.id, .int .i64 q.ch.fr, .int .i64 q.ch.to, .int .i64 q.ch.cap, .int .i64 q.ch.sz, .slice Au nm cu] 36)) (HOWN.out.alloc _) hg5 (by first | omega | (simp; omega))
            have HG5 := Lib.hid (show GrowQ L w5 v5 (qs.take (k + 1)) from by
              have h := GrowX.snoc (cs := Qu.cells) (own := ownX) (us := us) (u := (q, Au, cu)) (by rw [HUL.out]; exact HOWN.out.alloc (.cells #[.int .i64 q.ch.id, .int .i64 q.ch.fr, .int .i64 q.ch.to, .int .i64 q.ch.cap, .int .i64 q.ch.sz, .slice Au nm cu] 36)) (ownX_below _ _ _ _ _ _ HMSG.out BA9.out) (fun y hy => ownX_below _ _ _ _ _ _ (HMS.out y hy) BA9.out) (fun A c y hy => ownX_keptX (by decide) (by decide) hy KX.out) (by rw [HUL.out]; have hh := hown5; rw [← HNM.out] at hh; exact hh)
              rw [HUS.out] at h
              rw [HTK.out]
              exact h)
            have HB5 := Lib.hid hb5
            have HY5 := Lib.hid (((HY.out.below BW.out).below BA9.out).keptX (by decide) KX.out)
            obtain ⟨A5, c5, hv5⟩ : ∃ A5 c5, v5 = .slice A5 (k + 1) c5 := (by rcases hown5.2 with ⟨_, h2⟩ | ⟨g, cap, cur, h1, _⟩; exact absurd h2 (Nat.succ_ne_zero _); exact ⟨_, cap, h1⟩)
            subst hv5
            have o5 := blk_cell O5.out 3; have of5 := blk_frozen O5.out 3
            clear hown5 hg5 hb5 o2 y0q y1q y2q y3q y4q y5q
            go_wp2_with fail
            go_roundw
            case rel => exact ⟨k + 1, by omega, by go_num, _, blk_set O5.out 3 _, HG5.out.keptX (by decide) (by decide) (by decide) (KeptX.set O5.out 3 _), HY5.out.keptX (by decide) (KeptX.set O5.out 3 _), HB5.out.setCell (p := ⟨g3, 3, none⟩) hg3 _⟩
            case measure => simp [intOf] <;> omega
      · have hkn : nq = k := by omega
        subst hkn
        have HGQ := Lib.hid (show GrowQ L wo (.slice Bv nq dv) qs by have h := HG.out; rwa [List.take_of_length_le (by rw [HNQ.out]; exact Nat.le_refl _)] at h)
        have ZR := Lib.hid (blk_below G1.out BR.out hL0)
        have o0 := blk_cell HO.out 0
        have o1 := blk_cell HO.out 1
        have o2 := blk_cell HO.out 2
        have o3 := blk_cell HO.out 3
        have o4 := blk_cell HO.out 4
        go_wp2_with (refine wpList_store_at rfl 29 (.tmp 2) (.tmp 65) rfl (w.heap.size + 1) #[.int .i64 fr, .int .i64 tk, .int .i64 ver, .slice Bv nq dv, .slice C2 ni c2] rfl rfl 29 _ ZR.out info_rw rfl (by simp [Value.oneCell']) ?_)
        intro w8 hw8
        have KX := Lib.hid (show KeptX 29 wo (wo.setRow (w.heap.size + 1) #[.int .i64 fr, .int .i64 tk, .int .i64 ver, .slice Bv nq dv, .slice C2 ni c2]) from ⟨by rw [size_row]; exact Nat.le_refl _, fun g' c2 t ht hg' => (setRow_other wo _ g' _ fun e => by rw [e, ZR.out] at hg'; injection hg' with hg'; injection hg' with _ h2; exact ht h2.symm).trans hg'⟩)
        have B8 := Lib.hid (below_row (HX.out.trans (HBR.out.mono HX.out.size)) (Nat.le_succ w.heap.size) #[.int .i64 fr, .int .i64 tk, .int .i64 ver, .slice Bv nq dv, .slice C2 ni c2])
        have R8 := Lib.hid (blk_row ZR.out #[.int .i64 fr, .int .i64 tk, .int .i64 ver, .slice Bv nq dv, .slice C2 ni c2])
        have GQ8 := Lib.hid (((GrowQ.row HGQ.out).lo hLw).keptX (by decide) (by decide) (by decide) KX.out)
        have GY8 := Lib.hid ((HY.out.lo hLw).keptX (by decide) KX.out)
        rw [← hw8.out] at B8 R8 GQ8 GY8
        clear hw8 KX
        go_wp2
        refine ret_row rfl (w.heap.size + 1) 29 _ _ rfl R8.out Try.underlying29 rfl info_rw rfl ?_
        exact ⟨Bv, dv, C2, c2, rfl, ⟨GQ8.out, GY8.out⟩, B8.out⟩
end Go.Proofs.Ythkkmnckidfmkaa.hy
