/- Calls of a partition: a part of 16 bytes; no condition and what belongs to it. -/
import Derived.Test.YthkkmnckidfmkaaRows
import Derived.Test.YthkkmnckidfmkaaHyJ
namespace Go.Proofs.Ythkkmnckidfmkaa.hy
open Go Go.ChangeShapes Go.WideShapes Go.ChangeAt Go.RowKit Go.Proofs.Ythkkmnckidfmkaa.rows
/-- The bytes of such a part. -/
def mem16 : Msg := [7, 8, 0, 0, 0, 0, 0, 0, 0, 0, 0, 0, 0, 0, 0, 0]
def part16 (i a b c : Int) : Pt := ⟨i, 16, false, a, b, c, 0, 0, 0, 0, 0, 0, 0, mem16⟩
theorem made_zs (n : Nat) : madeCells (Value.cells (.int .u8 0)) (n * 1) = (bcs (List.replicate n 0)).toArray := by
  refine Array.ext (by simp [madeCells, bcs, Lib.byteCells]) fun j h1 h2 => ?_
  simp [madeCells, bcs, Lib.byteCells, Value.cells, Nat.mod_one]
theorem run_made16 (w : World) : Sem.run Try.prog (Instr.makeSlice 24 (.int .i64 16) (.int .i64 16)) w = .ok (.slice (some ⟨w.heap.size, 0, none⟩) 16 16) (w.alloc (.cells #[.int .u8 0, .int .u8 0, .int .u8 0, .int .u8 0, .int .u8 0, .int .u8 0, .int .u8 0, .int .u8 0, .int .u8 0, .int .u8 0, .int .u8 0, .int .u8 0, .int .u8 0, .int .u8 0, .int .u8 0, .int .u8 0] 5)) := by
  obtain ⟨i0, hi, hz0, hz1, hz2⟩ := info_parts info_byte
  have h := run_make (P := Try.prog) w 24 5 i0 (.int .u8 0) Try.underlying24 hi hz0 .i64 .i64 16 16 (by omega) (Int.le_refl _) (by rw [hz2]; omega) (by omega)
  rw [hz1, show (16 : Int).toNat = 16 from rfl, made_zs] at h
  exact h
set_option maxHeartbeats 2000000 in
theorem part (i a b c : Int) (w : World) : Calls Try.prog 18 #[.int .i64 i, .int .u32 a, .int .u32 b, .int .u32 c] w fun e w' => ∃ A k, e = .returned (.agg #[.int .i64 i, .int .i64 16, .bool false, .int .u32 a, .int .u32 b, .int .u32 c, .int .u32 0, .int .u32 0, .int .u32 0, .int .u32 0, .int .u32 0, .int .u32 0, .int .u8 0, .slice A 16 k]) ∧ Bys w.heap.size w' A k mem16 ∧ Below w.heap.size w w' := by
  have hm : Sem.run Try.prog (Instr.makeSlice 24 (.int .i64 16) (.int .i64 16)) (w.alloc (.cells #[.int .i64 0, .int .i64 0, .bool false, .int .u32 0, .int .u32 0, .int .u32 0, .int .u32 0, .int .u32 0, .int .u32 0, .int .u32 0, .int .u32 0, .int .u32 0, .int .u8 0, .slice none 0 0] 26)) = .ok (.slice (some ⟨w.heap.size + 1, 0, none⟩) 16 16) ((w.alloc (.cells #[.int .i64 0, .int .i64 0, .bool false, .int .u32 0, .int .u32 0, .int .u32 0, .int .u32 0, .int .u32 0, .int .u32 0, .int .u32 0, .int .u32 0, .int .u32 0, .int .u8 0, .slice none 0 0] 26)).alloc (.cells #[.int .u8 0, .int .u8 0, .int .u8 0, .int .u8 0, .int .u8 0, .int .u8 0, .int .u8 0, .int .u8 0, .int .u8 0, .int .u8 0, .int .u8 0, .int .u8 0, .int .u8 0, .int .u8 0, .int .u8 0, .int .u8 0] 5)) := by have h := run_made16 (w.alloc (.cells #[.int .i64 0, .int .i64 0, .bool false, .int .u32 0, .int .u32 0, .int .u32 0, .int .u32 0, .int .u32 0, .int .u32 0, .int .u32 0, .int .u32 0, .int .u32 0, .int .u8 0, .slice none 0 0] 26)); simpa using h
  go_enter Try.func18, Try.ntmps18
  go_wp2_with fail
  have e1 := ext1 w (.cells #[.int .i64 i, .int .i64 16, .bool false, .int .u32 a, .int .u32 b, .int .u32 c, .int .u32 0, .int .u32 0, .int .u32 0, .int .u32 0, .int .u32 0, .int .u32 0, .int .u8 0, .slice (some ⟨w.heap.size + 1, 0, none⟩) 16 16] 26)
  have e2 := ext1 (w.alloc (.cells #[.int .i64 i, .int .i64 16, .bool false, .int .u32 a, .int .u32 b, .int .u32 c, .int .u32 0, .int .u32 0, .int .u32 0, .int .u32 0, .int .u32 0, .int .u32 0, .int .u8 0, .slice (some ⟨w.heap.size + 1, 0, none⟩) 16 16] 26)) (.cells #[.int .u8 7, .int .u8 8, .int .u8 0, .int .u8 0, .int .u8 0, .int .u8 0, .int .u8 0, .int .u8 0, .int .u8 0, .int .u8 0, .int .u8 0, .int .u8 0, .int .u8 0, .int .u8 0, .int .u8 0, .int .u8 0] 5)
  have e3 := ext1 ((w.alloc (.cells #[.int .i64 i, .int .i64 16, .bool false, .int .u32 a, .int .u32 b, .int .u32 c, .int .u32 0, .int .u32 0, .int .u32 0, .int .u32 0, .int .u32 0, .int .u32 0, .int .u8 0, .slice (some ⟨w.heap.size + 1, 0, none⟩) 16 16] 26)).alloc (.cells #[.int .u8 7, .int .u8 8, .int .u8 0, .int .u8 0, .int .u8 0, .int .u8 0, .int .u8 0, .int .u8 0, .int .u8 0, .int .u8 0, .int .u8 0, .int .u8 0, .int .u8 0, .int .u8 0, .int .u8 0, .int .u8 0] 5)) (.cells #[.int .i64 i, .int .i64 16, .bool false, .int .u32 a, .int .u32 b, .int .u32 c, .int .u32 0, .int .u32 0, .int .u32 0, .int .u32 0, .int .u32 0, .int .u32 0, .int .u8 0, .slice (some ⟨w.heap.size + 1, 0, none⟩) 16 16] 26)
  have g1 := blk_alloc (blk_alloc (blk_new w #[.int .i64 i, .int .i64 16, .bool false, .int .u32 a, .int .u32 b, .int .u32 c, .int .u32 0, .int .u32 0, .int .u32 0, .int .u32 0, .int .u32 0, .int .u32 0, .int .u8 0, .slice (some ⟨w.heap.size + 1, 0, none⟩) 16 16] 26) (.cells #[.int .u8 7, .int .u8 8, .int .u8 0, .int .u8 0, .int .u8 0, .int .u8 0, .int .u8 0, .int .u8 0, .int .u8 0, .int .u8 0, .int .u8 0, .int .u8 0, .int .u8 0, .int .u8 0, .int .u8 0, .int .u8 0] 5)) (.cells #[.int .i64 i, .int .i64 16, .bool false, .int .u32 a, .int .u32 b, .int .u32 c, .int .u32 0, .int .u32 0, .int .u32 0, .int .u32 0, .int .u32 0, .int .u32 0, .int .u8 0, .slice (some ⟨w.heap.size + 1, 0, none⟩) 16 16] 26)
  have g2 := blk_alloc (blk_new2 w (.cells #[.int .i64 i, .int .i64 16, .bool false, .int .u32 a, .int .u32 b, .int .u32 c, .int .u32 0, .int .u32 0, .int .u32 0, .int .u32 0, .int .u32 0, .int .u32 0, .int .u8 0, .slice (some ⟨w.heap.size + 1, 0, none⟩) 16 16] 26) #[.int .u8 7, .int .u8 8, .int .u8 0, .int .u8 0, .int .u8 0, .int .u8 0, .int .u8 0, .int .u8 0, .int .u8 0, .int .u8 0, .int .u8 0, .int .u8 0, .int .u8 0, .int .u8 0, .int .u8 0, .int .u8 0] 5) (.cells #[.int .i64 i, .int .i64 16, .bool false, .int .u32 a, .int .u32 b, .int .u32 c, .int .u32 0, .int .u32 0, .int .u32 0, .int .u32 0, .int .u32 0, .int .u32 0, .int .u8 0, .slice (some ⟨w.heap.size + 1, 0, none⟩) 16 16] 26)
  refine ret_row rfl w.heap.size 26 _ _ rfl g1 Try.underlying26 rfl info_pt rfl ?_
  refine ⟨_, _, rfl, ⟨Nat.le_refl _, (fun h => by cases h), .inr ⟨w.heap.size + 1, 0, _, rfl, Nat.le_succ _, blk_lt g2, g2, fun j u hj => ?_⟩⟩, e1.trans ((e2.trans (e3.mono e2.size)).mono e1.size)⟩
  rw [Nat.zero_add]
  have hl := (List.getElem?_eq_some_iff.1 hj).1
  rw [bcs_length] at hl
  rw [← hj]
  have hl2 : j < 16 := hl
  match j, hl2 with
  | 0, _ => rfl
  | 1, _ => rfl
  | 2, _ => rfl
  | 3, _ => rfl
  | 4, _ => rfl
  | 5, _ => rfl
  | 6, _ => rfl
  | 7, _ => rfl
  | 8, _ => rfl
  | 9, _ => rfl
  | 10, _ => rfl
  | 11, _ => rfl
  | 12, _ => rfl
  | 13, _ => rfl
  | 14, _ => rfl
  | 15, _ => rfl
end Go.Proofs.Ythkkmnckidfmkaa.hy
namespace Go.Proofs.Ythkkmnckidfmkaa.hy
open Go Go.ChangeShapes Go.WideShapes Go.ChangeAt Go.RowKit Go.Proofs.Ythkkmnckidfmkaa.rows
theorem sz_alloc (w : World) (o : Obj) : (w.alloc o).heap.size = w.heap.size + 1 := by simp
theorem sz_drew (w : World) : w.drew.heap.size = w.heap.size := rfl
/-- All blocks but two are as they were. -/
def Same2 (a b : Nat) (w w' : World) : Prop := w.heap.size ≤ w'.heap.size ∧ ∀ g, g < w.heap.size → g ≠ a → g ≠ b → w'.heap[g]? = w.heap[g]?
theorem Same2.refl (a b : Nat) (w : World) : Same2 a b w w := ⟨Nat.le_refl _, fun _ _ _ _ => rfl⟩
theorem Same2.alloc {a b : Nat} {w w' : World} (h : Same2 a b w w') (o : Obj) : Same2 a b w (w'.alloc o) := ⟨Nat.le_trans h.1 (by simp), fun g hg h1 h2 => (Below.heap_alloc w' o g (Nat.lt_of_lt_of_le hg h.1)).trans (h.2 g hg h1 h2)⟩
theorem Same2.drew {a b : Nat} {w w' : World} (h : Same2 a b w w') : Same2 a b w w'.drew := h
theorem Same2.setA {a b : Nat} {w w' : World} (h : Same2 a b w w') (k : Nat) (u : Value) : Same2 a b w (w'.setCell ⟨a, k, none⟩ u) := ⟨by simpa using h.1, fun g hg h1 h2 => (Below.heap_setCell w' ⟨a, k, none⟩ u g h1).trans (h.2 g hg h1 h2)⟩
theorem Same2.setB {a b : Nat} {w w' : World} (h : Same2 a b w w') (k : Nat) (u : Value) : Same2 a b w (w'.setCell ⟨b, k, none⟩ u) := ⟨by simpa using h.1, fun g hg h1 h2 => (Below.heap_setCell w' ⟨b, k, none⟩ u g h2).trans (h.2 g hg h1 h2)⟩
/-- Neither of the two is a row of that type. -/
def NoRow (T : TypeId) (a : Nat) (w : World) : Prop := ∀ cs, w.heap[a]? ≠ some (.cells cs T (0, 0))
theorem NoRow.new {T : TypeId} {w : World} {a : Nat} (h : w.heap.size ≤ a) : NoRow T a w := fun cs e => by
  have := (Array.getElem?_eq_some_iff.1 e).1; omega
theorem NoRow.of {T U : TypeId} {w : World} {a : Nat} {cs : Array Value} (h : w.heap[a]? = some (.cells cs U (0, 0))) (hne : T ≠ U) : NoRow T a w := fun cs e => by
  rw [h] at e; injection e with e; injection e with _ e2; exact hne e2.symm
theorem RowIn.same2 {T : TypeId} {lo a b : Nat} {w w' : World} {A : Option Addr} {xs : List Value} (h : RowIn T lo w.heap.size w A xs) (hs : Same2 a b w w') (h1 : NoRow T a w) (h2 : NoRow T b w) : RowIn T lo w'.heap.size w' A xs := by
  rcases h with h | ⟨g, off, cs, rfl, k1, k2, hg, hc⟩
  · exact .inl h
  · exact .inr ⟨g, off, cs, rfl, k1, Nat.lt_of_lt_of_le k2 hs.1, (hs.2 g k2 (fun e => h1 cs (e ▸ hg)) (fun e => h2 cs (e ▸ hg))).trans hg, hc⟩
def Free (a : Nat) (w : World) : Prop := NoRow 5 a w ∧ NoRow 24 a w ∧ NoRow 36 a w
theorem Free.new {w : World} {a : Nat} (h : w.heap.size ≤ a) : Free a w := ⟨.new h, .new h, .new h⟩
theorem Free.part {w : World} {a : Nat} {cs : Array Value} (h : w.heap[a]? = some (.cells cs 26 (0, 0))) : Free a w := ⟨.of h (by decide), .of h (by decide), .of h (by decide)⟩
theorem Free.world {w : World} {a : Nat} {cs : Array Value} (h : w.heap[a]? = some (.cells cs 37 (0, 0))) : Free a w := ⟨.of h (by decide), .of h (by decide), .of h (by decide)⟩
theorem Bys.same2 {lo a b : Nat} {w w' : World} {C : Option Addr} {ci : Nat} {l : Msg} (h : Bys lo w C ci l) (hs : Same2 a b w w') (h1 : Free a w) (h2 : Free b w) : Bys lo w' C ci l := ⟨h.1, h.2.1, RowIn.same2 h.2.2 hs h1.1 h2.1⟩
theorem ownM.same2 {lo a b : Nat} {w w' : World} {A : Option Addr} {c : Nat} {x : Qu} (h : ownM lo w A c x) (hs : Same2 a b w w') (h1 : Free a w) (h2 : Free b w) : ownM lo w' A c x := by
  obtain ⟨g1, g2, vs, k1, k2, k3⟩ := h
  refine ⟨g1, g2, vs, k1, RowIn.same2 k2 hs h1.2.1 h2.2.1, fun j l hj => ?_⟩
  obtain ⟨A', c, e1, e2, e3, e5, e4⟩ := k3 j l hj
  exact ⟨A', c, e1, e2, e3, e5, RowIn.same2 e4 hs h1.1 h2.1⟩
theorem QRow.same2 {lo a b : Nat} {w w' : World} {B : Option Addr} {d : Nat} {qs : List Qu} (h : QRow lo w B d qs) (hs : Same2 a b w w') (h1 : Free a w) (h2 : Free b w) : QRow lo w' B d qs := by
  obtain ⟨k1, k2, k3, us, e1, e2, e3⟩ := h
  exact ⟨k1, k2, k3, us, e1, RowIn.same2 e2 hs h1.2.2 h2.2.2, fun u hu => (e3 u hu).same2 hs h1 h2⟩
/-- The two variables, and the memory that they hold. -/
def Two (L : Nat) (wq : World) (XV YV : Array Value) (a b : Nat) (W : World) : Prop := L ≤ a ∧ L ≤ b ∧ W.heap[a]? = some (.cells XV 26 (0, 0)) ∧ W.heap[b]? = some (.cells YV 37 (0, 0)) ∧ Below L wq W
variable {L : Nat} {wq u2 : World} {v0 v1 v2 v3 v4 v5 v6 v7 v8 v9 v10 v11 v12 v13 p0 p1 p2 p3 p4 z0 z1 z2 z3 z4 z5 z6 z7 z8 z9 z10 z11 z12 z13 y0 y1 y2 y3 y4 : Value} {a b : Nat}
theorem two1 (hb : Below L wq u2) (hL : L ≤ wq.heap.size) : Two L wq #[v0, v1, v2, v3, v4, v5, v6, v7, v8, v9, v10, v11, v12, v13] #[p0, p1, p2, p3, p4] (u2.heap.size) (u2.heap.size + 1) ((u2.alloc (.cells #[v0, v1, v2, v3, v4, v5, v6, v7, v8, v9, v10, v11, v12, v13] 26)).alloc (.cells #[p0, p1, p2, p3, p4] 37)) ∧ Same2 (u2.heap.size) (u2.heap.size + 1) u2 ((u2.alloc (.cells #[v0, v1, v2, v3, v4, v5, v6, v7, v8, v9, v10, v11, v12, v13] 26)).alloc (.cells #[p0, p1, p2, p3, p4] 37)) ∧ Free (u2.heap.size) u2 ∧ Free (u2.heap.size + 1) u2 := by
  have hz := Nat.le_trans hL hb.size
  exact ⟨⟨hz, Nat.le_succ_of_le hz, blk_alloc (blk_new _ _ _) _, blk_new2 _ _ _ _, belowA (belowA hb hL _) hL _⟩, ((Same2.refl _ _ u2).alloc _).alloc _, .new (Nat.le_refl _), .new (Nat.le_succ _)⟩
theorem two2 (hb : Below L wq u2) (hL : L ≤ wq.heap.size) : Two L wq #[v0, v1, v2, v3, v4, v5, v6, v7, v8, v9, v10, v11, v12, v13] #[p0, p1, p2, p3, p4] (u2.heap.size + 1) (u2.heap.size) ((u2.alloc (.cells #[p0, p1, p2, p3, p4] 37)).alloc (.cells #[v0, v1, v2, v3, v4, v5, v6, v7, v8, v9, v10, v11, v12, v13] 26)) ∧ Same2 (u2.heap.size + 1) (u2.heap.size) u2 ((u2.alloc (.cells #[p0, p1, p2, p3, p4] 37)).alloc (.cells #[v0, v1, v2, v3, v4, v5, v6, v7, v8, v9, v10, v11, v12, v13] 26)) ∧ Free (u2.heap.size + 1) u2 ∧ Free (u2.heap.size) u2 := by
  have hz := Nat.le_trans hL hb.size
  exact ⟨⟨Nat.le_succ_of_le hz, hz, blk_new2 _ _ _ _, blk_alloc (blk_new _ _ _) _, belowA (belowA hb hL _) hL _⟩, ((Same2.refl _ _ u2).alloc _).alloc _, .new (Nat.le_succ _), .new (Nat.le_refl _)⟩
theorem two3 (hb : Below L wq u2) (hL : L ≤ wq.heap.size) (hX : u2.heap[a]? = some (.cells #[z0, z1, z2, z3, z4, z5, z6, z7, z8, z9, z10, z11, z12, z13] 26 (0, 0))) (ha : L ≤ a) : Two L wq #[v0, v1, v2, v3, v4, v5, v6, v7, v8, v9, v10, v11, v12, v13] #[p0, p1, p2, p3, p4] (a) (u2.heap.size) (set14w (u2.alloc (.cells #[p0, p1, p2, p3, p4] 37)) a v0 v1 v2 v3 v4 v5 v6 v7 v8 v9 v10 v11 v12 v13) ∧ Same2 (a) (u2.heap.size) u2 (set14w (u2.alloc (.cells #[p0, p1, p2, p3, p4] 37)) a v0 v1 v2 v3 v4 v5 v6 v7 v8 v9 v10 v11 v12 v13) ∧ Free (a) u2 ∧ Free (u2.heap.size) u2 := by
  have hz := Nat.le_trans hL hb.size
  have hlt := blk_lt hX
  obtain ⟨s1, s2, s3⟩ := set14 (v0 := v0) (v1 := v1) (v2 := v2) (v3 := v3) (v4 := v4) (v5 := v5) (v6 := v6) (v7 := v7) (v8 := v8) (v9 := v9) (v10 := v10) (v11 := v11) (v12 := v12) (v13 := v13) (blk_alloc hX (.cells #[p0, p1, p2, p3, p4] 37))
  exact ⟨⟨ha, hz, s1, s2.2 _ _ _ (by decide) (blk_new _ _ _), s3 _ _ (belowA hb hL _) ha⟩, (Same2.setA (Same2.setA (Same2.setA (Same2.setA (Same2.setA (Same2.setA (Same2.setA (Same2.setA (Same2.setA (Same2.setA (Same2.setA (Same2.setA (Same2.setA (Same2.setA ((Same2.refl a u2.heap.size u2).alloc (.cells #[p0, p1, p2, p3, p4] 37)) 0 v0) 1 v1) 2 v2) 3 v3) 4 v4) 5 v5) 6 v6) 7 v7) 8 v8) 9 v9) 10 v10) 11 v11) 12 v12) 13 v13), .part hX, .new (Nat.le_refl _)⟩
theorem two3b (hb : Below L wq u2) (hL : L ≤ wq.heap.size) (hX : u2.heap[a]? = some (.cells #[z0, z1, z2, z3, z4, z5, z6, z7, z8, z9, z10, z11, z12, z13] 26 (0, 0))) (ha : L ≤ a) : Two L wq #[v0, v1, v2, v3, v4, v5, v6, v7, v8, v9, v10, v11, v12, v13] #[p0, p1, p2, p3, p4] (a) (u2.heap.size) ((set14w u2 a v0 v1 v2 v3 v4 v5 v6 v7 v8 v9 v10 v11 v12 v13).alloc (.cells #[p0, p1, p2, p3, p4] 37)) ∧ Same2 (a) (u2.heap.size) u2 ((set14w u2 a v0 v1 v2 v3 v4 v5 v6 v7 v8 v9 v10 v11 v12 v13).alloc (.cells #[p0, p1, p2, p3, p4] 37)) ∧ Free (a) u2 ∧ Free (u2.heap.size) u2 := by
  have hz := Nat.le_trans hL hb.size
  have hlt := blk_lt hX
  obtain ⟨s1, s2, s3⟩ := set14 (v0 := v0) (v1 := v1) (v2 := v2) (v3 := v3) (v4 := v4) (v5 := v5) (v6 := v6) (v7 := v7) (v8 := v8) (v9 := v9) (v10 := v10) (v11 := v11) (v12 := v12) (v13 := v13) hX
  have e : (set14w u2 a v0 v1 v2 v3 v4 v5 v6 v7 v8 v9 v10 v11 v12 v13).heap.size = u2.heap.size := by simp
  have hn := blk_new (set14w u2 a v0 v1 v2 v3 v4 v5 v6 v7 v8 v9 v10 v11 v12 v13) #[p0, p1, p2, p3, p4] 37
  rw [e] at hn
  exact ⟨⟨ha, hz, blk_alloc s1 _, hn, belowA (s3 _ _ hb ha) hL _⟩, Same2.alloc (Same2.setA (Same2.setA (Same2.setA (Same2.setA (Same2.setA (Same2.setA (Same2.setA (Same2.setA (Same2.setA (Same2.setA (Same2.setA (Same2.setA (Same2.setA (Same2.setA (Same2.refl a u2.heap.size u2) 0 v0) 1 v1) 2 v2) 3 v3) 4 v4) 5 v5) 6 v6) 7 v7) 8 v8) 9 v9) 10 v10) 11 v11) 12 v12) 13 v13) _, .part hX, .new (Nat.le_refl _)⟩
theorem two4 (hb : Below L wq u2) (hL : L ≤ wq.heap.size) (hY : u2.heap[b]? = some (.cells #[y0, y1, y2, y3, y4] 37 (0, 0))) (hbL : L ≤ b) : Two L wq #[v0, v1, v2, v3, v4, v5, v6, v7, v8, v9, v10, v11, v12, v13] #[p0, p1, p2, p3, p4] (u2.heap.size) (b) (set5 (u2.alloc (.cells #[v0, v1, v2, v3, v4, v5, v6, v7, v8, v9, v10, v11, v12, v13] 26)) b p0 p1 p2 p3 p4) ∧ Same2 (u2.heap.size) (b) u2 (set5 (u2.alloc (.cells #[v0, v1, v2, v3, v4, v5, v6, v7, v8, v9, v10, v11, v12, v13] 26)) b p0 p1 p2 p3 p4) ∧ Free (u2.heap.size) u2 ∧ Free (b) u2 := by
  have hz := Nat.le_trans hL hb.size
  have h1 := blk_alloc hY (.cells #[v0, v1, v2, v3, v4, v5, v6, v7, v8, v9, v10, v11, v12, v13] 26)
  have kx := set5_kept h1 p0 p1 p2 p3 p4
  exact ⟨⟨hz, hbL, kx.2 _ _ _ (by decide) (blk_new _ _ _), set5_here h1 p0 p1 p2 p3 p4, set5_below (belowA hb hL _) hbL p0 p1 p2 p3 p4⟩, (Same2.setB (Same2.setB (Same2.setB (Same2.setB (Same2.setB ((Same2.refl u2.heap.size b u2).alloc (.cells #[v0, v1, v2, v3, v4, v5, v6, v7, v8, v9, v10, v11, v12, v13] 26)) 0 p0) 1 p1) 2 p2) 3 p3) 4 p4), .new (Nat.le_refl _), .world hY⟩
theorem two4b (hb : Below L wq u2) (hL : L ≤ wq.heap.size) (hY : u2.heap[b]? = some (.cells #[y0, y1, y2, y3, y4] 37 (0, 0))) (hbL : L ≤ b) : Two L wq #[v0, v1, v2, v3, v4, v5, v6, v7, v8, v9, v10, v11, v12, v13] #[p0, p1, p2, p3, p4] (u2.heap.size) (b) ((set5 u2 b p0 p1 p2 p3 p4).alloc (.cells #[v0, v1, v2, v3, v4, v5, v6, v7, v8, v9, v10, v11, v12, v13] 26)) ∧ Same2 (u2.heap.size) (b) u2 ((set5 u2 b p0 p1 p2 p3 p4).alloc (.cells #[v0, v1, v2, v3, v4, v5, v6, v7, v8, v9, v10, v11, v12, v13] 26)) ∧ Free (u2.heap.size) u2 ∧ Free (b) u2 := by
  have hz := Nat.le_trans hL hb.size
  have kx := set5_kept hY p0 p1 p2 p3 p4
  have e : (set5 u2 b p0 p1 p2 p3 p4).heap.size = u2.heap.size := by simp
  have hn := blk_new (set5 u2 b p0 p1 p2 p3 p4) #[v0, v1, v2, v3, v4, v5, v6, v7, v8, v9, v10, v11, v12, v13] 26
  rw [e] at hn
  exact ⟨⟨hz, hbL, hn, blk_alloc (set5_here hY p0 p1 p2 p3 p4) _, belowA (set5_below hb hbL p0 p1 p2 p3 p4) hL _⟩, Same2.alloc (Same2.setB (Same2.setB (Same2.setB (Same2.setB (Same2.setB (Same2.refl u2.heap.size b u2) 0 p0) 1 p1) 2 p2) 3 p3) 4 p4) _, .new (Nat.le_refl _), .world hY⟩
theorem two5 (hb : Below L wq u2) (hL : L ≤ wq.heap.size) (hX : u2.heap[a]? = some (.cells #[z0, z1, z2, z3, z4, z5, z6, z7, z8, z9, z10, z11, z12, z13] 26 (0, 0))) (ha : L ≤ a) (hY : u2.heap[b]? = some (.cells #[y0, y1, y2, y3, y4] 37 (0, 0))) (hbL : L ≤ b) : Two L wq #[v0, v1, v2, v3, v4, v5, v6, v7, v8, v9, v10, v11, v12, v13] #[p0, p1, p2, p3, p4] (a) (b) (set5 (set14w u2 a v0 v1 v2 v3 v4 v5 v6 v7 v8 v9 v10 v11 v12 v13) b p0 p1 p2 p3 p4) ∧ Same2 (a) (b) u2 (set5 (set14w u2 a v0 v1 v2 v3 v4 v5 v6 v7 v8 v9 v10 v11 v12 v13) b p0 p1 p2 p3 p4) ∧ Free (a) u2 ∧ Free (b) u2 := by
  have _ := hL
  obtain ⟨s1, s2, s3⟩ := set14 (v0 := v0) (v1 := v1) (v2 := v2) (v3 := v3) (v4 := v4) (v5 := v5) (v6 := v6) (v7 := v7) (v8 := v8) (v9 := v9) (v10 := v10) (v11 := v11) (v12 := v12) (v13 := v13) hX
  have h1 := s2.2 _ _ _ (by decide) hY
  have kx := set5_kept h1 p0 p1 p2 p3 p4
  exact ⟨⟨ha, hbL, kx.2 _ _ _ (by decide) s1, set5_here h1 p0 p1 p2 p3 p4, set5_below (s3 _ _ hb ha) hbL p0 p1 p2 p3 p4⟩, (Same2.setB (Same2.setB (Same2.setB (Same2.setB (Same2.setB (Same2.setA (Same2.setA (Same2.setA (Same2.setA (Same2.setA (Same2.setA (Same2.setA (Same2.setA (Same2.setA (Same2.setA (Same2.setA (Same2.setA (Same2.setA (Same2.setA (Same2.refl a b u2) 0 v0) 1 v1) 2 v2) 3 v3) 4 v4) 5 v5) 6 v6) 7 v7) 8 v8) 9 v9) 10 v10) 11 v11) 12 v12) 13 v13) 0 p0) 1 p1) 2 p2) 3 p3) 4 p4), .part hX, .world hY⟩
theorem two6 (hb : Below L wq u2) (hL : L ≤ wq.heap.size) (hX : u2.heap[a]? = some (.cells #[z0, z1, z2, z3, z4, z5, z6, z7, z8, z9, z10, z11, z12, z13] 26 (0, 0))) (ha : L ≤ a) (hY : u2.heap[b]? = some (.cells #[y0, y1, y2, y3, y4] 37 (0, 0))) (hbL : L ≤ b) : Two L wq #[v0, v1, v2, v3, v4, v5, v6, v7, v8, v9, v10, v11, v12, v13] #[p0, p1, p2, p3, p4] (a) (b) (set14w (set5 u2 b p0 p1 p2 p3 p4) a v0 v1 v2 v3 v4 v5 v6 v7 v8 v9 v10 v11 v12 v13) ∧ Same2 (a) (b) u2 (set14w (set5 u2 b p0 p1 p2 p3 p4) a v0 v1 v2 v3 v4 v5 v6 v7 v8 v9 v10 v11 v12 v13) ∧ Free (a) u2 ∧ Free (b) u2 := by
  have _ := hL
  have kx := set5_kept hY p0 p1 p2 p3 p4
  have h1 := kx.2 _ _ _ (by decide) hX
  obtain ⟨s1, s2, s3⟩ := set14 (v0 := v0) (v1 := v1) (v2 := v2) (v3 := v3) (v4 := v4) (v5 := v5) (v6 := v6) (v7 := v7) (v8 := v8) (v9 := v9) (v10 := v10) (v11 := v11) (v12 := v12) (v13 := v13) h1
  exact ⟨⟨ha, hbL, s1, s2.2 _ _ _ (by decide) (set5_here hY p0 p1 p2 p3 p4), s3 _ _ (set5_below hb hbL p0 p1 p2 p3 p4) ha⟩, (Same2.setA (Same2.setA (Same2.setA (Same2.setA (Same2.setA (Same2.setA (Same2.setA (Same2.setA (Same2.setA (Same2.setA (Same2.setA (Same2.setA (Same2.setA (Same2.setA (Same2.setB (Same2.setB (Same2.setB (Same2.setB (Same2.setB (Same2.refl a b u2) 0 p0) 1 p1) 2 p2) 3 p3) 4 p4) 0 v0) 1 v1) 2 v2) 3 v3) 4 v4) 5 v5) 6 v6) 7 v7) 8 v8) 9 v9) 10 v10) 11 v11) 12 v12) 13 v13), .part hX, .world hY⟩
end Go.Proofs.Ythkkmnckidfmkaa.hy
namespace Go.Proofs.Ythkkmnckidfmkaa.hy
open Go Go.ChangeShapes Go.WideShapes Go.ChangeAt Go.RowKit Go.Proofs.Ythkkmnckidfmkaa.rows
/-- The code behind the first statements. -/
def rest : Nat → Code → Code
  | 0, c => c
  | n + 1, .seq _ b => rest n b
  | _, c => c
/-- The first statement of a sequence. -/
def head : Code → Code
  | .seq a _ => a
  | c => c
/-- What lies in the variables behind a Do. -/
def Res (L : Nat) (wq : World) (XV : Option Addr → Nat → Array Value) (YV : Option Addr → Nat → Option Addr → Nat → Array Value) (m : Msg) (qs : List Qu) (inp : Msg) (y : Bool) (tX tY tz tf : Value) (wc : World) : Prop :=
  ∃ a b A c B d C e, tX = .pointer (some ⟨a, 0, none⟩) ∧ tY = .pointer (some ⟨b, 0, none⟩) ∧ tz = .bool y ∧ tf = .int .i64 0 ∧ Two L wq (XV A c) (YV B d C e) a b wc ∧ Bys L wc A c m ∧ WOut L wc B d qs C e inp
theorem Res.mk {L : Nat} {wq u2 W : World} {XV : Option Addr → Nat → Array Value} {YV : Option Addr → Nat → Option Addr → Nat → Array Value} {m : Msg} {qs : List Qu} {inp : Msg} {y : Bool} {a b c d e : Nat} {A B C : Option Addr} (h : Two L wq (XV A c) (YV B d C e) a b W ∧ Same2 a b u2 W ∧ Free a u2 ∧ Free b u2) (hm : Bys L u2 A c m) (ho : WOut L u2 B d qs C e inp) :
    Res L wq XV YV m qs inp y (.pointer (some ⟨a, 0, none⟩)) (.pointer (some ⟨b, 0, none⟩)) (.bool y) (.int .i64 0) W :=
  ⟨a, b, A, c, B, d, C, e, rfl, rfl, rfl, rfl, h.1, hm.same2 h.2.1 h.2.2.1 h.2.2.2, ho.1.same2 h.2.1 h.2.2.1 h.2.2.2, ho.2.same2 h.2.1 h.2.2.1 h.2.2.2⟩
theorem Res.drew {L : Nat} {wq W : World} {XV : Option Addr → Nat → Array Value} {YV : Option Addr → Nat → Option Addr → Nat → Array Value} {m : Msg} {qs : List Qu} {inp : Msg} {y : Bool} {tX tY tz tf : Value} (h : Res L wq XV YV m qs inp y tX tY tz tf W) : Res L wq XV YV m qs inp y tX tY tz tf W.drew := by
  obtain ⟨a, b, A, c, B, d, C, e, h1, h2, h3, h4, ⟨t1, t2, t3, t4, t5⟩, h6, h7⟩ := h
  exact ⟨a, b, A, c, B, d, C, e, h1, h2, h3, h4, ⟨t1, t2, t3, t4, t5.drew⟩, h6, h7⟩
theorem blk_ty_ne {w : World} {a b : Nat} {cs ds : Array Value} {T U : TypeId} (h : w.heap[a]? = some (.cells cs T (0, 0))) (k : w.heap[b]? = some (.cells ds U (0, 0))) (hne : T ≠ U) : a ≠ b := fun e => by
  rw [e, k] at h; injection h with h; injection h with _ h2; exact hne h2.symm
def DoC (L : Nat) (XV : Option Addr → Nat → Array Value) (YV : Option Addr → Nat → Option Addr → Nat → Array Value) (m : Msg) (qs : List Qu) (inp : Msg) (y : Bool) (w : World) (e : Ending) (w' : World) : Prop :=
  Below w.heap.size w w' ∧ ∃ A c B d C e3, e = .returned (.tuple #[.agg (XV A c), .agg (YV B d C e3), .bool y, .int .i64 0]) ∧ Bys L w' A c m ∧ WOut L w' B d qs C e3 inp
theorem do_to {n : Int} {x p : Pt} {fr tk ver : Int} {qs qs' : List Qu} {inp inp' : Msg} {y : Bool} (hV : doV n x fr tk ver qs inp = (p, qs', inp', y)) {Am : Option Addr} {cm : Nat} {B : Option Addr} {d : Nat} {Ci : Option Addr} {ci : Nat} (hs : Small qs inp) (hok : okD x qs = true) (hr : (0 ≤ x.r0 ∧ x.r0 < 4294967296) ∧ (0 ≤ x.r1 ∧ x.r1 < 4294967296) ∧ 0 ≤ x.r2 ∧ x.r2 < 4294967296) (L : Nat) (w : World) (hL : L ≤ w.heap.size) (hm : Bys L w Am cm x.mem) (hw : WIn w B d qs Ci ci inp) :
    Calls Try.prog 9 #[.int .i64 n, .agg #[.int .i64 x.id, .int .i64 x.size, .bool x.keep, .int .u32 x.r0, .int .u32 x.r1, .int .u32 x.r2, .int .u32 x.r3, .int .u32 x.r4, .int .u32 x.r5, .int .u32 x.r6, .int .u32 x.r7, .int .u32 x.pc, .int .u8 x.st, .slice Am x.mem.length cm], .agg #[.int .i64 fr, .int .i64 tk, .int .i64 ver, .slice B qs.length d, .slice Ci inp.length ci]] w
      (DoC L (fun A c => #[.int .i64 p.id, .int .i64 p.size, .bool p.keep, .int .u32 p.r0, .int .u32 p.r1, .int .u32 p.r2, .int .u32 p.r3, .int .u32 p.r4, .int .u32 p.r5, .int .u32 p.r6, .int .u32 p.r7, .int .u32 p.pc, .int .u8 p.st, .slice A p.mem.length c]) (fun B d C e => #[.int .i64 fr, .int .i64 tk, .int .i64 ver, .slice B qs'.length d, .slice C inp'.length e]) p.mem qs' inp' y w) := by
  refine (do_ok n x Am cm fr tk ver qs inp B d Ci ci hs hok hr.1.1 hr.1.2 hr.2.1.1 hr.2.1.2 hr.2.2.1 hr.2.2.2 hm.1 hm.2.1 w hm.2.2.rd hw).mono ?_
  rintro e w' ⟨hb, A2, c2, B2, d2, C2, c3, rfl, h1, h2⟩
  rw [hV] at h1 h2 ⊢
  exact ⟨hb, A2, c2, B2, d2, C2, c3, rfl, h1.lo hL, h2.lo hL⟩
end Go.Proofs.Ythkkmnckidfmkaa.hy
namespace Go.Proofs.Ythkkmnckidfmkaa.hy
open Go Go.ChangeShapes Go.WideShapes Go.ChangeAt Go.RowKit Go.Proofs.Ythkkmnckidfmkaa.rows
/-- The one queue with its one message, opened. -/
theorem q1_open {L : Nat} {w : World} {B : Option Addr} {d : Nat} (h : QRow L w B d [⟨⟨1, 1, 2, 1, 4⟩, [[7, 8]]⟩]) :
    ∃ g g2 o2 c M cm, B = some ⟨g, 0, none⟩ ∧ w.cell? ⟨g, 5, none⟩ = some (.slice (some ⟨g2, o2, none⟩) 1 c) ∧ w.cell? ⟨g2, o2, none⟩ = some (.slice M 2 cm) ∧ Rd w M (bcs [7, 8]) := by
  obtain ⟨_, _, hB, us, e1, e2, e3⟩ := h
  rcases us with _ | ⟨⟨q, A, c⟩, _ | ⟨u2, us⟩⟩
  · simp at e1
  · simp only [List.map_cons, List.map_nil, List.cons.injEq, and_true] at e1
    subst e1
    obtain ⟨g, rfl⟩ := hB.resolve_right (by simp)
    obtain ⟨_, _, vs, hl, hr, hk⟩ := e3 _ (List.mem_singleton.2 rfl)
    obtain ⟨M, cm, hv, _, _, _, hM⟩ := hk 0 [7, 8] rfl
    rcases e2 with e2 | ⟨g', off, cs, e, _, _, hg, hc⟩
    · simp [flat, Qu.cells] at e2
    · injection e with e; injection e with e4 e5; subst e4; subst e5
      rcases hr with hr | ⟨g2, o2, cs2, rfl, _, _, hg2, hc2⟩
      · rw [hr] at hv; simp at hv
      · refine ⟨g, g2, o2, c, M, cm, rfl, ?_, ?_, hM.rd⟩
        · rw [blk_cell hg]; exact hc 5 _ rfl
        · rw [blk_cell hg2]; exact hc2 0 _ hv
  · simp at e1
/-- The one queue with no message. -/
theorem q0_open {L : Nat} {w : World} {B : Option Addr} {d : Nat} (h : QRow L w B d [⟨⟨1, 1, 2, 1, 4⟩, []⟩]) :
    ∃ g A c, B = some ⟨g, 0, none⟩ ∧ w.cell? ⟨g, 5, none⟩ = some (.slice A 0 c) := by
  obtain ⟨_, _, hB, us, e1, e2, e3⟩ := h
  rcases us with _ | ⟨⟨q, A, c⟩, _ | ⟨u2, us⟩⟩
  · simp at e1
  · simp only [List.map_cons, List.map_nil, List.cons.injEq, and_true] at e1
    subst e1
    obtain ⟨g, rfl⟩ := hB.resolve_right (by simp)
    rcases e2 with e2 | ⟨g', off, cs, e, _, _, hg, hc⟩
    · simp [flat, Qu.cells] at e2
    · injection e with e; injection e with e4 e5; subst e4; subst e5
      exact ⟨g, A, c, rfl, by rw [blk_cell hg]; exact hc 5 _ rfl⟩
  · simp at e1
/-- The memory behind the receive. -/
theorem m1_open {L : Nat} {w : World} {A : Option Addr} {c : Nat} (h : Bys L w A c [7, 8, 0, 0, 7, 8, 0, 0, 0, 0, 0, 0, 0, 0, 0, 0]) :
    ∃ g o, A = some ⟨g, o, none⟩ ∧ w.cell? ⟨g, o + 4, none⟩ = some (.int .u8 7) ∧ w.cell? ⟨g, o + 5, none⟩ = some (.int .u8 8) := by
  rcases h.2.2 with h | ⟨g, o, cs, rfl, _, _, hg, hc⟩
  · simp [bcs, Lib.byteCells] at h
  · exact ⟨g, o, rfl, by rw [blk_cell hg]; exact hc 4 _ rfl, by rw [blk_cell hg]; exact hc 5 _ rfl⟩
end Go.Proofs.Ythkkmnckidfmkaa.hy
