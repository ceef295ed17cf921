/- Channels: some of the chapter's rows; no condition. -/
import Derived.Test.YtlmecndldclnnaaRows
import Derived.Test.YtlmecndldclnnaaChE
import Derived.RegionTactic
import Derived.Deep.RegionHeld3
import Derived.Lib.SmallJoins
namespace Go.Proofs.Ytlmecndldclnnaa.chan
open Go Go.ChangeShapes Go.WideShapes Go.ChangeAt Go.RowKit Go.Proofs.Ytlmecndldclnnaa.rows
theorem put_to {x y : Ch} {ls l2 : List Msg} {m : Msg} {E : Int} (hr : putR x ls m = (y, l2, E)) (A : Option Addr) (c : Nat) (hA : A = none → c = 0) (hc : ls.length ≤ c) (h63 : ls.length ≤ 1000000) (Am : Option Addr) (cm : Nat) (hmA : Am = none → cm = 0) (hmc : m.length ≤ cm) (w : World) (h : Rms w A ls) (hm : Rd w Am (bcs m)) :
    Calls Try.prog 11 #[.agg (qcells x A ls.length c), .slice Am m.length cm] w fun e w' => ∃ A c, e = .returned (.tuple #[.agg (qcells y A l2.length c), .int .i64 E]) ∧ QAt w.heap.size w'.heap.size w' A c l2 ∧ Below w.heap.size w w' := by
  have T := put x A c ls hA hc h63 m Am cm hmA hmc w h hm
  rw [hr] at T; exact T
theorem take_to {x y : Ch} {ls l2 : List Msg} {m : Msg} {E : Int} (hr : takeR x ls = (m, y, l2, E)) (A : Option Addr) (c : Nat) (h63 : ls.length ≤ 1000000) (w : World) (h : Rms w A ls) :
    Calls Try.prog 17 #[.agg (qcells x A ls.length c)] w fun e w' => ∃ u A c, e = .returned (.tuple #[u, .agg (qcells y A l2.length c), .int .i64 E]) ∧ MsgAt w.heap.size w'.heap.size w' u m ∧ QAt w.heap.size w'.heap.size w' A c l2 ∧ Below w.heap.size w w' := by
  have T := take x A c ls h63 w h
  rw [hr] at T; exact T
theorem rd_mark (w : World) (cs : Array Value) (t : TypeId) (fr : Nat × Nat) : Rd (w.alloc (.cells cs t fr)) (some ⟨w.heap.size, 0, none⟩) cs.toList := by
  refine .inr ⟨w.heap.size, 0, rfl, by simp, fun j hj => ?_⟩
  rw [Nat.zero_add, World.cell?_alloc_mark]; simp
theorem rd_bytesRow (w : World) (s : ByteArray) (cap : Nat) (t : TypeId) (fr : Nat × Nat) : Rd (w.alloc (.cells (bytesRow s cap) t fr)) (some ⟨w.heap.size, 0, none⟩) (bcs s.data.toList) := by
  have h := (rd_mark w (bytesRow s cap) t fr).take s.data.size
  have e : (bytesRow s cap).toList.take s.data.size = bcs s.data.toList := by
    unfold bytesRow bcs Lib.byteCells
    simp
  rwa [e] at h
theorem below_heap {B : Nat} {a w w' : World} (h : Below B a w) (e : w'.heap = w.heap ∧ w'.os = w.os ∧ w'.tape = w.tape ∧ w'.output = w.output) : Below B a w' := ⟨e.2.1.trans h.os, e.2.2.1.trans h.tape, e.2.2.2.trans h.output, by rw [e.1]; exact h.size, fun g hg => by rw [e.1]; exact h.block g hg⟩
theorem rd_heap {w w' : World} {A : Option Addr} {xs : List Value} (h : Rd w A xs) (e : w'.heap = w.heap) : Rd w' A xs :=
  h.keep (by rw [e]; exact Nat.le_refl _) fun p _ => by unfold World.cell?; rw [e]
def stepS (k : Nat) : List Msg := match k with | 0 => [] | 1 => [[97]] | 2 => [[97], [98]] | _ => [[98], [99]]
theorem step_at {k : Nat} (h : k < 3) : ∃ s : UInt8, (#[Value.string ⟨#[97]⟩, Value.string ⟨#[98]⟩, Value.string ⟨#[99]⟩] : Array Value)[k]? = some (.string ⟨#[s]⟩) ∧ putR ⟨1, 1, 2, 2, 3⟩ (stepS k) [s] = (⟨1, 1, 2, 2, 3⟩, stepS (k + 1), 0) ∧ (stepS k).length ≤ 2 := by
  match k, h with
  | 0, _ => exact ⟨97, rfl, by decide, by decide⟩
  | 1, _ => exact ⟨98, rfl, by decide, by decide⟩
  | 2, _ => exact ⟨99, rfl, by decide, by decide⟩
/-- What stands between two rounds: the channel's block, the queue's, the strings'. -/
def Inv (p0 p1 p2 : Nat) (w wr : World) (ls : List Msg) : Prop :=
  ∃ A c, wr.heap[p1]? = some (.cells (qcells ⟨1, 1, 2, 2, 3⟩ A ls.length c) 26 (0, 0)) ∧ QAt w.heap.size wr.heap.size wr A c ls ∧ wr.heap[p0]? = some (.cells #[.int .i64 1, .int .i64 1, .int .i64 2, .int .i64 2, .int .i64 3] 23 (0, 0)) ∧
    wr.heap[p2]? = some (.cells #[.string ⟨#[97]⟩, .string ⟨#[98]⟩, .string ⟨#[99]⟩] 9 (0, 0)) ∧ Below w.heap.size w wr
theorem far6 {w : World} {g p : Nat} {o : Obj} (h : w.heap[p]? = some o) (hne : p ≠ g) (u0 u1 u2 u3 u4 u5 : Value) :
    ((((((w.setCell ⟨g, 0, none⟩ u0).setCell ⟨g, 1, none⟩ u1).setCell ⟨g, 2, none⟩ u2).setCell ⟨g, 3, none⟩ u3).setCell ⟨g, 4, none⟩ u4).setCell ⟨g, 5, none⟩ u5).heap[p]? = some o :=
  blk_far (blk_far (blk_far (blk_far (blk_far (blk_far h (p := ⟨g, 0, none⟩) hne u0) (p := ⟨g, 1, none⟩) hne u1) (p := ⟨g, 2, none⟩) hne u2) (p := ⟨g, 3, none⟩) hne u3) (p := ⟨g, 4, none⟩) hne u4) (p := ⟨g, 5, none⟩) hne u5
theorem inv_step {p0 p1 p2 : Nat} {w w4 : World} {ls : List Msg} {A : Option Addr} {c : Nat} {cs : Array Value} (hs : cs.size = 6) (hq : w4.heap[p1]? = some (.cells cs 26 (0, 0))) (hQ : QAt w.heap.size w4.heap.size w4 A c ls) (hch : w4.heap[p0]? = some (.cells #[.int .i64 1, .int .i64 1, .int .i64 2, .int .i64 2, .int .i64 3] 23 (0, 0)))
    (hst : w4.heap[p2]? = some (.cells #[.string ⟨#[97]⟩, .string ⟨#[98]⟩, .string ⟨#[99]⟩] 9 (0, 0))) (hB : Below w.heap.size w w4) (h0 : p0 ≠ p1) (h2 : p2 ≠ p1) (h1 : w.heap.size ≤ p1) : Inv p0 p1 p2 w ((((((w4.setCell ⟨p1, 0, none⟩ (.int .i64 1)).setCell ⟨p1, 1, none⟩ (.int .i64 1)).setCell ⟨p1, 2, none⟩ (.int .i64 2)).setCell ⟨p1, 3, none⟩ (.int .i64 2)).setCell ⟨p1, 4, none⟩ (.int .i64 3)).setCell ⟨p1, 5, none⟩ (.slice A ls.length c)) ls :=
  ⟨A, c, q_set hq hs _ _ _ _ _ _, ⟨hQ.1, hQ.2.1, (own2_far6 hQ.2.2 hq _ _ _ _ _ _).mono (Nat.le_refl _) (by rw [size6]; exact Nat.le_refl _)⟩, far6 hch h0 _ _ _ _ _ _, far6 hst h2 _ _ _ _ _ _, q_below hB h1 _ _ _ _ _ _⟩
theorem inv_drew {p0 p1 p2 : Nat} {w w4 : World} {ls : List Msg} (h : Inv p0 p1 p2 w w4 ls) : Inv p0 p1 p2 w w4.drew ls := by
  obtain ⟨A, c, h1, h2, h3, h4, h5⟩ := h
  exact ⟨A, c, h1, h2, h3, h4, h5.drew⟩
set_option maxRecDepth 100000 in
set_option maxHeartbeats 4000000 in
theorem awake (w : World) : Calls Try.prog 16 #[] w fun e w' => e = .returned (.bool true) ∧ Below w.heap.size w w' := by
  have TN1 := fun w => new_any ⟨1, 1, 2, 2, 3⟩ w
  rw [if_pos (show mayC ⟨1, 1, 2, 2, 3⟩ = true by decide)] at TN1
  have TN2 := fun w => new_any ⟨9, 1, 2, 2, 3⟩ w
  rw [if_neg (show ¬ mayC ⟨9, 1, 2, 2, 3⟩ = true by decide)] at TN2
  have TP1 := fun Am cm hmA hmc w hm => put_to (m := [97, 98, 99, 100]) (show putR ⟨1, 1, 2, 2, 3⟩ [] [97, 98, 99, 100] = (ch0, [], 3) by decide) none 0 (fun _ => rfl) (Nat.le_refl _) (Nat.zero_le _) Am cm hmA hmc w Rms.nil hm
  dsimp only [qcells, Ch.cells, ch0, List.length_nil, List.length_cons] at TN1 TN2 TP1
  have HN1 := Lib.hid TN1; have HN2 := Lib.hid TN2; have HP1 := Lib.hid TP1
  clear TN1 TN2 TP1
  go_enter Try.func16, Try.ntmps16
  go_wp2_with fail
  refine (HN1.out _).mono ?_
  rintro e w1 ⟨rfl, b1⟩
  have g0 := blk_below (blk_new w (#[.int .i64 1, .int .i64 1, .int .i64 2, .int .i64 2, .int .i64 3]) 23) b1 (by simp)
  have s1 := b1.size
  have z1 : w.heap.size + 1 ≤ w1.heap.size := by simpa using s1
  have B1 := ((Below.refl w.heap.size w).alloc (Nat.le_refl _) (.cells #[.int .i64 1, .int .i64 1, .int .i64 2, .int .i64 2, .int .i64 3] 23)).trans (b1.mono (by simp))
  clear b1 s1
  have hcv := Joins.run_convert_bytes_const_at (P := Try.prog) (w1.alloc (.cells #[.int .i64 1, .int .i64 1, .int .i64 2, .int .i64 2, .int .i64 3, .slice (none) 0 0] 26)) 27 5 #[.int .u8 97, .int .u8 98, .int .u8 99, .int .u8 100] 4 4 (w1.heap.size + 1) (by simp) Try.underlying27 Try.underlying5
  have hrd : Rd ((w1.alloc (.cells #[.int .i64 1, .int .i64 1, .int .i64 2, .int .i64 2, .int .i64 3, .slice (none) 0 0] 26)).alloc (.cells #[.int .u8 97, .int .u8 98, .int .u8 99, .int .u8 100] 5 (4, 5))) (some ⟨w1.heap.size + 1, 0, none⟩) (bcs [97, 98, 99, 100]) := by
    have := rd_mark (w1.alloc (.cells #[.int .i64 1, .int .i64 1, .int .i64 2, .int .i64 2, .int .i64 3, .slice (none) 0 0] 26)) #[.int .u8 97, .int .u8 98, .int .u8 99, .int .u8 100] 5 (4, 5)
    rw [show (w1.alloc (.cells #[.int .i64 1, .int .i64 1, .int .i64 2, .int .i64 2, .int .i64 3, .slice (none) 0 0] 26)).heap.size = w1.heap.size + 1 by simp] at this
    exact this
  have HR := Lib.hid hrd; clear hrd
  go_wp2_with fail
  clear hcv
  refine (HP1.out (some ⟨w1.heap.size + 1, 0, none⟩) 4 (fun h => by cases h) (by omega) _ HR.out).mono ?_
  rintro e w2 ⟨A, c, rfl, hq2, b2⟩
  have s2 := b2.size
  have z2 : w1.heap.size + 2 ≤ w2.heap.size := by simpa using s2
  have g1 := blk_below (blk_alloc (blk_new w1 #[.int .i64 1, .int .i64 1, .int .i64 2, .int .i64 2, .int .i64 3, .slice (none) 0 0] 26) (.cells #[.int .u8 97, .int .u8 98, .int .u8 99, .int .u8 100] 5 (4, 5))) b2 (by simp; omega)
  have g02 := blk_below (blk_alloc (blk_alloc g0 (.cells #[.int .i64 1, .int .i64 1, .int .i64 2, .int .i64 2, .int .i64 3, .slice (none) 0 0] 26)) (.cells #[.int .u8 97, .int .u8 98, .int .u8 99, .int .u8 100] 5 (4, 5))) b2 (by simp; omega)
  have B2 := ((B1.alloc (by omega) (.cells #[.int .i64 1, .int .i64 1, .int .i64 2, .int .i64 2, .int .i64 3, .slice (none) 0 0] 26)).alloc (by simp; omega) (.cells #[.int .u8 97, .int .u8 98, .int .u8 99, .int .u8 100] 5 (4, 5))).trans (b2.mono (by simp; omega))
  clear hq2 b2 s2 HR HP1 g0 B1
  go_wp2_with fail
  go_loopw [3, 7] (fun e i wr => ∃ k : Nat, k ≤ 3 ∧ e = .int .i64 0 ∧ i = .int .i64 k ∧ Inv w.heap.size w1.heap.size (w2.heap.size + 1) w wr (stepS k)) (fun _ i _ => 3 - (intOf i).toNat)
  case atStart =>
    exact ⟨0, by omega, rfl, rfl, none, 0, blk_alloc (blk_alloc g1 _) _, QAt.nil, blk_alloc (blk_alloc g02 _) _, (by have := blk_new (w2.alloc (.cells #[.int .i64 0, .int .i64 0, .int .i64 0, .int .i64 0, .int .i64 0, .slice (A) 0 c] 26)) #[.string ⟨#[97]⟩, .string ⟨#[98]⟩, .string ⟨#[99]⟩] 9; simpa using this), (B2.alloc (by omega) _).alloc (by simp; omega) _⟩
  case round =>
    obtain ⟨k, hk, rfl, rfl, Aq, cq, hq, hQ, hch, hst, hB⟩ := hrel
    clear g1 g02
    by_cases hkl : k < 3
    · obtain ⟨s, hs, hp, hl2⟩ := step_at hkl
      have hki : (k : Int) < 3 := by omega
      obtain ⟨n, hn⟩ : ∃ n, (stepS k).length = n := ⟨_, rfl⟩
      have TP : ∀ (cm : Nat) (fr : Nat × Nat) (w' : World), (w'.heap = (wr.alloc (.cells (bytesRow ⟨#[s]⟩ cm) 5 fr)).heap ∧ w'.os = wr.os ∧ w'.tape = wr.tape ∧ w'.output = wr.output) → 1 ≤ cm → Calls Try.prog 11 #[.agg #[.int .i64 1, .int .i64 1, .int .i64 2, .int .i64 2, .int .i64 3, .slice (Aq) n cq], .slice (some ⟨wr.heap.size, 0, none⟩) 1 cm] w' fun e w'' => ∃ A c, e = .returned (.tuple #[.agg #[.int .i64 1, .int .i64 1, .int .i64 2, .int .i64 2, .int .i64 3, .slice (A) (stepS (k + 1)).length c], .int .i64 0]) ∧ QAt w.heap.size w''.heap.size w'' A c (stepS (k + 1)) ∧ Below wr.heap.size wr w'' := fun cm fr w' hw h2 => by
        have hb : Below wr.heap.size wr w' := below_heap ((Below.refl _ _).alloc (Nat.le_refl _) _) hw
        have hr : Rd w' (some ⟨wr.heap.size, 0, none⟩) (bcs [s]) := rd_heap (rd_bytesRow wr ⟨#[s]⟩ cm 5 fr) hw.1
        have T := put_to hp Aq cq hQ.2.1 hQ.1 (by omega) (some ⟨wr.heap.size, 0, none⟩) cm (fun h => by cases h) h2 w' (hQ.2.2.below hb (Nat.le_refl _)).rows hr
        rw [hn] at T
        exact T.mono fun e w'' ⟨A, c, he, hq, hbb⟩ => ⟨A, c, he, ⟨hq.1, hq.2.1, hq.2.2.mono (Nat.le_trans hB.size hb.size) (Nat.le_refl _)⟩, hb.trans (hbb.mono hb.size)⟩
      have HTP := Lib.hid TP
      rw [hn] at hq
      have hcs : wr.cell? ⟨w2.heap.size + 1, k, none⟩ = some (.string ⟨#[s]⟩) := (blk_cell hst k).trans hs
      have a0 : wr.cell? ⟨w1.heap.size, 0, none⟩ = some (.int .i64 1) := blk_cell hq 0
      have a1 : wr.cell? ⟨w1.heap.size, 1, none⟩ = some (.int .i64 1) := blk_cell hq 1
      have a2 : wr.cell? ⟨w1.heap.size, 2, none⟩ = some (.int .i64 2) := blk_cell hq 2
      have a3 : wr.cell? ⟨w1.heap.size, 3, none⟩ = some (.int .i64 2) := blk_cell hq 3
      have a4 : wr.cell? ⟨w1.heap.size, 4, none⟩ = some (.int .i64 3) := blk_cell hq 4
      have a5 : wr.cell? ⟨w1.heap.size, 5, none⟩ = some (.slice (Aq) n cq) := blk_cell hq 5
      have af0 : wr.frozen? ⟨w1.heap.size, 0, none⟩ = false := blk_frozen hq 0
      have af1 : wr.frozen? ⟨w1.heap.size, 1, none⟩ = false := blk_frozen hq 1
      have af2 : wr.frozen? ⟨w1.heap.size, 2, none⟩ = false := blk_frozen hq 2
      have af3 : wr.frozen? ⟨w1.heap.size, 3, none⟩ = false := blk_frozen hq 3
      have af4 : wr.frozen? ⟨w1.heap.size, 4, none⟩ = false := blk_frozen hq 4
      have af5 : wr.frozen? ⟨w1.heap.size, 5, none⟩ = false := blk_frozen hq 5
      have HQ := Lib.hid hq; have HCH := Lib.hid hch; have HST := Lib.hid hst; have HB := Lib.hid hB
      have HS := Lib.hid hs
      have hcv := fun w => run_bytes_of_string (P := Try.prog) w 9 27 5 ⟨#[s]⟩ Try.underlying9 Try.underlying27 Try.underlying5
      clear TP hn hp hq hch hst hB hQ hs B2
      have al0 : ∀ o, (wr.alloc o).cell? ⟨w1.heap.size, 0, none⟩ = some (.int .i64 1) := fun o => Lib.cell?_alloc_marked o a0
      have al1 : ∀ o, (wr.alloc o).cell? ⟨w1.heap.size, 1, none⟩ = some (.int .i64 1) := fun o => Lib.cell?_alloc_marked o a1
      have al2 : ∀ o, (wr.alloc o).cell? ⟨w1.heap.size, 2, none⟩ = some (.int .i64 2) := fun o => Lib.cell?_alloc_marked o a2
      have al3 : ∀ o, (wr.alloc o).cell? ⟨w1.heap.size, 3, none⟩ = some (.int .i64 2) := fun o => Lib.cell?_alloc_marked o a3
      have al4 : ∀ o, (wr.alloc o).cell? ⟨w1.heap.size, 4, none⟩ = some (.int .i64 3) := fun o => Lib.cell?_alloc_marked o a4
      have al5 : ∀ o, (wr.alloc o).cell? ⟨w1.heap.size, 5, none⟩ = some (.slice Aq n cq) := fun o => Lib.cell?_alloc_marked o a5
      go_wp2_with fail
      go_region_with (go_at_call 11; refine (HTP.out _ _ _ (by exact ⟨rfl, rfl, rfl, rfl⟩) (by exact grownCap_ge _ 1 0 _)).mono ?_; rintro e w4 ⟨A4, c4, rfl, hq4, b4⟩; have G4 := Lib.hid (blk_below HQ.out b4 (blk_lt HQ.out)); have f0 : w4.frozen? ⟨w1.heap.size, 0, none⟩ = false := blk_frozen G4.out 0; have f1 : w4.frozen? ⟨w1.heap.size, 1, none⟩ = false := blk_frozen G4.out 1; have f2 : w4.frozen? ⟨w1.heap.size, 2, none⟩ = false := blk_frozen G4.out 2; have f3 : w4.frozen? ⟨w1.heap.size, 3, none⟩ = false := blk_frozen G4.out 3; have f4 : w4.frozen? ⟨w1.heap.size, 4, none⟩ = false := blk_frozen G4.out 4; have f5 : w4.frozen? ⟨w1.heap.size, 5, none⟩ = false := blk_frozen G4.out 5; have k0 : w4.cell? ⟨w1.heap.size, 0, none⟩ = some (.int .i64 1) := blk_cell G4.out 0; have k1 : w4.cell? ⟨w1.heap.size, 1, none⟩ = some (.int .i64 1) := blk_cell G4.out 1; have k2 : w4.cell? ⟨w1.heap.size, 2, none⟩ = some (.int .i64 2) := blk_cell G4.out 2; have k3 : w4.cell? ⟨w1.heap.size, 3, none⟩ = some (.int .i64 2) := blk_cell G4.out 3; have k4 : w4.cell? ⟨w1.heap.size, 4, none⟩ = some (.int .i64 3) := blk_cell G4.out 4; have k5 : w4.cell? ⟨w1.heap.size, 5, none⟩ = some (.slice Aq n cq) := blk_cell G4.out 5)
      all_goals (
        have H4 := Lib.hid hq4; have B4 := Lib.hid b4
        clear hq4 b4 hcv hcs a0 a1 a2 a3 a4 a5 af0 af1 af2 af3 af4 af5 al0 al1 al2 al3 al4 al5
        go_wp2_with fail
        go_roundw
        case rel => exact ⟨k + 1, by omega, rfl, by go_num, inv_step rfl G4.out H4.out (blk_below HCH.out B4.out (blk_lt HCH.out)) (blk_below HST.out B4.out (blk_lt HST.out)) (HB.out.trans (B4.out.mono HB.out.size)) (by omega) (by omega) (by omega)⟩
        case measure => simp [intOf]; omega)
    · obtain rfl : k = 3 := by omega
      have hq' : wr.heap[w1.heap.size]? = some (.cells #[.int .i64 1, .int .i64 1, .int .i64 2, .int .i64 2, .int .i64 3, .slice (Aq) 2 cq] 26 (0, 0)) := hq
      have T1 : Calls Try.prog 17 #[.agg #[.int .i64 1, .int .i64 1, .int .i64 2, .int .i64 2, .int .i64 3, .slice (Aq) 2 cq]] wr fun e w' => ∃ u A c, e = .returned (.tuple #[u, .agg #[.int .i64 1, .int .i64 1, .int .i64 2, .int .i64 2, .int .i64 3, .slice (A) 1 c], .int .i64 0]) ∧ MsgAt wr.heap.size w'.heap.size w' u [98] ∧ QAt wr.heap.size w'.heap.size w' A c [[99]] ∧ Below wr.heap.size wr w' := take_to (show takeR ⟨1, 1, 2, 2, 3⟩ (stepS 3) = ([98], ⟨1, 1, 2, 2, 3⟩, [[99]], 0) by decide) (Aq) (cq) (by decide) wr hQ.2.2.rows
      have a0 : wr.cell? ⟨w1.heap.size, 0, none⟩ = some (.int .i64 1) := blk_cell hq' 0
      have a1 : wr.cell? ⟨w1.heap.size, 1, none⟩ = some (.int .i64 1) := blk_cell hq' 1
      have a2 : wr.cell? ⟨w1.heap.size, 2, none⟩ = some (.int .i64 2) := blk_cell hq' 2
      have a3 : wr.cell? ⟨w1.heap.size, 3, none⟩ = some (.int .i64 2) := blk_cell hq' 3
      have a4 : wr.cell? ⟨w1.heap.size, 4, none⟩ = some (.int .i64 3) := blk_cell hq' 4
      have a5 : wr.cell? ⟨w1.heap.size, 5, none⟩ = some (.slice (Aq) 2 cq) := blk_cell hq' 5
      have HQ := Lib.hid hq'; have HCH := Lib.hid hch; have HB := Lib.hid hB; have HT1 := Lib.hid T1
      have zr : w1.heap.size < wr.heap.size := blk_lt hq
      have yr : w.heap.size < wr.heap.size := blk_lt hch
      clear hq' hq hQ hch hst hB B2 T1
      go_wp2_with fail
      refine HT1.out.mono ?_
      rintro e w5 ⟨u5, A5, c5, rfl, hm5, hq5, b5⟩
      have G5 := Lib.hid (blk_below HQ.out b5 zr)
      have k0 : w5.cell? ⟨w1.heap.size, 0, none⟩ = some (.int .i64 1) := blk_cell G5.out 0
      have k1 : w5.cell? ⟨w1.heap.size, 1, none⟩ = some (.int .i64 1) := blk_cell G5.out 1
      have k2 : w5.cell? ⟨w1.heap.size, 2, none⟩ = some (.int .i64 2) := blk_cell G5.out 2
      have k3 : w5.cell? ⟨w1.heap.size, 3, none⟩ = some (.int .i64 2) := blk_cell G5.out 3
      have k4 : w5.cell? ⟨w1.heap.size, 4, none⟩ = some (.int .i64 3) := blk_cell G5.out 4
      have k5 : w5.cell? ⟨w1.heap.size, 5, none⟩ = some (.slice (Aq) 2 cq) := blk_cell G5.out 5
      have kf0 : w5.frozen? ⟨w1.heap.size, 0, none⟩ = false := blk_frozen G5.out 0
      have kf1 : w5.frozen? ⟨w1.heap.size, 1, none⟩ = false := blk_frozen G5.out 1
      have kf2 : w5.frozen? ⟨w1.heap.size, 2, none⟩ = false := blk_frozen G5.out 2
      have kf3 : w5.frozen? ⟨w1.heap.size, 3, none⟩ = false := blk_frozen G5.out 3
      have kf4 : w5.frozen? ⟨w1.heap.size, 4, none⟩ = false := blk_frozen G5.out 4
      have kf5 : w5.frozen? ⟨w1.heap.size, 5, none⟩ = false := blk_frozen G5.out 5
      have HM5 := Lib.hid hm5; have HQ5 := Lib.hid hq5; have B5 := Lib.hid b5
      obtain ⟨Am5, cm5, rfl, _⟩ := hm5
      clear hq5 b5 a0 a1 a2 a3 a4 a5
      go_wp2_with fail
      have chw5 := blk_below HCH.out B5.out yr
      have bw5 := HB.out.trans (B5.out.mono HB.out.size)
      clear k0 k1 k2 k3 k4 k5 kf0 kf1 kf2 kf3 kf4 kf5
      have pW5 := q_set G5.out rfl (.int .i64 1) (.int .i64 1) (.int .i64 2) (.int .i64 2) (.int .i64 3) (.slice (A5) 1 c5)
      have m5 := msg_far6 HM5.out G5.out (.int .i64 1) (.int .i64 1) (.int .i64 2) (.int .i64 2) (.int .i64 3) (.slice (A5) 1 c5)
      have rW5 := own2_far6 (HQ5.out).2.2 G5.out (.int .i64 1) (.int .i64 1) (.int .i64 2) (.int .i64 2) (.int .i64 3) (.slice (A5) 1 c5)
      have hW5 := far6 chw5 (show w.heap.size ≠ w1.heap.size by omega) (.int .i64 1) (.int .i64 1) (.int .i64 2) (.int .i64 2) (.int .i64 3) (.slice (A5) 1 c5)
      have dW5 := q_below bw5 (show w.heap.size ≤ w1.heap.size by omega) (.int .i64 1) (.int .i64 1) (.int .i64 2) (.int .i64 2) (.int .i64 3) (.slice (A5) 1 c5)
      have eW5 := size6 w5 (w1.heap.size) (.int .i64 1) (.int .i64 1) (.int .i64 2) (.int .i64 2) (.int .i64 3) (.slice (A5) 1 c5)
      generalize ((((((w5.setCell ⟨w1.heap.size, 0, none⟩ (.int .i64 1)).setCell ⟨w1.heap.size, 1, none⟩ (.int .i64 1)).setCell ⟨w1.heap.size, 2, none⟩ (.int .i64 2)).setCell ⟨w1.heap.size, 3, none⟩ (.int .i64 2)).setCell ⟨w1.heap.size, 4, none⟩ (.int .i64 3)).setCell ⟨w1.heap.size, 5, none⟩ (.slice (A5) 1 c5)) = W5 at *
      clear chw5 bw5 HM5
      have y5 : w.heap.size < W5.heap.size := blk_lt hW5
      have x5 : w1.heap.size < W5.heap.size := blk_lt pW5
      have T2 : Calls Try.prog 17 #[.agg #[.int .i64 1, .int .i64 1, .int .i64 2, .int .i64 2, .int .i64 3, .slice (A5) 1 c5]] W5 fun e w' => ∃ u A c, e = .returned (.tuple #[u, .agg #[.int .i64 1, .int .i64 1, .int .i64 2, .int .i64 2, .int .i64 3, .slice (A) 0 c], .int .i64 0]) ∧ MsgAt W5.heap.size w'.heap.size w' u [99] ∧ QAt W5.heap.size w'.heap.size w' A c [] ∧ Below W5.heap.size W5 w' := take_to (show takeR ⟨1, 1, 2, 2, 3⟩ [[99]] = ([99], ⟨1, 1, 2, 2, 3⟩, [], 0) by decide) (A5) (c5) (by decide) W5 rW5.rows
      have HT2 := Lib.hid T2; have P5 := Lib.hid pW5; have M5 := Lib.hid m5; have CH5 := Lib.hid hW5; have D5 := Lib.hid dW5; have E5 := Lib.hid eW5
      clear T2 pW5 m5 hW5 dW5 rW5 eW5
      refine HT2.out.mono ?_
      rintro e w6 ⟨u6, A6, c6, rfl, hm6, hq6, b6⟩
      have G6 := Lib.hid (blk_below P5.out b6 x5)
      have k0 : w6.cell? ⟨w1.heap.size, 0, none⟩ = some (.int .i64 1) := blk_cell G6.out 0
      have k1 : w6.cell? ⟨w1.heap.size, 1, none⟩ = some (.int .i64 1) := blk_cell G6.out 1
      have k2 : w6.cell? ⟨w1.heap.size, 2, none⟩ = some (.int .i64 2) := blk_cell G6.out 2
      have k3 : w6.cell? ⟨w1.heap.size, 3, none⟩ = some (.int .i64 2) := blk_cell G6.out 3
      have k4 : w6.cell? ⟨w1.heap.size, 4, none⟩ = some (.int .i64 3) := blk_cell G6.out 4
      have k5 : w6.cell? ⟨w1.heap.size, 5, none⟩ = some (.slice (A5) 1 c5) := blk_cell G6.out 5
      have kf0 : w6.frozen? ⟨w1.heap.size, 0, none⟩ = false := blk_frozen G6.out 0
      have kf1 : w6.frozen? ⟨w1.heap.size, 1, none⟩ = false := blk_frozen G6.out 1
      have kf2 : w6.frozen? ⟨w1.heap.size, 2, none⟩ = false := blk_frozen G6.out 2
      have kf3 : w6.frozen? ⟨w1.heap.size, 3, none⟩ = false := blk_frozen G6.out 3
      have kf4 : w6.frozen? ⟨w1.heap.size, 4, none⟩ = false := blk_frozen G6.out 4
      have kf5 : w6.frozen? ⟨w1.heap.size, 5, none⟩ = false := blk_frozen G6.out 5
      have HM6 := Lib.hid hm6; have HQ6 := Lib.hid hq6; have B6 := Lib.hid b6
      have M56 := Lib.hid (M5.out.below b6 (by have := E5.out; omega))
      obtain ⟨Am6, cm6, rfl, _⟩ := hm6
      clear hq6 b6
      go_wp2_with fail
      have chw6 := blk_below CH5.out B6.out y5
      have bw6 := D5.out.trans (B6.out.mono D5.out.size)
      clear k0 k1 k2 k3 k4 k5 kf0 kf1 kf2 kf3 kf4 kf5
      have pW6 := q_set G6.out rfl (.int .i64 1) (.int .i64 1) (.int .i64 2) (.int .i64 2) (.int .i64 3) (.slice (A6) 0 c6)
      have m6 := msg_far6 HM6.out G6.out (.int .i64 1) (.int .i64 1) (.int .i64 2) (.int .i64 2) (.int .i64 3) (.slice (A6) 0 c6)
      have m56 := msg_far6 M56.out G6.out (.int .i64 1) (.int .i64 1) (.int .i64 2) (.int .i64 2) (.int .i64 3) (.slice (A6) 0 c6)
      have rW6 := own2_far6 (HQ6.out).2.2 G6.out (.int .i64 1) (.int .i64 1) (.int .i64 2) (.int .i64 2) (.int .i64 3) (.slice (A6) 0 c6)
      have hW6 := far6 chw6 (show w.heap.size ≠ w1.heap.size by omega) (.int .i64 1) (.int .i64 1) (.int .i64 2) (.int .i64 2) (.int .i64 3) (.slice (A6) 0 c6)
      have dW6 := q_below bw6 (show w.heap.size ≤ w1.heap.size by omega) (.int .i64 1) (.int .i64 1) (.int .i64 2) (.int .i64 2) (.int .i64 3) (.slice (A6) 0 c6)
      have eW6 := size6 w6 (w1.heap.size) (.int .i64 1) (.int .i64 1) (.int .i64 2) (.int .i64 2) (.int .i64 3) (.slice (A6) 0 c6)
      generalize ((((((w6.setCell ⟨w1.heap.size, 0, none⟩ (.int .i64 1)).setCell ⟨w1.heap.size, 1, none⟩ (.int .i64 1)).setCell ⟨w1.heap.size, 2, none⟩ (.int .i64 2)).setCell ⟨w1.heap.size, 3, none⟩ (.int .i64 2)).setCell ⟨w1.heap.size, 4, none⟩ (.int .i64 3)).setCell ⟨w1.heap.size, 5, none⟩ (.slice (A6) 0 c6)) = W6 at *
      clear chw6 bw6 HM6 M56
      have y6 : w.heap.size < W6.heap.size := blk_lt hW6
      have x6 : w1.heap.size < W6.heap.size := blk_lt pW6
      have T3 : Calls Try.prog 17 #[.agg #[.int .i64 1, .int .i64 1, .int .i64 2, .int .i64 2, .int .i64 3, .slice (A6) 0 c6]] W6 fun e w' => ∃ u A c, e = .returned (.tuple #[u, .agg #[.int .i64 0, .int .i64 0, .int .i64 0, .int .i64 0, .int .i64 0, .slice (A) 0 c], .int .i64 100]) ∧ MsgAt W6.heap.size w'.heap.size w' u [] ∧ QAt W6.heap.size w'.heap.size w' A c [] ∧ Below W6.heap.size W6 w' := take_to (show takeR ⟨1, 1, 2, 2, 3⟩ [] = ([], ch0, [], 100) by decide) (A6) (c6) (by decide) W6 rW6.rows
      have HT3 := Lib.hid T3; have M6 := Lib.hid m6; have M56 := Lib.hid m56; have CH6 := Lib.hid hW6; have D6 := Lib.hid dW6; have E6 := Lib.hid eW6
      clear T3 pW6 m6 m56 hW6 dW6 rW6 eW6
      refine HT3.out.mono ?_
      rintro e w7 ⟨u7, A7, c7, rfl, hm7, hq7, b7⟩
      have ch7 := blk_below CH6.out b7 y6
      have s7 := b7.size
      have M7 := M6.out.below b7 (by have := E6.out; omega)
      have M57 := M56.out.below b7 (by have := E6.out; have := E5.out; have := B6.out.size; omega)
      have D7 := D6.out.trans (b7.mono (by omega))
      obtain ⟨Am7, cm7, rfl, _⟩ := hm7
      have y7 : w.heap.size < w7.heap.size := blk_lt ch7
      have CH7 := Lib.hid ch7; have HM7 := Lib.hid M7; have HM57 := Lib.hid M57; have HD7 := Lib.hid D7
      have k0 : w7.cell? ⟨w.heap.size, 0, none⟩ = some (.int .i64 1) := blk_cell CH7.out 0
      have k1 : w7.cell? ⟨w.heap.size, 1, none⟩ = some (.int .i64 1) := blk_cell CH7.out 1
      have k2 : w7.cell? ⟨w.heap.size, 2, none⟩ = some (.int .i64 2) := blk_cell CH7.out 2
      have k3 : w7.cell? ⟨w.heap.size, 3, none⟩ = some (.int .i64 2) := blk_cell CH7.out 3
      have k4 : w7.cell? ⟨w.heap.size, 4, none⟩ = some (.int .i64 3) := blk_cell CH7.out 4
      have kf0 : w7.frozen? ⟨w.heap.size, 0, none⟩ = false := blk_frozen CH7.out 0
      have kf1 : w7.frozen? ⟨w.heap.size, 1, none⟩ = false := blk_frozen CH7.out 1
      have kf2 : w7.frozen? ⟨w.heap.size, 2, none⟩ = false := blk_frozen CH7.out 2
      have kf3 : w7.frozen? ⟨w.heap.size, 3, none⟩ = false := blk_frozen CH7.out 3
      have kf4 : w7.frozen? ⟨w.heap.size, 4, none⟩ = false := blk_frozen CH7.out 4
      have h8 := blk_eq (blk_set CH7.out 0 (.int .i64 9)) (show _ = (#[.int .i64 9, .int .i64 1, .int .i64 2, .int .i64 2, .int .i64 3] : Array Value) from rfl)
      have n0 : ∀ o, ((w7.setCell ⟨w.heap.size, 0, none⟩ (.int .i64 9)).alloc o).cell? ⟨w.heap.size, 0, none⟩ = some (.int .i64 9) := fun o => Lib.cell?_alloc_marked o (blk_cell h8 0)
      have n1 : ∀ o, ((w7.setCell ⟨w.heap.size, 0, none⟩ (.int .i64 9)).alloc o).cell? ⟨w.heap.size, 1, none⟩ = some (.int .i64 1) := fun o => Lib.cell?_alloc_marked o (blk_cell h8 1)
      have n2 : ∀ o, ((w7.setCell ⟨w.heap.size, 0, none⟩ (.int .i64 9)).alloc o).cell? ⟨w.heap.size, 2, none⟩ = some (.int .i64 2) := fun o => Lib.cell?_alloc_marked o (blk_cell h8 2)
      have n3 : ∀ o, ((w7.setCell ⟨w.heap.size, 0, none⟩ (.int .i64 9)).alloc o).cell? ⟨w.heap.size, 3, none⟩ = some (.int .i64 2) := fun o => Lib.cell?_alloc_marked o (blk_cell h8 3)
      have n4 : ∀ o, ((w7.setCell ⟨w.heap.size, 0, none⟩ (.int .i64 9)).alloc o).cell? ⟨w.heap.size, 4, none⟩ = some (.int .i64 3) := fun o => Lib.cell?_alloc_marked o (blk_cell h8 4)
      have H8 := Lib.hid h8
      clear ch7 M7 M57 D7 h8 hq7 b7
      go_wp2_with fail
      have m9 := (msg_far (k := 0) HM7.out CH7.out (by decide) (.int .i64 9)).below ((Below.refl _ _).alloc (Nat.le_refl _) (.cells #[.int .i64 0, .int .i64 0, .int .i64 0, .int .i64 0, .int .i64 0, .slice (A7) 0 c7] 26)) (show w6.heap.size ≤ _ by have := E6.out; simp; omega)
      have m59 := (msg_far (k := 0) HM57.out CH7.out (by decide) (.int .i64 9)).below ((Below.refl _ _).alloc (Nat.le_refl _) (.cells #[.int .i64 0, .int .i64 0, .int .i64 0, .int .i64 0, .int .i64 0, .slice (A7) 0 c7] 26)) (show w5.heap.size ≤ _ by have := E6.out; have := E5.out; have := B6.out.size; simp; omega)
      have d9 := (HD7.out.setCell (p := ⟨w.heap.size, 0, none⟩) (Nat.le_refl _) (.int .i64 9)).alloc (by simp; omega) (.cells #[.int .i64 0, .int .i64 0, .int .i64 0, .int .i64 0, .int .i64 0, .slice (A7) 0 c7] 26)
      have e9 : ((w7.setCell ⟨w.heap.size, 0, none⟩ (.int .i64 9)).alloc (.cells #[.int .i64 0, .int .i64 0, .int .i64 0, .int .i64 0, .int .i64 0, .slice (A7) 0 c7] 26)).heap.size = w7.heap.size + 1 := by simp
      clear k0 k1 k2 k3 k4 kf0 kf1 kf2 kf3 kf4 n0 n1 n2 n3 n4
      generalize (w7.setCell ⟨w.heap.size, 0, none⟩ (.int .i64 9)).alloc (.cells #[.int .i64 0, .int .i64 0, .int .i64 0, .int .i64 0, .int .i64 0, .slice (A7) 0 c7] 26) = W9 at *
      refine (HN2.out _).mono ?_
      rintro e w10 ⟨rfl, b10⟩
      have bb := b10.alloc b10.size (.cells #[.int .i64 0, .int .i64 0, .int .i64 0, .int .i64 0, .int .i64 0, .slice (none) 0 0] 26)
      have ma := m9.below bb (by have := E6.out; omega)
      have mb := m59.below bb (by have := E6.out; have := E5.out; have := B6.out.size; omega)
      have dd := d9.trans (bb.mono (by omega))
      obtain ⟨_, _, ea, _, _, _, ra⟩ := ma
      obtain ⟨_, _, eb, _, _, _, rb⟩ := mb
      injection ea with ea1 _ ea3
      injection eb with eb1 _ eb3
      subst ea1; subst ea3; subst eb1; subst eb3
      have sa := str_rd [99] Am6 1 cm6 rfl _ ra.rd
      have sb := str_rd [98] Am5 1 cm5 rfl _ rb.rd
      have DD := Lib.hid dd
      clear ra rb dd bb b10 m9 m59 d9
      go_wp2
      go_ret
      exact ⟨rfl, DD.out⟩
  done
end Go.Proofs.Ytlmecndldclnnaa.chan
