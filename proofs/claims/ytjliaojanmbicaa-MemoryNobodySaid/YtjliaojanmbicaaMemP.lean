/- memory.Fill and the reference's Fill, all ways; no condition. -/
import Derived.Test.YtjliaojanmbicaaRows
import Derived.Test.YtjliaojanmbicaaLibS
import Derived.Laws.CopyOwn
import Derived.Laws.OwnMore
import Derived.Laws.MakeOwn
namespace Go.Proofs.Ytjliaojanmbicaa.phys
open Go Go.ChangeShapes Go.WideShapes Go.ChangeAt Go.RowKit Go.Proofs.Ytjliaojanmbicaa.rows
/-- The end of a function with two results that lie in slots. -/
theorem ret_tmp2 {P : Program} {fn : Func} {R : Ending → World → Prop} {a : Act} {w : World} {t u : Tmp} (h : fn.results = #[.tmp t, .tmp u]) (hdef : a.defers = []) (hR : R (.returned (.tuple #[a.tmps.getD t undef, a.tmps.getD u undef])) w) : bodyPost P fn R .ret a w :=
  bodyPost_ret (v := .tuple #[a.tmps.getD t undef, a.tmps.getD u undef]) (by simp [results, h]) hdef hR
/-- n zero bytes. -/
def zs (n : Nat) : List UInt8 := List.replicate n 0
theorem zs_length (n : Nat) : (zs n).length = n := by simp [zs]
theorem made_zs (n : Nat) : madeCells (Value.cells (.int .u8 0)) (n * 1) = (bcs (zs n)).toArray := by
  refine Array.ext (by simp [madeCells, bcs, Lib.byteCells, zs]) fun j h1 h2 => ?_
  simp [madeCells, bcs, Lib.byteCells, zs, Value.cells, Nat.mod_one]
theorem run_made (n : Nat) (hn : n ≤ 4096) (w : World) : Sem.run Try.prog (Instr.makeSlice 22 (.int .i64 (n : Int)) (.int .i64 (n : Int))) w = .ok (.slice (some ⟨w.heap.size, 0, none⟩) n n) (w.alloc (.cells (bcs (zs n)).toArray 5)) := by
  obtain ⟨i0, hi, hz0, hz1, hz2⟩ := info_parts info_byte
  have h := run_make (P := Try.prog) w 22 5 i0 (.int .u8 0) Try.underlying22 hi hz0 .i64 .i64 (n : Int) (n : Int) (by omega) (Int.le_refl _) (by rw [hz2]; omega) (by omega)
  rw [hz1, Int.toNat_natCast, made_zs] at h
  exact h
/-- An image with zeros behind it. -/
def fillL (n : Nat) (im : List UInt8) : List UInt8 := im ++ zs (n - im.length)
theorem fillL_length {n : Nat} {im : List UInt8} (h : im.length ≤ n) : (fillL n im).length = n := by simp [fillL, zs]; omega
theorem fill_splice (n : Nat) (im : List UInt8) : splice (bcs (zs n)) 0 (bcs im) = bcs (fillL n im) := by
  unfold splice fillL
  rw [bcs_append]
  simp [bcs, Lib.byteCells, zs]
theorem fill_neg (size : Int) (A : Option Addr) (r c : Nat) (h0 : size < 0) (w : World) : Calls Try.prog 25 #[.int .i64 size, .slice A r c] w fun e w' => e = .returned (.tuple #[.slice none 0 0, .int .i64 2]) ∧ Below w.heap.size w w' := by
  go_enter Try.func25, Try.ntmps25
  go_wp2
  exact ret_tmp2 rfl rfl ⟨rfl, Below.refl _ _⟩
theorem fill_big (size : Int) (A : Option Addr) (r c : Nat) (h0 : 0 ≤ size) (h1 : 512 < size) (w : World) : Calls Try.prog 25 #[.int .i64 size, .slice A r c] w fun e w' => e = .returned (.tuple #[.slice none 0 0, .int .i64 2]) ∧ Below w.heap.size w w' := by
  go_enter Try.func25, Try.ntmps25
  go_wp2
  exact ret_tmp2 rfl rfl ⟨rfl, Below.refl _ _⟩
theorem fill_sml (size : Int) (A : Option Addr) (r c : Nat) (h0 : 0 ≤ size) (h1 : size ≤ 512) (h2 : size < (r : Int)) (w : World) : Calls Try.prog 25 #[.int .i64 size, .slice A r c] w fun e w' => e = .returned (.tuple #[.slice none 0 0, .int .i64 2]) ∧ Below w.heap.size w w' := by
  go_enter Try.func25, Try.ntmps25
  go_wp2
  exact ret_tmp2 rfl rfl ⟨rfl, Below.refl _ _⟩
theorem rfill_neg (size : Int) (A : Option Addr) (r c : Nat) (h0 : size < 0) (w : World) : Calls Try.prog 22 #[.int .i64 size, .slice A r c] w fun e w' => e = .returned (.tuple #[.slice none 0 0, .int .i64 2]) ∧ Below w.heap.size w w' := by
  go_enter Try.func22, Try.ntmps22
  go_wp2
  exact ret_tmp2 rfl rfl ⟨rfl, Below.refl _ _⟩
theorem rfill_big (size : Int) (A : Option Addr) (r c : Nat) (h0 : 0 ≤ size) (h1 : 512 < size) (w : World) : Calls Try.prog 22 #[.int .i64 size, .slice A r c] w fun e w' => e = .returned (.tuple #[.slice none 0 0, .int .i64 2]) ∧ Below w.heap.size w w' := by
  go_enter Try.func22, Try.ntmps22
  go_wp2
  exact ret_tmp2 rfl rfl ⟨rfl, Below.refl _ _⟩
theorem rfill_sml (size : Int) (A : Option Addr) (r c : Nat) (h0 : 0 ≤ size) (h1 : size ≤ 512) (h2 : size < (r : Int)) (w : World) : Calls Try.prog 22 #[.int .i64 size, .slice A r c] w fun e w' => e = .returned (.tuple #[.slice none 0 0, .int .i64 2]) ∧ Below w.heap.size w w' := by
  go_enter Try.func22, Try.ntmps22
  go_wp2
  exact ret_tmp2 rfl rfl ⟨rfl, Below.refl _ _⟩
set_option maxHeartbeats 1000000 in
theorem fill_ok (n : Nat) (hn : n ≤ 512) (im : List UInt8) (A : Option Addr) (r c : Nat) (hr : im.length = r) (hle : r ≤ n) (w : World) (h : Rd w A (bcs im)) : Calls Try.prog 25 #[.int .i64 (n : Int), .slice A r c] w fun e w' => e = .returned (.tuple #[.slice (some ⟨w.heap.size, 0, none⟩) n n, .int .i64 0]) ∧ w'.heap[w.heap.size]? = some (.cells (bcs (fillL n im)).toArray 5 (0, 0)) ∧ Below w.heap.size w w' := by
  have hm := run_made n (by omega) w
  have HG := Lib.hid (blk_new w (bcs (zs n)).toArray 5)
  have HB := Lib.hid ((Below.refl w.heap.size w).alloc (Nat.le_refl _) (.cells (bcs (zs n)).toArray 5))
  have HR := Lib.hid (h.alloc (.cells (bcs (zs n)).toArray 5))
  have HL := Lib.hid (show (bcs im).length = r by rw [bcs_length, hr])
  have HS := Lib.hid (fill_splice n im)
  have HZ := Lib.hid (show (bcs (zs n)).length = n by rw [bcs_length, zs_length])
  have hrn : (r : Int) ≤ (n : Int) := by omega
  have hn0 : (0 : Int) ≤ (n : Int) := by omega
  have hn5 : (n : Int) ≤ 512 := by omega
  clear h hr hn
  go_enter Try.func25, Try.ntmps25
  go_wp2_with (refine wpList_copy_splice rfl (.tmp 21) (.tmp 22) 22 22 rfl 5 Try.underlying22 (by kernel_rfl) _ _ _ _ _ _ rfl rfl w.heap.size 0 (bcs (zs n)) 5 HG.out (bcs im) ?k1 ?k2 ?k3 (bcs_one _) w.heap.size w HB.out (Nat.le_refl _) ?_)
  case k1 => rw [HL.out]; exact (Nat.min_eq_left hle).symm
  case k2 =>
    intro h0
    rcases HR.out with e | ⟨b, off, rfl, _, hc⟩
    · rw [e] at h0; simp at h0
    · exact ⟨_, rfl, fun j v hv => by rw [Addr.add_lit]; exact hc j v hv⟩
  case k3 => rw [HL.out, HZ.out]; omega
  intro w2 hg2 hb2
  have hg3 := hg2.out
  rw [HS.out] at hg3
  have HG3 := Lib.hid hg3; have HB2 := Lib.hid hb2
  clear hg2 hg3 hb2 hm
  go_wp2
  exact ret_tmp2 rfl rfl ⟨rfl, HG3.out, HB2.out⟩
theorem zs_snoc (n : Nat) : zs n ++ [0] = zs (n + 1) := by simp [zs, List.replicate_succ']
set_option maxHeartbeats 1000000 in
theorem rfill_ok (n : Nat) (hn : n ≤ 512) (im : List UInt8) (A : Option Addr) (r c : Nat) (hr : im.length = r) (hle : r ≤ n) (w : World) (h : Rd w A (bcs im)) : Calls Try.prog 22 #[.int .i64 (n : Int), .slice A r c] w fun e w' => ∃ v, e = .returned (.tuple #[v, .int .i64 0]) ∧ CopyOf (fillL n im) w v w' := by
  obtain ⟨i0, hi, hz0, hz1, hz2⟩ := info_parts info_byte
  have hown : (w.alloc (.cells #[] 5)).ownsRow w.heap.size 5 1 (.slice (some ⟨w.heap.size, 0, none⟩) 0 0) 0 [] := World.ownsRow_lit w #[] 0 (Nat.le_refl _) (by decide) rfl
  have HR := Lib.hid (h.alloc (.cells #[] 5)); have HOW := Lib.hid hown
  have h1 := bcs_one im
  obtain ⟨xs, hxs⟩ : ∃ xs, bcs im = xs := ⟨_, rfl⟩
  have HL := Lib.hid (show xs.length = r by rw [← hxs, bcs_length, hr])
  rw [hxs] at h1
  have HX := Lib.hid hxs; have HRI := Lib.hid hr
  have HRX := Lib.hid (show Rd (w.alloc (.cells #[] 5)) A xs by rw [← hxs]; exact HR.out)
  have hrn : (r : Int) ≤ (n : Int) := by omega
  have hn0 : (0 : Int) ≤ (n : Int) := by omega
  have hn5 : (n : Int) ≤ 512 := by omega
  clear h hr hown hxs
  go_enter Try.func22, Try.ntmps22
  go_wp2_with (at_builtin; refine wpList_append_rd _ rfl (.tmp 19) (.tmp 20) 22 rfl w.heap.size 5 i0 (.int .u8 0) 1 1 Try.underlying22 hi hz0 hz1 hz2 rfl (by decide) _ 0 [] rfl HOW.out _ r _ xs rfl (by rw [HL.out]; omega) HRX.out h1 ?c3 ?c4 ?c5 ?_)
  case c3 => unfold maxLen; omega
  case c4 => omega
  case c5 => simp
  intro v3 w3 hown3 hg3
  have hb3 := below_own ((Below.refl w.heap.size w).alloc (Nat.le_refl _) (.cells #[] 5)) HOW.out hg3 (by simp)
  obtain ⟨A3, c3, rfl, hc3, hA3, hf3, hr3⟩ := own_form3 hown3
  have HO3 := Lib.hid (show w3.ownsRow w.heap.size 5 1 (.slice A3 r c3) r (bcs (im ++ zs 0)) by rw [show im ++ zs 0 = im by simp [zs], HX.out]; exact hown3)
  have HB3 := Lib.hid hb3
  clear hb3 hown3 hg3 hA3 hf3 hr3
  go_wp2_with fail
  go_loopw [6] (fun v wr => ∃ j A c, r + j ≤ n ∧ v = .slice A (r + j) c ∧ wr.ownsRow w.heap.size 5 1 (.slice A (r + j) c) (r + j) (bcs (im ++ zs j)) ∧ Below w.heap.size w wr) (fun v _ => n - (match v with | .slice _ k _ => k | _ => 0))
  case atStart => exact ⟨0, A3, c3, by omega, rfl, HO3.out, HB3.out⟩
  case round =>
    obtain ⟨j, A4, c4, hj, rfl, ho, hb⟩ := hrel
    have HO := Lib.hid ho; have HB := Lib.hid hb
    obtain ⟨q, hq⟩ : ∃ q, r + j = q := ⟨_, rfl⟩
    rw [hq] at ho hj
    have HQ := Lib.hid hq
    have HOQ := Lib.hid ho
    rw [hq]
    clear ho hb hq
    by_cases hjn : q < n
    · have hji : (q : Int) < (n : Int) := by omega
      have hsz := HB.out.size
      go_wp2_with (at_builtin; refine wpList_append_rd _ rfl (.tmp 26) (.tmp 27) 22 rfl w.heap.size 5 i0 (.int .u8 0) 1 1 Try.underlying22 hi hz0 hz1 hz2 rfl (by decide) _ q _ rfl (HOQ.out.alloc _) _ 1 _ [.int .u8 0] rfl rfl (Rd.new _ _ _) ?d2 ?d3 ?d4 ?d5 ?_)
      case d2 => intro u hu; simp at hu; subst hu; rfl
      case d3 => unfold maxLen; omega
      case d4 => omega
      case d5 => simp; omega
      intro v5 w5 hown5 hg5
      have hb5 := below_own (HB.out.alloc hsz (.cells #[.int .u8 0] 5)) (HOQ.out.alloc _) hg5 (by simp; omega)
      obtain ⟨A5, c5, rfl, _⟩ := own_form3 hown5
      have HO5 := Lib.hid (show w5.ownsRow w.heap.size 5 1 (.slice A5 (r + (j + 1)) c5) (r + (j + 1)) (bcs (im ++ zs (j + 1))) by
        rw [← zs_snoc, ← List.append_assoc, bcs_append]
        rw [show r + (j + 1) = q + 1 by have := HQ.out; omega]
        exact hown5)
      have HB5 := Lib.hid hb5
      clear hown5 hg5 hb5
      go_wp2_with fail
      go_roundw
      case rel => exact ⟨j + 1, A5, c5, by have := HQ.out; omega, by rw [← HQ.out, Nat.add_assoc], HO5.out, HB5.out⟩
      case measure => simp; omega
    · obtain rfl : q = n := by omega
      have hji : ¬ (q : Int) < (q : Int) := by omega
      go_wp2_with fail
      refine ret_tmp2 rfl rfl ⟨_, rfl, CopyOf.of_own ?_ HB.out⟩
      have h := HOQ.out
      have e : fillL q im = im ++ zs j := by unfold fillL; rw [HRI.out]; congr 2; have := HQ.out; omega
      rw [e]
      have e2 : (im ++ zs j).length = q := by simp [zs_length, HRI.out, HQ.out]
      rw [e2]
      exact h
end Go.Proofs.Ytjliaojanmbicaa.phys
