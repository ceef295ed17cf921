/- slices.Concat of three. -/
import Derived.Test.YtjliaojanmbicaaRows
import Derived.Test.YtjliaojanmbicaaMemH
import Derived.LoopN
namespace Go.Proofs.Ytjliaojanmbicaa.mem
open Go Go.ChangeShapes Go.WideShapes Go.ChangeAt Go.RowKit
theorem grow_any (n : Nat) (hn : n ≤ 1000000) (w : World) : Calls Try.prog 49 #[.slice none 0 0, .int .i64 n] w fun e w' => ∃ v, e = .returned v ∧ w'.ownsRow w.heap.size 5 1 v 0 [] ∧ Below w.heap.size w w' := by
  by_cases h : n = 0
  · subst h
    go_enter Try.func49, Try.ntmps49
    go_wp2
    go_ret
    exact ⟨_, rfl, World.ownsRow_nil _ _ _ _, Below.refl _ _⟩
  · exact grow n (by omega) hn w
set_option maxHeartbeats 4000000 in
theorem concat3 (l1 l2 l3 : List UInt8) (g : Nat) (A1 A2 A3 : Option Addr) (c1 c2 c3 : Nat) (h1 : l1.length ≤ 1000) (h2 : l2.length ≤ 1000) (h3 : l3.length ≤ 1000) (w : World) (h : Rd w (some ⟨g, 0, none⟩) [.slice A1 l1.length c1, .slice A2 l2.length c2, .slice A3 l3.length c3])
    (r1 : Rd w A1 (bcs l1)) (r2 : Rd w A2 (bcs l2)) (r3 : Rd w A3 (bcs l3)) :
    Calls Try.prog 45 #[.slice (some ⟨g, 0, none⟩) 3 3] w fun e w' => ∃ v, e = .returned v ∧ CopyOf (l1 ++ l2 ++ l3) w v w' := by
  have k0 := h.cell (j := 0) rfl; have k1 := h.cell (j := 1) rfl; have k2 := h.cell (j := 2) rfl
  rw [Nat.zero_add] at k0 k1 k2
  have G := grow_any (l1.length + l2.length + l3.length) (by omega)
  rw [show ((l1.length + l2.length + l3.length : Nat) : Int) = (l1.length : Int) + (l2.length : Int) + (l3.length : Int) by omega] at G
  have q1 := bcs_length l1; have q2 := bcs_length l2; have q3 := bcs_length l3
  have o1 := bcs_one l1; have o2 := bcs_one l2; have o3 := bcs_one l3
  have e1 : (l1.length : Int) ≤ 1000 := by omega
  have e2 : (l2.length : Int) ≤ 1000 := by omega
  have e3 : (l3.length : Int) ≤ 1000 := by omega
  obtain ⟨i0, hi, hz0, hz1, hz2⟩ := info_parts info_byte
  have HF := Lib.hid (show (bcs l1 ++ bcs l2 ++ bcs l3 = bcs (l1 ++ l2 ++ l3)) ∧ (l1.length + l2.length + l3.length = (l1 ++ l2 ++ l3).length) by simp [bcs, Lib.byteCells]; omega)
  generalize (l1 ++ l2 ++ l3) = L at *
  generalize bcs l1 = x1 at *
  generalize bcs l2 = x2 at *
  generalize bcs l3 = x3 at *
  generalize l1.length = n1 at *
  generalize l2.length = n2 at *
  generalize l3.length = n3 at *
  have HG := Lib.hid G; have Q1 := Lib.hid q1; have Q2 := Lib.hid q2; have Q3 := Lib.hid q3; have HH := Lib.hid h
  clear G q1 q2 q3 h h1 h2 h3
  go_enter Try.func45, Try.ntmps45
  go_wp2_with fail
  refine wp_loop_rounds 4 ?_
  rw [rounds_succ]; go_wp2_with fail
  rw [rounds_succ]; go_wp2_with fail
  rw [rounds_succ]; go_wp2_with fail
  rw [rounds_succ]; go_wp2_with fail
  refine (HG.out _).mono ?_
  rintro e w1 ⟨v, rfl, hown, b1⟩
  have HB1 := Lib.hid b1; have HO1 := Lib.hid hown
  have R1 := Lib.hid r1; have R2 := Lib.hid r2; have R3 := Lib.hid r3
  obtain ⟨A0, c0, rfl, _, _⟩ := own_form hown
  clear k0 k1 k2 r1 r2 r3 b1 hown
  have k0 := (HH.out.below HB1.out).cell (j := 0) rfl
  rw [Nat.zero_add] at k0
  go_wp2_with fail
  refine wp_loop_rounds 4 ?_
  rw [rounds_succ]
  go_wp2_with (at_builtin; refine wpList_append_rd _ rfl (.tmp 31) (.tmp 32) 22 rfl w.heap.size 5 i0 (.int .u8 0) 1 1 Try.underlying22 hi hz0 hz1 hz2 rfl (by decide) _ (0) ([]) rfl HO1.out _ n1 _ x1 rfl (by rw [Q1.out]; omega) (R1.out.below HB1.out) o1 ?a1 ?b1 HB1.out.size ?_)
  case a1 => unfold maxLen; omega
  case b1 => omega
  intro v1 w2 hown hg
  have hb := below_own HB1.out HO1.out hg HB1.out.size
  have HB2 := Lib.hid hb; have HO2 := Lib.hid hown
  obtain ⟨A1', c1', rfl, _, _⟩ := own_form hown
  have m1 := (HH.out.below hb).cell (j := 1) rfl
  rw [Nat.zero_add] at m1
  clear hb hown hg
  go_wp2_with fail
  rw [rounds_succ]
  go_wp2_with (at_builtin; refine wpList_append_rd _ rfl (.tmp 31) (.tmp 32) 22 rfl w.heap.size 5 i0 (.int .u8 0) 1 1 Try.underlying22 hi hz0 hz1 hz2 rfl (by decide) _ n1 x1 rfl HO2.out _ n2 _ x2 rfl (by rw [Q2.out]; omega) (R2.out.below HB2.out) o2 ?a2 ?b2 HB2.out.size ?_)
  case a2 => unfold maxLen; omega
  case b2 => omega
  intro v2 w3 hown hg
  have hb := below_own HB2.out HO2.out hg HB2.out.size
  have HB3 := Lib.hid hb; have HO3 := Lib.hid hown
  obtain ⟨A2', c2', rfl, _, _⟩ := own_form hown
  have m2 := (HH.out.below hb).cell (j := 2) rfl
  rw [Nat.zero_add] at m2
  clear hb hown hg
  go_wp2_with fail
  rw [rounds_succ]
  go_wp2_with (at_builtin; refine wpList_append_rd _ rfl (.tmp 31) (.tmp 32) 22 rfl w.heap.size 5 i0 (.int .u8 0) 1 1 Try.underlying22 hi hz0 hz1 hz2 rfl (by decide) _ (n1 + n2) (x1 ++ x2) rfl HO3.out _ n3 _ x3 rfl (by rw [Q3.out]; omega) (R3.out.below HB3.out) o3 ?a3 ?b3 HB3.out.size ?_)
  case a3 => unfold maxLen; omega
  case b3 => omega
  intro v3 w4 hown hg
  have hb := below_own HB3.out HO3.out hg HB3.out.size
  rw [← List.append_assoc, HF.out.1, HF.out.2] at hown
  obtain ⟨A3', c3', rfl, _, _⟩ := own_form hown
  have HB4 := Lib.hid hb; have HO4 := Lib.hid hown
  clear hb hown hg
  go_wp2_with fail
  rw [rounds_succ]; go_wp2_with fail
  go_ret
  exact ⟨_, rfl, _, _, rfl, HO4.out, HB4.out⟩
end Go.Proofs.Ytjliaojanmbicaa.mem
