/- memory.Write's closure. -/
import Derived.Test.YtjliaojanmbicaaRows
import Derived.Test.YtjliaojanmbicaaMemJ
import Derived.StillTailTactics
namespace Go.Proofs.Ytjliaojanmbicaa.mem
open Go Go.ChangeShapes Go.WideShapes Go.ChangeAt Go.RowKit
theorem copy_down {l : List UInt8} {w X w' : World} {v : Value} (hX : Below w.heap.size w X) (h : CopyOf l X v w') : CopyOf l w v w' := by
  obtain ⟨A, c, rfl, ho, hb⟩ := h
  refine ⟨A, c, rfl, ⟨ho.1, ?_⟩, hX.trans (hb.mono hX.size)⟩
  rcases ho.2 with hn | ⟨g, cap, cur, hv, hb0, rest⟩
  · exact .inl hn
  · exact .inr ⟨g, cap, cur, hv, Nat.le_trans hX.size hb0, rest⟩
set_option maxHeartbeats 4000000 in
/-- The closure, where the three parts are told: m[:a], b, m[a+len(b):]. -/
theorem wtell (l1 l2 l3 : List UInt8) (s0 : Value) (b1 b2 b3 b off a n c m d : Nat) (A2 : Option Addr) (hn : n = l1.length + l2.length + l3.length) (ha : l1.length = a) (hm : l2.length = m) (h6 : n ≤ 600) (hc : n ≤ c) (hne : ¬ c = a + m) (w : World) (k1 : w.cell? ⟨b1, 0, none⟩ = some (.slice (some ⟨b, off, none⟩) n c)) (k2 : w.cell? ⟨b2, 0, none⟩ = some (.int .i64 a)) (k3 : w.cell? ⟨b3, 0, none⟩ = some (.slice A2 m d))
    (r1 : Rd w (some ⟨b, off, none⟩) (bcs l1)) (r2 : Rd w A2 (bcs l2)) (r3 : Rd w (some ⟨b, off + (a + m), none⟩) (bcs l3)) :
    Calls Try.prog 35 #[s0, .pointer (some ⟨b1, 0, none⟩), .pointer (some ⟨b2, 0, none⟩), .pointer (some ⟨b3, 0, none⟩)] w fun e w' => ∃ v, e = .returned v ∧ CopyOf (l1 ++ l2 ++ l3) w v w' := by
  have hl3 : l3.length = n - (a + m) := by omega
  have H : Calls Try.prog 36 #[.slice (some ⟨w.heap.size, 0, none⟩) 3 3] (w.alloc (.cells #[.slice (some ⟨b, off, none⟩) a c, .slice A2 m d, .slice (some ⟨b, off + (a + m), none⟩) (n - (a + m)) (c - (a + m))] 22)).drew fun e w' => ∃ v, e = .returned v ∧ CopyOf (l1 ++ l2 ++ l3) w v w' := by
    have hX : Below w.heap.size w (w.alloc (.cells #[.slice (some ⟨b, off, none⟩) a c, .slice A2 m d, .slice (some ⟨b, off + (a + m), none⟩) (n - (a + m)) (c - (a + m))] 22)).drew := ((Below.refl _ _).alloc (Nat.le_refl _) _).drew
    have hcat := cat3 l1 l2 l3 w.heap.size (some ⟨b, off, none⟩) A2 (some ⟨b, off + (a + m), none⟩) c d (c - (a + m)) (by omega) (by omega) (by omega) (w.alloc (.cells #[.slice (some ⟨b, off, none⟩) a c, .slice A2 m d, .slice (some ⟨b, off + (a + m), none⟩) (n - (a + m)) (c - (a + m))] 22)).drew
      (by rw [ha, hm, hl3]; exact Rd.new w #[.slice (some ⟨b, off, none⟩) a c, .slice A2 m d, .slice (some ⟨b, off + (a + m), none⟩) (n - (a + m)) (c - (a + m))] _) (r1.below hX) (r2.below hX) (r3.below hX)
    exact hcat.mono fun e w' ⟨v, he, hv⟩ => ⟨v, he, copy_down hX hv⟩
  have e1 : (a : Int) ≤ (c : Int) := by omega
  have e2 : (a : Int) + (m : Int) ≤ (n : Int) := by omega
  have e3 : (n : Int) ≤ 600 := by omega
  have e4 : (n : Int) ≤ (c : Int) := by omega
  have e5 : ((a : Int) + (m : Int)).toNat = a + m := by omega
  have e6 : ¬ c = 0 := by omega
  have e8 : (0 : Int) ≤ (a : Int) + (m : Int) := by omega
  have e7 : IntKind.i64.wrap ((a : Int) + (m : Int)) = (a : Int) + (m : Int) := IntWalk.i64_in _ (by omega)
  have HH := Lib.hid H; clear H hn ha hm h6 hc r1 r2 r3 hl3
  go_enter Try.func35, Try.ntmps35
  go_wp2_with fail
  go_still_tail 10, (by kernel_rfl)
  go_wp2_with fail
  refine HH.out.mono ?_
  rintro e w2 ⟨v, rfl, hv⟩
  have HV := Lib.hid hv; clear hv
  go_wp2
  go_ret
  exact ⟨_, rfl, HV.out⟩
end Go.Proofs.Ytjliaojanmbicaa.mem
