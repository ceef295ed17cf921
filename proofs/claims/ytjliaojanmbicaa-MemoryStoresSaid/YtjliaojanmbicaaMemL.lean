/- memory.Write's closure: the part behind is empty at the row's end; the nil memory. -/
import Derived.Test.YtjliaojanmbicaaRows
import Derived.Test.YtjliaojanmbicaaMemK
import Derived.StillTailTactics
namespace Go.Proofs.Ytjliaojanmbicaa.mem
open Go Go.ChangeShapes Go.WideShapes Go.ChangeAt Go.RowKit
set_option maxHeartbeats 4000000 in
theorem wtell_end (l1 l2 : List UInt8) (s0 : Value) (b1 b2 b3 b off a m c d : Nat) (A2 : Option Addr) (ha : l1.length = a) (hm : l2.length = m) (hc : a + m = c) (h6 : c ≤ 600) (hp : 0 < c) (w : World) (k1 : w.cell? ⟨b1, 0, none⟩ = some (.slice (some ⟨b, off, none⟩) c c)) (k2 : w.cell? ⟨b2, 0, none⟩ = some (.int .i64 a)) (k3 : w.cell? ⟨b3, 0, none⟩ = some (.slice A2 m d))
    (r2 : Rd w A2 (bcs l2)) (r1 : Rd w (some ⟨b, off, none⟩) (bcs l1)) :
    Calls Try.prog 35 #[s0, .pointer (some ⟨b1, 0, none⟩), .pointer (some ⟨b2, 0, none⟩), .pointer (some ⟨b3, 0, none⟩)] w fun e w' => ∃ v, e = .returned v ∧ CopyOf (l1 ++ l2 ++ []) w v w' := by
  have H : Calls Try.prog 36 #[.slice (some ⟨w.heap.size, 0, none⟩) 3 3] (w.alloc (.cells #[.slice (some ⟨b, off, none⟩) a c, .slice A2 m d, .slice (some ⟨b, off, none⟩) 0 0] 22)).drew fun e w' => ∃ v, e = .returned v ∧ CopyOf (l1 ++ l2 ++ []) w v w' := by
    have hX : Below w.heap.size w (w.alloc (.cells #[.slice (some ⟨b, off, none⟩) a c, .slice A2 m d, .slice (some ⟨b, off, none⟩) 0 0] 22)).drew := ((Below.refl _ _).alloc (Nat.le_refl _) _).drew
    have hcat := cat3 l1 l2 [] w.heap.size (some ⟨b, off, none⟩) A2 (some ⟨b, off, none⟩) c d 0 (by omega) (by omega) (by simp) (w.alloc (.cells #[.slice (some ⟨b, off, none⟩) a c, .slice A2 m d, .slice (some ⟨b, off, none⟩) 0 0] 22)).drew
      (by rw [ha, hm]; exact Rd.new w #[.slice (some ⟨b, off, none⟩) a c, .slice A2 m d, .slice (some ⟨b, off, none⟩) 0 0] _) (r1.below hX) (r2.below hX) Rd.nil
    exact hcat.mono fun e w' ⟨v, he, hv⟩ => ⟨v, he, copy_down hX hv⟩
  have e1 : (a : Int) ≤ (c : Int) := by omega
  have e2 : (a : Int) + (m : Int) ≤ (c : Int) := by omega
  have e3 : (c : Int) ≤ 600 := by omega
  have e5 : ((a : Int) + (m : Int)).toNat = c := by omega
  have e6 : ¬ c = 0 := by omega
  have e8 : (0 : Int) ≤ (a : Int) + (m : Int) := by omega
  have e7 : IntKind.i64.wrap ((a : Int) + (m : Int)) = (a : Int) + (m : Int) := IntWalk.i64_in _ (by omega)
  have HH := Lib.hid H; clear H ha hm h6 hp hc r1 r2
  go_enter Try.func35, Try.ntmps35
  go_wp2_with fail
  go_still_tail 10, (by kernel_rfl)
  go_wp2_with fail
  refine HH.out.mono ?_
  rintro e w2 ⟨v, rfl, hv⟩
  have HV := Lib.hid hv; clear hv
  go_wp2
  go_ret
  exact ⟨_, rfl, HV.out⟩
end Go.Proofs.Ytjliaojanmbicaa.mem
