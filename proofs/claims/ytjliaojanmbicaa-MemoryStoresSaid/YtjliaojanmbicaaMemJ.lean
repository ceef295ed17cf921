/- memory.cat of three. -/
import Derived.Test.YtjliaojanmbicaaRows
import Derived.Test.YtjliaojanmbicaaMemI
namespace Go.Proofs.Ytjliaojanmbicaa.mem
open Go Go.ChangeShapes Go.WideShapes Go.ChangeAt Go.RowKit
theorem cat3 (l1 l2 l3 : List UInt8) (g : Nat) (A1 A2 A3 : Option Addr) (c1 c2 c3 : Nat) (h1 : l1.length ≤ 1000) (h2 : l2.length ≤ 1000) (h3 : l3.length ≤ 1000) (w : World) (h : Rd w (some ⟨g, 0, none⟩) [.slice A1 l1.length c1, .slice A2 l2.length c2, .slice A3 l3.length c3])
    (r1 : Rd w A1 (bcs l1)) (r2 : Rd w A2 (bcs l2)) (r3 : Rd w A3 (bcs l3)) :
    Calls Try.prog 36 #[.slice (some ⟨g, 0, none⟩) 3 3] w fun e w' => ∃ v, e = .returned v ∧ CopyOf (l1 ++ l2 ++ l3) w v w' := by
  have H := Lib.hid (concat3 l1 l2 l3 g A1 A2 A3 c1 c2 c3 h1 h2 h3 w h r1 r2 r3)
  clear h r1 r2 r3 h1 h2 h3
  go_enter Try.func36, Try.ntmps36
  go_wp2_with fail
  refine H.out.mono ?_
  rintro e w1 ⟨v, rfl, hv⟩
  have HV := Lib.hid hv; clear hv
  go_wp2
  go_ret
  exact ⟨_, rfl, HV.out⟩
end Go.Proofs.Ytjliaojanmbicaa.mem
