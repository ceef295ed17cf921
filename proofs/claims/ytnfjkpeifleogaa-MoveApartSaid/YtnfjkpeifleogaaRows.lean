/-
  No cell of these rows narrows 'for every input' (looked for: loops, veiled, ifaces, maps, wideKeys, modest, calm, conditions, laid).
  DERIVED. THE GIVEN ROWS OF THIS SEAT. 5 by the template 'for every input the law returns true; each argument reads behind the call as it read before'; 0 by the template 'total and deterministic' (their statements: YtnfjkpeifleogaaTotals.lean).
  GIVEN WITH THE SEED: the statements are not yours to turn. If you find one false, say at which input.
  Laid BY PROGRAM, IN A SANDBOX (cutbox-rows.mjs): the forced cells as the released guide's own fill.sh prints them over the translation cc6995bacf52b8f4… (all of the seat's roots in one cut). By AI agents, Wed Nov 11 2026. No macro, syntax, notation, axiom, sorry.
-/
import Derived.Test.YtnfjkpeifleogaaChecked
import GoSem.Claim
import GoSem.ClaimJoined
import GoSem.ClaimMapViews
import Derived.JoinedTies
import Derived.KernelRfl
namespace Go.Proofs.Ytnfjkpeifleogaa
/- THE CELL 'sum', in the pinned program and in every row, IS THE sha256 OF THE DUMP (.gsa) THAT YtnfjkpeifleogaaProg.lean LOADS. Nothing in Lean hashes anything: it is a label: what it is worth is what the hold of that sum in a sandbox is worth. -/
noncomputable def Try.pinned : Pinned := { name := "ytnfjkpeifleogaa", sum := "cc6995bacf52b8f44bf9c3b49d8bc17fa633c084e25bb2ab5ec26f82e616269c", checked := Try.checked }
namespace Rows
def none {H : Type} : Left H := { results := [], args := [] }

/-- 'citadellaw24.MoveKeeps': WHATEVER THE INPUT: true; the input reads as it did. -/
def moveKeepsSpec : ChangeSpec := { name := "moveKeeps", fn := fun _ => fun
  | [d1, d2] => { results := [.lit (.bool true)], args := [d1, d2] }
  | _ => none }
def moveKeepsRow : OpenClaim := { program := "ytnfjkpeifleogaa", sum := "cc6995bacf52b8f44bf9c3b49d8bc17fa633c084e25bb2ab5ec26f82e616269c", func := "citadel/citadellaw24.MoveKeeps", spec := "moveKeeps", unfollowed := true, recurses := true, apart := false }
def MoveKeepsSaid : Prop := moveKeepsRow.holds Try.pinned (OpenSpec.ofChange moveKeepsSpec)

/-- ITS FALSE NEIGHBOUR: 'it returns false'. Refute it at one input. -/
def moveKeepsWrong : ChangeSpec := { name := "moveKeeps", fn := fun _ => fun
  | [d1, d2] => { results := [.lit (.bool false)], args := [d1, d2] }
  | _ => none }
def MoveKeepsWrongFalsely : Prop := moveKeepsRow.holds Try.pinned (OpenSpec.ofChange moveKeepsWrong)

/-- 'citadellaw24.MoveBack': WHATEVER THE INPUT: true; the input reads as it did. -/
def moveBackSpec : ChangeSpec := { name := "moveBack", fn := fun _ => fun
  | [d1, d2, d3] => { results := [.lit (.bool true)], args := [d1, d2, d3] }
  | _ => none }
def moveBackRow : OpenClaim := { program := "ytnfjkpeifleogaa", sum := "cc6995bacf52b8f44bf9c3b49d8bc17fa633c084e25bb2ab5ec26f82e616269c", func := "citadel/citadellaw24.MoveBack", spec := "moveBack", unfollowed := true, recurses := true, apart := false }
def MoveBackSaid : Prop := moveBackRow.holds Try.pinned (OpenSpec.ofChange moveBackSpec)

/-- ITS FALSE NEIGHBOUR: 'it returns false'. Refute it at one input. -/
def moveBackWrong : ChangeSpec := { name := "moveBack", fn := fun _ => fun
  | [d1, d2, d3] => { results := [.lit (.bool false)], args := [d1, d2, d3] }
  | _ => none }
def MoveBackWrongFalsely : Prop := moveBackRow.holds Try.pinned (OpenSpec.ofChange moveBackWrong)

/-- 'citadellaw24.MoveApart': WHATEVER THE INPUT: true; the input reads as it did. -/
def moveApartSpec : ChangeSpec := { name := "moveApart", fn := fun _ => fun
  | [d1, d2, d3, d4] => { results := [.lit (.bool true)], args := [d1, d2, d3, d4] }
  | _ => none }
def moveApartRow : OpenClaim := { program := "ytnfjkpeifleogaa", sum := "cc6995bacf52b8f44bf9c3b49d8bc17fa633c084e25bb2ab5ec26f82e616269c", func := "citadel/citadellaw24.MoveApart", spec := "moveApart", unfollowed := true, recurses := true, apart := false }
def MoveApartSaid : Prop := moveApartRow.holds Try.pinned (OpenSpec.ofChange moveApartSpec)

/-- ITS FALSE NEIGHBOUR: 'it returns false'. Refute it at one input. -/
def moveApartWrong : ChangeSpec := { name := "moveApart", fn := fun _ => fun
  | [d1, d2, d3, d4] => { results := [.lit (.bool false)], args := [d1, d2, d3, d4] }
  | _ => none }
def MoveApartWrongFalsely : Prop := moveApartRow.holds Try.pinned (OpenSpec.ofChange moveApartWrong)

/-- 'citadellaw24.MoveMoves': WHATEVER THE INPUT: true; the input reads as it did. -/
def moveMovesSpec : ChangeSpec := { name := "moveMoves", fn := fun _ => fun
  | [d1, d2] => { results := [.lit (.bool true)], args := [d1, d2] }
  | _ => none }
def moveMovesRow : OpenClaim := { program := "ytnfjkpeifleogaa", sum := "cc6995bacf52b8f44bf9c3b49d8bc17fa633c084e25bb2ab5ec26f82e616269c", func := "citadel/citadellaw24.MoveMoves", spec := "moveMoves", unfollowed := true, recurses := true, apart := false }
def MoveMovesSaid : Prop := moveMovesRow.holds Try.pinned (OpenSpec.ofChange moveMovesSpec)

/-- ITS FALSE NEIGHBOUR: 'it returns false'. Refute it at one input. -/
def moveMovesWrong : ChangeSpec := { name := "moveMoves", fn := fun _ => fun
  | [d1, d2] => { results := [.lit (.bool false)], args := [d1, d2] }
  | _ => none }
def MoveMovesWrongFalsely : Prop := moveMovesRow.holds Try.pinned (OpenSpec.ofChange moveMovesWrong)

/-- 'citadellaw24.MoveChannels': WHATEVER THE INPUT: true; the input reads as it did. -/
def moveChannelsSpec : ChangeSpec := { name := "moveChannels", fn := fun _ => fun
  | [d1, d2] => { results := [.lit (.bool true)], args := [d1, d2] }
  | _ => none }
def moveChannelsRow : OpenClaim := { program := "ytnfjkpeifleogaa", sum := "cc6995bacf52b8f44bf9c3b49d8bc17fa633c084e25bb2ab5ec26f82e616269c", func := "citadel/citadellaw24.MoveChannels", spec := "moveChannels", unfollowed := true, recurses := true, apart := false }
def MoveChannelsSaid : Prop := moveChannelsRow.holds Try.pinned (OpenSpec.ofChange moveChannelsSpec)

/-- ITS FALSE NEIGHBOUR: 'it returns false'. Refute it at one input. -/
def moveChannelsWrong : ChangeSpec := { name := "moveChannels", fn := fun _ => fun
  | [d1, d2] => { results := [.lit (.bool false)], args := [d1, d2] }
  | _ => none }
def MoveChannelsWrongFalsely : Prop := moveChannelsRow.holds Try.pinned (OpenSpec.ofChange moveChannelsWrong)

/- THE SECOND FORM. 'bulk': how many values and letters a reading holds, each counted each time it is reached (what is shared counts as often as it is met; a slice's spare places count too). A statement '..UptoSaid' is the law's where the arguments, and the package variables that the reading takes, are together of bulk at most 1048576: NARROWER than '..Said'. Prove '..Said' where nothing that the law and all that it calls make is longer than what came in: it says more and counts as full. Else prove '..UptoSaid'. A law counts once. -/
mutual
def uptoBulk {H : Type} : DataW H → Nat
  | .lit (.string bytes) => bytes.length + 1
  | .lit _ => 1
  | .nil => 1
  | .ptr d => uptoBulk d + 1
  | .slice elems spare => uptoBulkAll elems + uptoBulkAll spare + 1
  | .agg parts => uptoBulkAll parts + 1
  | .iface _ d => uptoBulk d + 1
  | .map entries => uptoBulkEntries entries + 1
  | .held _ => 1
def uptoBulkAll {H : Type} : List (DataW H) → Nat
  | [] => 0
  | d :: r => uptoBulk d + uptoBulkAll r
def uptoBulkEntries {H : Type} : List (Lit × DataW H) → Nat
  | [] => 0
  | x :: r => uptoBulkEntry x + uptoBulkEntries r
def uptoBulkEntry {H : Type} : Lit × DataW H → Nat
  | (.string bytes, d) => bytes.length + uptoBulk d + 1
  | (_, d) => uptoBulk d + 1
 end
def uptoSmall : (H : Type) → List (DataW H) → Bool := fun _ ds => decide (uptoBulkAll ds ≤ 1048576)
def OpenSpec.upto (s : _root_.Go.ChangeSpec) : _root_.Go.OpenSpec := { _root_.Go.OpenSpec.ofChange s with cond := some uptoSmall }

/-- 'citadellaw24.MoveKeeps', WHERE WHAT IT READS IS OF BULK AT MOST 1048576: true; the input reads as it did. -/
def moveKeepsUptoRow : OpenClaim := { program := "ytnfjkpeifleogaa", sum := "cc6995bacf52b8f44bf9c3b49d8bc17fa633c084e25bb2ab5ec26f82e616269c", func := "citadel/citadellaw24.MoveKeeps", spec := "moveKeeps", unfollowed := true, recurses := true, apart := false, narrowed := true }
def MoveKeepsUptoSaid : Prop := moveKeepsUptoRow.holds Try.pinned (OpenSpec.upto moveKeepsSpec)

/-- 'citadellaw24.MoveBack', WHERE WHAT IT READS IS OF BULK AT MOST 1048576: true; the input reads as it did. -/
def moveBackUptoRow : OpenClaim := { program := "ytnfjkpeifleogaa", sum := "cc6995bacf52b8f44bf9c3b49d8bc17fa633c084e25bb2ab5ec26f82e616269c", func := "citadel/citadellaw24.MoveBack", spec := "moveBack", unfollowed := true, recurses := true, apart := false, narrowed := true }
def MoveBackUptoSaid : Prop := moveBackUptoRow.holds Try.pinned (OpenSpec.upto moveBackSpec)

/-- 'citadellaw24.MoveApart', WHERE WHAT IT READS IS OF BULK AT MOST 1048576: true; the input reads as it did. -/
def moveApartUptoRow : OpenClaim := { program := "ytnfjkpeifleogaa", sum := "cc6995bacf52b8f44bf9c3b49d8bc17fa633c084e25bb2ab5ec26f82e616269c", func := "citadel/citadellaw24.MoveApart", spec := "moveApart", unfollowed := true, recurses := true, apart := false, narrowed := true }
def MoveApartUptoSaid : Prop := moveApartUptoRow.holds Try.pinned (OpenSpec.upto moveApartSpec)

/-- 'citadellaw24.MoveMoves', WHERE WHAT IT READS IS OF BULK AT MOST 1048576: true; the input reads as it did. -/
def moveMovesUptoRow : OpenClaim := { program := "ytnfjkpeifleogaa", sum := "cc6995bacf52b8f44bf9c3b49d8bc17fa633c084e25bb2ab5ec26f82e616269c", func := "citadel/citadellaw24.MoveMoves", spec := "moveMoves", unfollowed := true, recurses := true, apart := false, narrowed := true }
def MoveMovesUptoSaid : Prop := moveMovesUptoRow.holds Try.pinned (OpenSpec.upto moveMovesSpec)

/-- 'citadellaw24.MoveChannels', WHERE WHAT IT READS IS OF BULK AT MOST 1048576: true; the input reads as it did. -/
def moveChannelsUptoRow : OpenClaim := { program := "ytnfjkpeifleogaa", sum := "cc6995bacf52b8f44bf9c3b49d8bc17fa633c084e25bb2ab5ec26f82e616269c", func := "citadel/citadellaw24.MoveChannels", spec := "moveChannels", unfollowed := true, recurses := true, apart := false, narrowed := true }
def MoveChannelsUptoSaid : Prop := moveChannelsUptoRow.holds Try.pinned (OpenSpec.upto moveChannelsSpec)

end Rows
end Go.Proofs.Ytnfjkpeifleogaa
