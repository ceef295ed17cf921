/-
  No cell of these rows narrows 'for every input' (looked for: loops, veiled, ifaces, maps, wideKeys, modest, calm, conditions, laid).
  DERIVED. THE GIVEN ROWS OF THIS SEAT. 5 by the template 'for every input the law returns true; each argument reads behind the call as it read before'; 0 by the template 'total and deterministic' (their statements: YtcgpndjidommlaaTotals.lean).
  GIVEN WITH THE SEED: the statements are not yours to turn. If you find one false, say at which input.
  Laid BY PROGRAM, IN A SANDBOX (cutbox-rows.mjs): the forced cells as the released guide's own fill.sh prints them over the translation 675650255dcffd81… (all of the seat's roots in one cut). By AI agents, Wed Nov 11 2026. No macro, syntax, notation, axiom, sorry.
-/
import Derived.Test.YtcgpndjidommlaaChecked
import GoSem.Claim
import GoSem.ClaimJoined
import GoSem.ClaimMapViews
import Derived.JoinedTies
import Derived.KernelRfl
namespace Go.Proofs.Ytcgpndjidommlaa
/- THE CELL 'sum', in the pinned program and in every row, IS THE sha256 OF THE DUMP (.gsa) THAT YtcgpndjidommlaaProg.lean LOADS. Nothing in Lean hashes anything: it is a label: what it is worth is what the hold of that sum in a sandbox is worth. -/
noncomputable def Try.pinned : Pinned := { name := "ytcgpndjidommlaa", sum := "675650255dcffd81a317ccb7d222f98888ac89e102c16747b10627211ceb6c96", checked := Try.checked }
namespace Rows
def none {H : Type} : Left H := { results := [], args := [] }

/-- 'citadellaw08.RegionOne': WHATEVER THE INPUT: true; the input reads as it did. -/
def regionOneSpec : ChangeSpec := { name := "regionOne", fn := fun _ => fun
  | [d1, d2, d3] => { results := [.lit (.bool true)], args := [d1, d2, d3] }
  | _ => none }
def regionOneRow : OpenClaim := { program := "ytcgpndjidommlaa", sum := "675650255dcffd81a317ccb7d222f98888ac89e102c16747b10627211ceb6c96", func := "citadel/citadellaw08.RegionOne", spec := "regionOne", unfollowed := true, recurses := true, apart := false }
def RegionOneSaid : Prop := regionOneRow.holds Try.pinned (OpenSpec.ofChange regionOneSpec)

/-- ITS FALSE NEIGHBOUR: 'it returns false'. Refute it at one input. -/
def regionOneWrong : ChangeSpec := { name := "regionOne", fn := fun _ => fun
  | [d1, d2, d3] => { results := [.lit (.bool false)], args := [d1, d2, d3] }
  | _ => none }
def RegionOneWrongFalsely : Prop := regionOneRow.holds Try.pinned (OpenSpec.ofChange regionOneWrong)

/-- 'citadellaw08.RegionAll': WHATEVER THE INPUT: true; the input reads as it did. -/
def regionAllSpec : ChangeSpec := { name := "regionAll", fn := fun _ => fun
  | [d1, d2, d3] => { results := [.lit (.bool true)], args := [d1, d2, d3] }
  | _ => none }
def regionAllRow : OpenClaim := { program := "ytcgpndjidommlaa", sum := "675650255dcffd81a317ccb7d222f98888ac89e102c16747b10627211ceb6c96", func := "citadel/citadellaw08.RegionAll", spec := "regionAll", unfollowed := true, recurses := true, apart := false }
def RegionAllSaid : Prop := regionAllRow.holds Try.pinned (OpenSpec.ofChange regionAllSpec)

/-- ITS FALSE NEIGHBOUR: 'it returns false'. Refute it at one input. -/
def regionAllWrong : ChangeSpec := { name := "regionAll", fn := fun _ => fun
  | [d1, d2, d3] => { results := [.lit (.bool false)], args := [d1, d2, d3] }
  | _ => none }
def RegionAllWrongFalsely : Prop := regionAllRow.holds Try.pinned (OpenSpec.ofChange regionAllWrong)

/-- 'citadellaw08.RegionHolder': WHATEVER THE INPUT: true; the input reads as it did. -/
def regionHolderSpec : ChangeSpec := { name := "regionHolder", fn := fun _ => fun
  | [d] => { results := [.lit (.bool true)], args := [d] }
  | _ => none }
def regionHolderRow : OpenClaim := { program := "ytcgpndjidommlaa", sum := "675650255dcffd81a317ccb7d222f98888ac89e102c16747b10627211ceb6c96", func := "citadel/citadellaw08.RegionHolder", spec := "regionHolder", unfollowed := true, recurses := true, apart := false }
def RegionHolderSaid : Prop := regionHolderRow.holds Try.pinned (OpenSpec.ofChange regionHolderSpec)

/-- ITS FALSE NEIGHBOUR: 'it returns false'. Refute it at one input. -/
def regionHolderWrong : ChangeSpec := { name := "regionHolder", fn := fun _ => fun
  | [d] => { results := [.lit (.bool false)], args := [d] }
  | _ => none }
def RegionHolderWrongFalsely : Prop := regionHolderRow.holds Try.pinned (OpenSpec.ofChange regionHolderWrong)

/-- 'citadellaw08.RegionPlaced': WHATEVER THE INPUT: true; the input reads as it did. -/
def regionPlacedSpec : ChangeSpec := { name := "regionPlaced", fn := fun _ => fun
  | [d1, d2] => { results := [.lit (.bool true)], args := [d1, d2] }
  | _ => none }
def regionPlacedRow : OpenClaim := { program := "ytcgpndjidommlaa", sum := "675650255dcffd81a317ccb7d222f98888ac89e102c16747b10627211ceb6c96", func := "citadel/citadellaw08.RegionPlaced", spec := "regionPlaced", unfollowed := true, recurses := true, apart := false }
def RegionPlacedSaid : Prop := regionPlacedRow.holds Try.pinned (OpenSpec.ofChange regionPlacedSpec)

/-- ITS FALSE NEIGHBOUR: 'it returns false'. Refute it at one input. -/
def regionPlacedWrong : ChangeSpec := { name := "regionPlaced", fn := fun _ => fun
  | [d1, d2] => { results := [.lit (.bool false)], args := [d1, d2] }
  | _ => none }
def RegionPlacedWrongFalsely : Prop := regionPlacedRow.holds Try.pinned (OpenSpec.ofChange regionPlacedWrong)

/-- 'citadellaw08.RegionApart': WHATEVER THE INPUT: true; the input reads as it did. -/
def regionApartSpec : ChangeSpec := { name := "regionApart", fn := fun _ => fun
  | [d1, d2, d3] => { results := [.lit (.bool true)], args := [d1, d2, d3] }
  | _ => none }
def regionApartRow : OpenClaim := { program := "ytcgpndjidommlaa", sum := "675650255dcffd81a317ccb7d222f98888ac89e102c16747b10627211ceb6c96", func := "citadel/citadellaw08.RegionApart", spec := "regionApart", unfollowed := true, recurses := true, apart := false }
def RegionApartSaid : Prop := regionApartRow.holds Try.pinned (OpenSpec.ofChange regionApartSpec)

/-- ITS FALSE NEIGHBOUR: 'it returns false'. Refute it at one input. -/
def regionApartWrong : ChangeSpec := { name := "regionApart", fn := fun _ => fun
  | [d1, d2, d3] => { results := [.lit (.bool false)], args := [d1, d2, d3] }
  | _ => none }
def RegionApartWrongFalsely : Prop := regionApartRow.holds Try.pinned (OpenSpec.ofChange regionApartWrong)

/- THE SECOND FORM. 'bulk': how many values and letters a reading holds, each counted each time it is reached (what is shared counts as often as it is met; a slice's spare places count too). A statement '..UptoSaid' is the law's where the arguments, and the package variables that the reading takes, are together of bulk at most 1048576: NARROWER than '..Said'. Prove '..Said' where nothing that the law and all that it calls make is longer than what came in: it says more and counts as full. Else prove '..UptoSaid'. A law counts once. -/
mutual
def uptoBulk {H : Type} : DataW H → Nat
  | .lit (.string bytes) => bytes.length + 1
  | .lit _ => 1
  | .nil => 1
  | .ptr d => uptoBulk d + 1
  | .slice elems spare => uptoBulkAll elems + uptoBulkAll spare + 1
  | .agg parts => uptoBulkAll parts + 1
  | .iface _ d => uptoBulk d + 1
  | .map entries => uptoBulkEntries entries + 1
  | .held _ => 1
def uptoBulkAll {H : Type} : List (DataW H) → Nat
  | [] => 0
  | d :: r => uptoBulk d + uptoBulkAll r
def uptoBulkEntries {H : Type} : List (Lit × DataW H) → Nat
  | [] => 0
  | x :: r => uptoBulkEntry x + uptoBulkEntries r
def uptoBulkEntry {H : Type} : Lit × DataW H → Nat
  | (.string bytes, d) => bytes.length + uptoBulk d + 1
  | (_, d) => uptoBulk d + 1
 end
def uptoSmall : (H : Type) → List (DataW H) → Bool := fun _ ds => decide (uptoBulkAll ds ≤ 1048576)
def OpenSpec.upto (s : _root_.Go.ChangeSpec) : _root_.Go.OpenSpec := { _root_.Go.OpenSpec.ofChange s with cond := some uptoSmall }

/-- 'citadellaw08.RegionOne', WHERE WHAT IT READS IS OF BULK AT MOST 1048576: true; the input reads as it did. -/
def regionOneUptoRow : OpenClaim := { program := "ytcgpndjidommlaa", sum := "675650255dcffd81a317ccb7d222f98888ac89e102c16747b10627211ceb6c96", func := "citadel/citadellaw08.RegionOne", spec := "regionOne", unfollowed := true, recurses := true, apart := false, narrowed := true }
def RegionOneUptoSaid : Prop := regionOneUptoRow.holds Try.pinned (OpenSpec.upto regionOneSpec)

/-- 'citadellaw08.RegionAll', WHERE WHAT IT READS IS OF BULK AT MOST 1048576: true; the input reads as it did. -/
def regionAllUptoRow : OpenClaim := { program := "ytcgpndjidommlaa", sum := "675650255dcffd81a317ccb7d222f98888ac89e102c16747b10627211ceb6c96", func := "citadel/citadellaw08.RegionAll", spec := "regionAll", unfollowed := true, recurses := true, apart := false, narrowed := true }
def RegionAllUptoSaid : Prop := regionAllUptoRow.holds Try.pinned (OpenSpec.upto regionAllSpec)

/-- 'citadellaw08.RegionHolder', WHERE WHAT IT READS IS OF BULK AT MOST 1048576: true; the input reads as it did. -/
def regionHolderUptoRow : OpenClaim := { program := "ytcgpndjidommlaa", sum := "675650255dcffd81a317ccb7d222f98888ac89e102c16747b10627211ceb6c96", func := "citadel/citadellaw08.RegionHolder", spec := "regionHolder", unfollowed := true, recurses := true, apart := false, narrowed := true }
def RegionHolderUptoSaid : Prop := regionHolderUptoRow.holds Try.pinned (OpenSpec.upto regionHolderSpec)

/-- 'citadellaw08.RegionPlaced', WHERE WHAT IT READS IS OF BULK AT MOST 1048576: true; the input reads as it did. -/
def regionPlacedUptoRow : OpenClaim := { program := "ytcgpndjidommlaa", sum := "675650255dcffd81a317ccb7d222f98888ac89e102c16747b10627211ceb6c96", func := "citadel/citadellaw08.RegionPlaced", spec := "regionPlaced", unfollowed := true, recurses := true, apart := false, narrowed := true }
def RegionPlacedUptoSaid : Prop := regionPlacedUptoRow.holds Try.pinned (OpenSpec.upto regionPlacedSpec)

/-- 'citadellaw08.RegionApart', WHERE WHAT IT READS IS OF BULK AT MOST 1048576: true; the input reads as it did. -/
def regionApartUptoRow : OpenClaim := { program := "ytcgpndjidommlaa", sum := "675650255dcffd81a317ccb7d222f98888ac89e102c16747b10627211ceb6c96", func := "citadel/citadellaw08.RegionApart", spec := "regionApart", unfollowed := true, recurses := true, apart := false, narrowed := true }
def RegionApartUptoSaid : Prop := regionApartUptoRow.holds Try.pinned (OpenSpec.upto regionApartSpec)

end Rows
end Go.Proofs.Ytcgpndjidommlaa
