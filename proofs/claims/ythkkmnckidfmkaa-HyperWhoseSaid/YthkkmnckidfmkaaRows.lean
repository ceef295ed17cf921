/-
  No cell of these rows narrows 'for every input' (looked for: loops, veiled, ifaces, maps, wideKeys, modest, calm, conditions, laid).
  DERIVED. THE GIVEN ROWS OF THIS SEAT. 3 by the template 'for every input the law returns true; each argument reads behind the call as it read before'; 0 by the template 'total and deterministic' (their statements: YthkkmnckidfmkaaTotals.lean).
  GIVEN WITH THE SEED: the statements are not yours to turn. If you find one false, say at which input.
  Laid BY PROGRAM, IN A SANDBOX (cutbox-rows.mjs): the forced cells as the released guide's own fill.sh prints them over the translation 4c41e34c7ffa5412… (all of the seat's roots in one cut). By AI agents, Wed Nov 11 2026. No macro, syntax, notation, axiom, sorry.
-/
import Derived.Test.YthkkmnckidfmkaaChecked
import GoSem.Claim
import GoSem.ClaimJoined
import GoSem.ClaimMapViews
import Derived.JoinedTies
import Derived.KernelRfl
namespace Go.Proofs.Ythkkmnckidfmkaa
/- THE CELL 'sum', in the pinned program and in every row, IS THE sha256 OF THE DUMP (.gsa) THAT YthkkmnckidfmkaaProg.lean LOADS. Nothing in Lean hashes anything: it is a label: what it is worth is what the hold of that sum in a sandbox is worth. -/
noncomputable def Try.pinned : Pinned := { name := "ythkkmnckidfmkaa", sum := "4c41e34c7ffa5412153700e740b010e1fdd154ad1e918d561efbd256a42e0692", checked := Try.checked }
namespace Rows
def none {H : Type} : Left H := { results := [], args := [] }

/-- 'citadellaw22.HyperBlind': WHATEVER THE INPUT: true; the input reads as it did. -/
def hyperBlindSpec : ChangeSpec := { name := "hyperBlind", fn := fun _ => fun
  | [d1, d2, d3] => { results := [.lit (.bool true)], args := [d1, d2, d3] }
  | _ => none }
def hyperBlindRow : OpenClaim := { program := "ythkkmnckidfmkaa", sum := "4c41e34c7ffa5412153700e740b010e1fdd154ad1e918d561efbd256a42e0692", func := "citadel/citadellaw22.HyperBlind", spec := "hyperBlind", unfollowed := true, recurses := true, apart := false }
def HyperBlindSaid : Prop := hyperBlindRow.holds Try.pinned (OpenSpec.ofChange hyperBlindSpec)

/-- ITS FALSE NEIGHBOUR: 'it returns false'. Refute it at one input. -/
def hyperBlindWrong : ChangeSpec := { name := "hyperBlind", fn := fun _ => fun
  | [d1, d2, d3] => { results := [.lit (.bool false)], args := [d1, d2, d3] }
  | _ => none }
def HyperBlindWrongFalsely : Prop := hyperBlindRow.holds Try.pinned (OpenSpec.ofChange hyperBlindWrong)

/-- 'citadellaw22.HyperNames': WHATEVER THE INPUT: true; the input reads as it did. -/
def hyperNamesSpec : ChangeSpec := { name := "hyperNames", fn := fun _ => fun
  | [d1, d2, d3] => { results := [.lit (.bool true)], args := [d1, d2, d3] }
  | _ => none }
def hyperNamesRow : OpenClaim := { program := "ythkkmnckidfmkaa", sum := "4c41e34c7ffa5412153700e740b010e1fdd154ad1e918d561efbd256a42e0692", func := "citadel/citadellaw22.HyperNames", spec := "hyperNames", unfollowed := true, recurses := true, apart := false }
def HyperNamesSaid : Prop := hyperNamesRow.holds Try.pinned (OpenSpec.ofChange hyperNamesSpec)

/-- ITS FALSE NEIGHBOUR: 'it returns false'. Refute it at one input. -/
def hyperNamesWrong : ChangeSpec := { name := "hyperNames", fn := fun _ => fun
  | [d1, d2, d3] => { results := [.lit (.bool false)], args := [d1, d2, d3] }
  | _ => none }
def HyperNamesWrongFalsely : Prop := hyperNamesRow.holds Try.pinned (OpenSpec.ofChange hyperNamesWrong)

/-- 'citadellaw22.HyperWhose': WHATEVER THE INPUT: true; the input reads as it did. -/
def hyperWhoseSpec : ChangeSpec := { name := "hyperWhose", fn := fun _ => fun
  | [d1, d2, d3] => { results := [.lit (.bool true)], args := [d1, d2, d3] }
  | _ => none }
def hyperWhoseRow : OpenClaim := { program := "ythkkmnckidfmkaa", sum := "4c41e34c7ffa5412153700e740b010e1fdd154ad1e918d561efbd256a42e0692", func := "citadel/citadellaw22.HyperWhose", spec := "hyperWhose", unfollowed := true, recurses := true, apart := false }
def HyperWhoseSaid : Prop := hyperWhoseRow.holds Try.pinned (OpenSpec.ofChange hyperWhoseSpec)

/-- ITS FALSE NEIGHBOUR: 'it returns false'. Refute it at one input. -/
def hyperWhoseWrong : ChangeSpec := { name := "hyperWhose", fn := fun _ => fun
  | [d1, d2, d3] => { results := [.lit (.bool false)], args := [d1, d2, d3] }
  | _ => none }
def HyperWhoseWrongFalsely : Prop := hyperWhoseRow.holds Try.pinned (OpenSpec.ofChange hyperWhoseWrong)

/- THE SECOND FORM. 'bulk': how many values and letters a reading holds, each counted each time it is reached (what is shared counts as often as it is met; a slice's spare places count too). A statement '..UptoSaid' is the law's where the arguments, and the package variables that the reading takes, are together of bulk at most 1048576: NARROWER than '..Said'. Prove '..Said' where nothing that the law and all that it calls make is longer than what came in: it says more and counts as full. Else prove '..UptoSaid'. A law counts once. -/
mutual
def uptoBulk {H : Type} : DataW H → Nat
  | .lit (.string bytes) => bytes.length + 1
  | .lit _ => 1
  | .nil => 1
  | .ptr d => uptoBulk d + 1
  | .slice elems spare => uptoBulkAll elems + uptoBulkAll spare + 1
  | .agg parts => uptoBulkAll parts + 1
  | .iface _ d => uptoBulk d + 1
  | .map entries => uptoBulkEntries entries + 1
  | .held _ => 1
def uptoBulkAll {H : Type} : List (DataW H) → Nat
  | [] => 0
  | d :: r => uptoBulk d + uptoBulkAll r
def uptoBulkEntries {H : Type} : List (Lit × DataW H) → Nat
  | [] => 0
  | x :: r => uptoBulkEntry x + uptoBulkEntries r
def uptoBulkEntry {H : Type} : Lit × DataW H → Nat
  | (.string bytes, d) => bytes.length + uptoBulk d + 1
  | (_, d) => uptoBulk d + 1
 end
def uptoSmall : (H : Type) → List (DataW H) → Bool := fun _ ds => decide (uptoBulkAll ds ≤ 1048576)
def OpenSpec.upto (s : _root_.Go.ChangeSpec) : _root_.Go.OpenSpec := { _root_.Go.OpenSpec.ofChange s with cond := some uptoSmall }

/-- 'citadellaw22.HyperBlind', WHERE WHAT IT READS IS OF BULK AT MOST 1048576: true; the input reads as it did. -/
def hyperBlindUptoRow : OpenClaim := { program := "ythkkmnckidfmkaa", sum := "4c41e34c7ffa5412153700e740b010e1fdd154ad1e918d561efbd256a42e0692", func := "citadel/citadellaw22.HyperBlind", spec := "hyperBlind", unfollowed := true, recurses := true, apart := false, narrowed := true }
def HyperBlindUptoSaid : Prop := hyperBlindUptoRow.holds Try.pinned (OpenSpec.upto hyperBlindSpec)

/-- 'citadellaw22.HyperNames', WHERE WHAT IT READS IS OF BULK AT MOST 1048576: true; the input reads as it did. -/
def hyperNamesUptoRow : OpenClaim := { program := "ythkkmnckidfmkaa", sum := "4c41e34c7ffa5412153700e740b010e1fdd154ad1e918d561efbd256a42e0692", func := "citadel/citadellaw22.HyperNames", spec := "hyperNames", unfollowed := true, recurses := true, apart := false, narrowed := true }
def HyperNamesUptoSaid : Prop := hyperNamesUptoRow.holds Try.pinned (OpenSpec.upto hyperNamesSpec)

/-- 'citadellaw22.HyperWhose', WHERE WHAT IT READS IS OF BULK AT MOST 1048576: true; the input reads as it did. -/
def hyperWhoseUptoRow : OpenClaim := { program := "ythkkmnckidfmkaa", sum := "4c41e34c7ffa5412153700e740b010e1fdd154ad1e918d561efbd256a42e0692", func := "citadel/citadellaw22.HyperWhose", spec := "hyperWhose", unfollowed := true, recurses := true, apart := false, narrowed := true }
def HyperWhoseUptoSaid : Prop := hyperWhoseUptoRow.holds Try.pinned (OpenSpec.upto hyperWhoseSpec)

end Rows
end Go.Proofs.Ythkkmnckidfmkaa
