/-
  No cell of these rows narrows 'for every input' (looked for: loops, veiled, ifaces, maps, wideKeys, modest, calm, conditions, laid).
  DERIVED. THE GIVEN ROWS OF THIS SEAT. 6 by the template 'for every input the law returns true; each argument reads behind the call as it read before'; 0 by the template 'total and deterministic' (their statements: YtjliaojanmbicaaTotals.lean).
  GIVEN WITH THE SEED: the statements are not yours to turn. If you find one false, say at which input.
  Laid BY PROGRAM, IN A SANDBOX (cutbox-rows.mjs): the forced cells as the released guide's own fill.sh prints them over the translation c20a098a32251b9b… (all of the seat's roots in one cut). By AI agents, Wed Nov 11 2026. No macro, syntax, notation, axiom, sorry.
-/
import Derived.Test.YtjliaojanmbicaaChecked
import GoSem.Claim
import GoSem.ClaimJoined
import GoSem.ClaimMapViews
import Derived.JoinedTies
import Derived.KernelRfl
namespace Go.Proofs.Ytjliaojanmbicaa
/- THE CELL 'sum', in the pinned program and in every row, IS THE sha256 OF THE DUMP (.gsa) THAT YtjliaojanmbicaaProg.lean LOADS. Nothing in Lean hashes anything: it is a label: what it is worth is what the hold of that sum in a sandbox is worth. -/
noncomputable def Try.pinned : Pinned := { name := "ytjliaojanmbicaa", sum := "c20a098a32251b9ba1d7667485fb5a79eeaef1cf27d96c1955a5516d835a18a5", checked := Try.checked }
namespace Rows
def none {H : Type} : Left H := { results := [], args := [] }

/-- 'citadellaw18.MemoryLoads': WHATEVER THE INPUT: true; the input reads as it did. -/
def memoryLoadsSpec : ChangeSpec := { name := "memoryLoads", fn := fun _ => fun
  | [d1, d2, d3] => { results := [.lit (.bool true)], args := [d1, d2, d3] }
  | _ => none }
def memoryLoadsRow : OpenClaim := { program := "ytjliaojanmbicaa", sum := "c20a098a32251b9ba1d7667485fb5a79eeaef1cf27d96c1955a5516d835a18a5", func := "citadel/citadellaw18.MemoryLoads", spec := "memoryLoads", unfollowed := true, recurses := true, apart := false }
def MemoryLoadsSaid : Prop := memoryLoadsRow.holds Try.pinned (OpenSpec.ofChange memoryLoadsSpec)

/-- ITS FALSE NEIGHBOUR: 'it returns false'. Refute it at one input. -/
def memoryLoadsWrong : ChangeSpec := { name := "memoryLoads", fn := fun _ => fun
  | [d1, d2, d3] => { results := [.lit (.bool false)], args := [d1, d2, d3] }
  | _ => none }
def MemoryLoadsWrongFalsely : Prop := memoryLoadsRow.holds Try.pinned (OpenSpec.ofChange memoryLoadsWrong)

/-- 'citadellaw18.MemoryStored': WHATEVER THE INPUT: true; the input reads as it did. -/
def memoryStoredSpec : ChangeSpec := { name := "memoryStored", fn := fun _ => fun
  | [d1, d2, d3, d4] => { results := [.lit (.bool true)], args := [d1, d2, d3, d4] }
  | _ => none }
def memoryStoredRow : OpenClaim := { program := "ytjliaojanmbicaa", sum := "c20a098a32251b9ba1d7667485fb5a79eeaef1cf27d96c1955a5516d835a18a5", func := "citadel/citadellaw18.MemoryStored", spec := "memoryStored", unfollowed := true, recurses := true, apart := false }
def MemoryStoredSaid : Prop := memoryStoredRow.holds Try.pinned (OpenSpec.ofChange memoryStoredSpec)

/-- ITS FALSE NEIGHBOUR: 'it returns false'. Refute it at one input. -/
def memoryStoredWrong : ChangeSpec := { name := "memoryStored", fn := fun _ => fun
  | [d1, d2, d3, d4] => { results := [.lit (.bool false)], args := [d1, d2, d3, d4] }
  | _ => none }
def MemoryStoredWrongFalsely : Prop := memoryStoredRow.holds Try.pinned (OpenSpec.ofChange memoryStoredWrong)

/-- 'citadellaw18.MemoryWords': WHATEVER THE INPUT: true; the input reads as it did. -/
def memoryWordsSpec : ChangeSpec := { name := "memoryWords", fn := fun _ => fun
  | [d1, d2, d3] => { results := [.lit (.bool true)], args := [d1, d2, d3] }
  | _ => none }
def memoryWordsRow : OpenClaim := { program := "ytjliaojanmbicaa", sum := "c20a098a32251b9ba1d7667485fb5a79eeaef1cf27d96c1955a5516d835a18a5", func := "citadel/citadellaw18.MemoryWords", spec := "memoryWords", unfollowed := true, recurses := true, apart := false }
def MemoryWordsSaid : Prop := memoryWordsRow.holds Try.pinned (OpenSpec.ofChange memoryWordsSpec)

/-- ITS FALSE NEIGHBOUR: 'it returns false'. Refute it at one input. -/
def memoryWordsWrong : ChangeSpec := { name := "memoryWords", fn := fun _ => fun
  | [d1, d2, d3] => { results := [.lit (.bool false)], args := [d1, d2, d3] }
  | _ => none }
def MemoryWordsWrongFalsely : Prop := memoryWordsRow.holds Try.pinned (OpenSpec.ofChange memoryWordsWrong)

/-- 'citadellaw18.MemoryStores': WHATEVER THE INPUT: true; the input reads as it did. -/
def memoryStoresSpec : ChangeSpec := { name := "memoryStores", fn := fun _ => fun
  | [d1, d2, d3, d4, d5] => { results := [.lit (.bool true)], args := [d1, d2, d3, d4, d5] }
  | _ => none }
def memoryStoresRow : OpenClaim := { program := "ytjliaojanmbicaa", sum := "c20a098a32251b9ba1d7667485fb5a79eeaef1cf27d96c1955a5516d835a18a5", func := "citadel/citadellaw18.MemoryStores", spec := "memoryStores", unfollowed := true, recurses := true, apart := false }
def MemoryStoresSaid : Prop := memoryStoresRow.holds Try.pinned (OpenSpec.ofChange memoryStoresSpec)

/-- ITS FALSE NEIGHBOUR: 'it returns false'. Refute it at one input. -/
def memoryStoresWrong : ChangeSpec := { name := "memoryStores", fn := fun _ => fun
  | [d1, d2, d3, d4, d5] => { results := [.lit (.bool false)], args := [d1, d2, d3, d4, d5] }
  | _ => none }
def MemoryStoresWrongFalsely : Prop := memoryStoresRow.holds Try.pinned (OpenSpec.ofChange memoryStoresWrong)

/-- 'citadellaw18.MemoryPhys': WHATEVER THE INPUT: true; the input reads as it did. -/
def memoryPhysSpec : ChangeSpec := { name := "memoryPhys", fn := fun _ => fun
  | [d1, d2, d3, d4, d5] => { results := [.lit (.bool true)], args := [d1, d2, d3, d4, d5] }
  | _ => none }
def memoryPhysRow : OpenClaim := { program := "ytjliaojanmbicaa", sum := "c20a098a32251b9ba1d7667485fb5a79eeaef1cf27d96c1955a5516d835a18a5", func := "citadel/citadellaw18.MemoryPhys", spec := "memoryPhys", unfollowed := true, recurses := true, apart := false }
def MemoryPhysSaid : Prop := memoryPhysRow.holds Try.pinned (OpenSpec.ofChange memoryPhysSpec)

/-- ITS FALSE NEIGHBOUR: 'it returns false'. Refute it at one input. -/
def memoryPhysWrong : ChangeSpec := { name := "memoryPhys", fn := fun _ => fun
  | [d1, d2, d3, d4, d5] => { results := [.lit (.bool false)], args := [d1, d2, d3, d4, d5] }
  | _ => none }
def MemoryPhysWrongFalsely : Prop := memoryPhysRow.holds Try.pinned (OpenSpec.ofChange memoryPhysWrong)

/-- 'citadellaw18.MemoryNobody': WHATEVER THE INPUT: true; the input reads as it did. -/
def memoryNobodySpec : ChangeSpec := { name := "memoryNobody", fn := fun _ => fun
  | [d1, d2] => { results := [.lit (.bool true)], args := [d1, d2] }
  | _ => none }
def memoryNobodyRow : OpenClaim := { program := "ytjliaojanmbicaa", sum := "c20a098a32251b9ba1d7667485fb5a79eeaef1cf27d96c1955a5516d835a18a5", func := "citadel/citadellaw18.MemoryNobody", spec := "memoryNobody", unfollowed := true, recurses := true, apart := false }
def MemoryNobodySaid : Prop := memoryNobodyRow.holds Try.pinned (OpenSpec.ofChange memoryNobodySpec)

/-- ITS FALSE NEIGHBOUR: 'it returns false'. Refute it at one input. -/
def memoryNobodyWrong : ChangeSpec := { name := "memoryNobody", fn := fun _ => fun
  | [d1, d2] => { results := [.lit (.bool false)], args := [d1, d2] }
  | _ => none }
def MemoryNobodyWrongFalsely : Prop := memoryNobodyRow.holds Try.pinned (OpenSpec.ofChange memoryNobodyWrong)

/- THE SECOND FORM. 'bulk': how many values and letters a reading holds, each counted each time it is reached (what is shared counts as often as it is met; a slice's spare places count too). A statement '..UptoSaid' is the law's where the arguments, and the package variables that the reading takes, are together of bulk at most 1048576: NARROWER than '..Said'. Prove '..Said' where nothing that the law and all that it calls make is longer than what came in: it says more and counts as full. Else prove '..UptoSaid'. A law counts once. -/
mutual
def uptoBulk {H : Type} : DataW H → Nat
  | .lit (.string bytes) => bytes.length + 1
  | .lit _ => 1
  | .nil => 1
  | .ptr d => uptoBulk d + 1
  | .slice elems spare => uptoBulkAll elems + uptoBulkAll spare + 1
  | .agg parts => uptoBulkAll parts + 1
  | .iface _ d => uptoBulk d + 1
  | .map entries => uptoBulkEntries entries + 1
  | .held _ => 1
def uptoBulkAll {H : Type} : List (DataW H) → Nat
  | [] => 0
  | d :: r => uptoBulk d + uptoBulkAll r
def uptoBulkEntries {H : Type} : List (Lit × DataW H) → Nat
  | [] => 0
  | x :: r => uptoBulkEntry x + uptoBulkEntries r
def uptoBulkEntry {H : Type} : Lit × DataW H → Nat
  | (.string bytes, d) => bytes.length + uptoBulk d + 1
  | (_, d) => uptoBulk d + 1
 end
def uptoSmall : (H : Type) → List (DataW H) → Bool := fun _ ds => decide (uptoBulkAll ds ≤ 1048576)
def OpenSpec.upto (s : _root_.Go.ChangeSpec) : _root_.Go.OpenSpec := { _root_.Go.OpenSpec.ofChange s with cond := some uptoSmall }

/-- 'citadellaw18.MemoryLoads', WHERE WHAT IT READS IS OF BULK AT MOST 1048576: true; the input reads as it did. -/
def memoryLoadsUptoRow : OpenClaim := { program := "ytjliaojanmbicaa", sum := "c20a098a32251b9ba1d7667485fb5a79eeaef1cf27d96c1955a5516d835a18a5", func := "citadel/citadellaw18.MemoryLoads", spec := "memoryLoads", unfollowed := true, recurses := true, apart := false, narrowed := true }
def MemoryLoadsUptoSaid : Prop := memoryLoadsUptoRow.holds Try.pinned (OpenSpec.upto memoryLoadsSpec)

/-- 'citadellaw18.MemoryStored', WHERE WHAT IT READS IS OF BULK AT MOST 1048576: true; the input reads as it did. -/
def memoryStoredUptoRow : OpenClaim := { program := "ytjliaojanmbicaa", sum := "c20a098a32251b9ba1d7667485fb5a79eeaef1cf27d96c1955a5516d835a18a5", func := "citadel/citadellaw18.MemoryStored", spec := "memoryStored", unfollowed := true, recurses := true, apart := false, narrowed := true }
def MemoryStoredUptoSaid : Prop := memoryStoredUptoRow.holds Try.pinned (OpenSpec.upto memoryStoredSpec)

/-- 'citadellaw18.MemoryWords', WHERE WHAT IT READS IS OF BULK AT MOST 1048576: true; the input reads as it did. -/
def memoryWordsUptoRow : OpenClaim := { program := "ytjliaojanmbicaa", sum := "c20a098a32251b9ba1d7667485fb5a79eeaef1cf27d96c1955a5516d835a18a5", func := "citadel/citadellaw18.MemoryWords", spec := "memoryWords", unfollowed := true, recurses := true, apart := false, narrowed := true }
def MemoryWordsUptoSaid : Prop := memoryWordsUptoRow.holds Try.pinned (OpenSpec.upto memoryWordsSpec)

/-- 'citadellaw18.MemoryStores', WHERE WHAT IT READS IS OF BULK AT MOST 1048576: true; the input reads as it did. -/
def memoryStoresUptoRow : OpenClaim := { program := "ytjliaojanmbicaa", sum := "c20a098a32251b9ba1d7667485fb5a79eeaef1cf27d96c1955a5516d835a18a5", func := "citadel/citadellaw18.MemoryStores", spec := "memoryStores", unfollowed := true, recurses := true, apart := false, narrowed := true }
def MemoryStoresUptoSaid : Prop := memoryStoresUptoRow.holds Try.pinned (OpenSpec.upto memoryStoresSpec)

/-- 'citadellaw18.MemoryPhys', WHERE WHAT IT READS IS OF BULK AT MOST 1048576: true; the input reads as it did. -/
def memoryPhysUptoRow : OpenClaim := { program := "ytjliaojanmbicaa", sum := "c20a098a32251b9ba1d7667485fb5a79eeaef1cf27d96c1955a5516d835a18a5", func := "citadel/citadellaw18.MemoryPhys", spec := "memoryPhys", unfollowed := true, recurses := true, apart := false, narrowed := true }
def MemoryPhysUptoSaid : Prop := memoryPhysUptoRow.holds Try.pinned (OpenSpec.upto memoryPhysSpec)

/-- 'citadellaw18.MemoryNobody', WHERE WHAT IT READS IS OF BULK AT MOST 1048576: true; the input reads as it did. -/
def memoryNobodyUptoRow : OpenClaim := { program := "ytjliaojanmbicaa", sum := "c20a098a32251b9ba1d7667485fb5a79eeaef1cf27d96c1955a5516d835a18a5", func := "citadel/citadellaw18.MemoryNobody", spec := "memoryNobody", unfollowed := true, recurses := true, apart := false, narrowed := true }
def MemoryNobodyUptoSaid : Prop := memoryNobodyUptoRow.holds Try.pinned (OpenSpec.upto memoryNobodySpec)

end Rows
end Go.Proofs.Ytjliaojanmbicaa
