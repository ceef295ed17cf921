/-
  No cell of these rows narrows 'for every input' (looked for: loops, veiled, ifaces, maps, wideKeys, modest, calm, conditions, laid).
  DERIVED. THE GIVEN ROWS OF THIS SEAT. 5 by the template 'for every input the law returns true; each argument reads behind the call as it read before'; 0 by the template 'total and deterministic' (their statements: YtpdjjombdahpmaaTotals.lean).
  GIVEN WITH THE SEED: the statements are not yours to turn. If you find one false, say at which input.
  Laid BY PROGRAM, IN A SANDBOX (cutbox-rows.mjs): the forced cells as the released guide's own fill.sh prints them over the translation 379e03ca5a2b2dc1… (all of the seat's roots in one cut). By AI agents, Wed Nov 11 2026. No macro, syntax, notation, axiom, sorry.
-/
import Derived.Test.YtpdjjombdahpmaaChecked
import GoSem.Claim
import GoSem.ClaimJoined
import GoSem.ClaimMapViews
import Derived.JoinedTies
import Derived.KernelRfl
namespace Go.Proofs.Ytpdjjombdahpmaa
/- THE CELL 'sum', in the pinned program and in every row, IS THE sha256 OF THE DUMP (.gsa) THAT YtpdjjombdahpmaaProg.lean LOADS. Nothing in Lean hashes anything: it is a label: what it is worth is what the hold of that sum in a sandbox is worth. -/
noncomputable def Try.pinned : Pinned := { name := "ytpdjjombdahpmaa", sum := "379e03ca5a2b2dc1a867212c7b06ec5405e422d26d23053bbfc78e150bfe5e24", checked := Try.checked }
namespace Rows
def none {H : Type} : Left H := { results := [], args := [] }

/-- 'citadellaw09.SchedulePlays': WHATEVER THE INPUT: true; the input reads as it did. -/
def schedulePlaysSpec : ChangeSpec := { name := "schedulePlays", fn := fun _ => fun
  | [d1, d2] => { results := [.lit (.bool true)], args := [d1, d2] }
  | _ => none }
def schedulePlaysRow : OpenClaim := { program := "ytpdjjombdahpmaa", sum := "379e03ca5a2b2dc1a867212c7b06ec5405e422d26d23053bbfc78e150bfe5e24", func := "citadel/citadellaw09.SchedulePlays", spec := "schedulePlays", apart := false }
def SchedulePlaysSaid : Prop := schedulePlaysRow.holds Try.pinned (OpenSpec.ofChange schedulePlaysSpec)

/-- ITS FALSE NEIGHBOUR: 'it returns false'. Refute it at one input. -/
def schedulePlaysWrong : ChangeSpec := { name := "schedulePlays", fn := fun _ => fun
  | [d1, d2] => { results := [.lit (.bool false)], args := [d1, d2] }
  | _ => none }
def SchedulePlaysWrongFalsely : Prop := schedulePlaysRow.holds Try.pinned (OpenSpec.ofChange schedulePlaysWrong)

/-- 'citadellaw09.ScheduleCounts': WHATEVER THE INPUT: true; the input reads as it did. -/
def scheduleCountsSpec : ChangeSpec := { name := "scheduleCounts", fn := fun _ => fun
  | [d1, d2] => { results := [.lit (.bool true)], args := [d1, d2] }
  | _ => none }
def scheduleCountsRow : OpenClaim := { program := "ytpdjjombdahpmaa", sum := "379e03ca5a2b2dc1a867212c7b06ec5405e422d26d23053bbfc78e150bfe5e24", func := "citadel/citadellaw09.ScheduleCounts", spec := "scheduleCounts", apart := false }
def ScheduleCountsSaid : Prop := scheduleCountsRow.holds Try.pinned (OpenSpec.ofChange scheduleCountsSpec)

/-- ITS FALSE NEIGHBOUR: 'it returns false'. Refute it at one input. -/
def scheduleCountsWrong : ChangeSpec := { name := "scheduleCounts", fn := fun _ => fun
  | [d1, d2] => { results := [.lit (.bool false)], args := [d1, d2] }
  | _ => none }
def ScheduleCountsWrongFalsely : Prop := scheduleCountsRow.holds Try.pinned (OpenSpec.ofChange scheduleCountsWrong)

/-- 'citadellaw09.ScheduleOnce': WHATEVER THE INPUT: true; the input reads as it did. -/
def scheduleOnceSpec : ChangeSpec := { name := "scheduleOnce", fn := fun _ => fun
  | [d] => { results := [.lit (.bool true)], args := [d] }
  | _ => none }
def scheduleOnceRow : OpenClaim := { program := "ytpdjjombdahpmaa", sum := "379e03ca5a2b2dc1a867212c7b06ec5405e422d26d23053bbfc78e150bfe5e24", func := "citadel/citadellaw09.ScheduleOnce", spec := "scheduleOnce", apart := false }
def ScheduleOnceSaid : Prop := scheduleOnceRow.holds Try.pinned (OpenSpec.ofChange scheduleOnceSpec)

/-- ITS FALSE NEIGHBOUR: 'it returns false'. Refute it at one input. -/
def scheduleOnceWrong : ChangeSpec := { name := "scheduleOnce", fn := fun _ => fun
  | [d] => { results := [.lit (.bool false)], args := [d] }
  | _ => none }
def ScheduleOnceWrongFalsely : Prop := scheduleOnceRow.holds Try.pinned (OpenSpec.ofChange scheduleOnceWrong)

/-- 'citadellaw09.ScheduleNext': WHATEVER THE INPUT: true; the input reads as it did. -/
def scheduleNextSpec : ChangeSpec := { name := "scheduleNext", fn := fun _ => fun
  | [d] => { results := [.lit (.bool true)], args := [d] }
  | _ => none }
def scheduleNextRow : OpenClaim := { program := "ytpdjjombdahpmaa", sum := "379e03ca5a2b2dc1a867212c7b06ec5405e422d26d23053bbfc78e150bfe5e24", func := "citadel/citadellaw09.ScheduleNext", spec := "scheduleNext", apart := false }
def ScheduleNextSaid : Prop := scheduleNextRow.holds Try.pinned (OpenSpec.ofChange scheduleNextSpec)

/-- ITS FALSE NEIGHBOUR: 'it returns false'. Refute it at one input. -/
def scheduleNextWrong : ChangeSpec := { name := "scheduleNext", fn := fun _ => fun
  | [d] => { results := [.lit (.bool false)], args := [d] }
  | _ => none }
def ScheduleNextWrongFalsely : Prop := scheduleNextRow.holds Try.pinned (OpenSpec.ofChange scheduleNextWrong)

/-- 'citadellaw09.ScheduleSplit': WHATEVER THE INPUT: true; the input reads as it did. -/
def scheduleSplitSpec : ChangeSpec := { name := "scheduleSplit", fn := fun _ => fun
  | [d1, d2, d3] => { results := [.lit (.bool true)], args := [d1, d2, d3] }
  | _ => none }
def scheduleSplitRow : OpenClaim := { program := "ytpdjjombdahpmaa", sum := "379e03ca5a2b2dc1a867212c7b06ec5405e422d26d23053bbfc78e150bfe5e24", func := "citadel/citadellaw09.ScheduleSplit", spec := "scheduleSplit", apart := false }
def ScheduleSplitSaid : Prop := scheduleSplitRow.holds Try.pinned (OpenSpec.ofChange scheduleSplitSpec)

/-- ITS FALSE NEIGHBOUR: 'it returns false'. Refute it at one input. -/
def scheduleSplitWrong : ChangeSpec := { name := "scheduleSplit", fn := fun _ => fun
  | [d1, d2, d3] => { results := [.lit (.bool false)], args := [d1, d2, d3] }
  | _ => none }
def ScheduleSplitWrongFalsely : Prop := scheduleSplitRow.holds Try.pinned (OpenSpec.ofChange scheduleSplitWrong)

/- THE SECOND FORM. 'bulk': how many values and letters a reading holds, each counted each time it is reached (what is shared counts as often as it is met; a slice's spare places count too). A statement '..UptoSaid' is the law's where the arguments, and the package variables that the reading takes, are together of bulk at most 1048576: NARROWER than '..Said'. Prove '..Said' where nothing that the law and all that it calls make is longer than what came in: it says more and counts as full. Else prove '..UptoSaid'. A law counts once. -/
mutual
def uptoBulk {H : Type} : DataW H → Nat
  | .lit (.string bytes) => bytes.length + 1
  | .lit _ => 1
  | .nil => 1
  | .ptr d => uptoBulk d + 1
  | .slice elems spare => uptoBulkAll elems + uptoBulkAll spare + 1
  | .agg parts => uptoBulkAll parts + 1
  | .iface _ d => uptoBulk d + 1
  | .map entries => uptoBulkEntries entries + 1
  | .held _ => 1
def uptoBulkAll {H : Type} : List (DataW H) → Nat
  | [] => 0
  | d :: r => uptoBulk d + uptoBulkAll r
def uptoBulkEntries {H : Type} : List (Lit × DataW H) → Nat
  | [] => 0
  | x :: r => uptoBulkEntry x + uptoBulkEntries r
def uptoBulkEntry {H : Type} : Lit × DataW H → Nat
  | (.string bytes, d) => bytes.length + uptoBulk d + 1
  | (_, d) => uptoBulk d + 1
 end
def uptoSmall : (H : Type) → List (DataW H) → Bool := fun _ ds => decide (uptoBulkAll ds ≤ 1048576)
def OpenSpec.upto (s : _root_.Go.ChangeSpec) : _root_.Go.OpenSpec := { _root_.Go.OpenSpec.ofChange s with cond := some uptoSmall }

/-- 'citadellaw09.SchedulePlays', WHERE WHAT IT READS IS OF BULK AT MOST 1048576: true; the input reads as it did. -/
def schedulePlaysUptoRow : OpenClaim := { program := "ytpdjjombdahpmaa", sum := "379e03ca5a2b2dc1a867212c7b06ec5405e422d26d23053bbfc78e150bfe5e24", func := "citadel/citadellaw09.SchedulePlays", spec := "schedulePlays", apart := false, narrowed := true }
def SchedulePlaysUptoSaid : Prop := schedulePlaysUptoRow.holds Try.pinned (OpenSpec.upto schedulePlaysSpec)

/-- 'citadellaw09.ScheduleCounts', WHERE WHAT IT READS IS OF BULK AT MOST 1048576: true; the input reads as it did. -/
def scheduleCountsUptoRow : OpenClaim := { program := "ytpdjjombdahpmaa", sum := "379e03ca5a2b2dc1a867212c7b06ec5405e422d26d23053bbfc78e150bfe5e24", func := "citadel/citadellaw09.ScheduleCounts", spec := "scheduleCounts", apart := false, narrowed := true }
def ScheduleCountsUptoSaid : Prop := scheduleCountsUptoRow.holds Try.pinned (OpenSpec.upto scheduleCountsSpec)

/-- 'citadellaw09.ScheduleOnce', WHERE WHAT IT READS IS OF BULK AT MOST 1048576: true; the input reads as it did. -/
def scheduleOnceUptoRow : OpenClaim := { program := "ytpdjjombdahpmaa", sum := "379e03ca5a2b2dc1a867212c7b06ec5405e422d26d23053bbfc78e150bfe5e24", func := "citadel/citadellaw09.ScheduleOnce", spec := "scheduleOnce", apart := false, narrowed := true }
def ScheduleOnceUptoSaid : Prop := scheduleOnceUptoRow.holds Try.pinned (OpenSpec.upto scheduleOnceSpec)

/-- 'citadellaw09.ScheduleNext', WHERE WHAT IT READS IS OF BULK AT MOST 1048576: true; the input reads as it did. -/
def scheduleNextUptoRow : OpenClaim := { program := "ytpdjjombdahpmaa", sum := "379e03ca5a2b2dc1a867212c7b06ec5405e422d26d23053bbfc78e150bfe5e24", func := "citadel/citadellaw09.ScheduleNext", spec := "scheduleNext", apart := false, narrowed := true }
def ScheduleNextUptoSaid : Prop := scheduleNextUptoRow.holds Try.pinned (OpenSpec.upto scheduleNextSpec)

/-- 'citadellaw09.ScheduleSplit', WHERE WHAT IT READS IS OF BULK AT MOST 1048576: true; the input reads as it did. -/
def scheduleSplitUptoRow : OpenClaim := { program := "ytpdjjombdahpmaa", sum := "379e03ca5a2b2dc1a867212c7b06ec5405e422d26d23053bbfc78e150bfe5e24", func := "citadel/citadellaw09.ScheduleSplit", spec := "scheduleSplit", apart := false, narrowed := true }
def ScheduleSplitUptoSaid : Prop := scheduleSplitUptoRow.holds Try.pinned (OpenSpec.upto scheduleSplitSpec)

end Rows
end Go.Proofs.Ytpdjjombdahpmaa
