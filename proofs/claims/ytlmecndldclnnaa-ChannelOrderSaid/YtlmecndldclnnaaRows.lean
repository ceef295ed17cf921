/-
  No cell of these rows narrows 'for every input' (looked for: loops, veiled, ifaces, maps, wideKeys, modest, calm, conditions, laid).
  DERIVED. THE GIVEN ROWS OF THIS SEAT. 6 by the template 'for every input the law returns true; each argument reads behind the call as it read before'; 0 by the template 'total and deterministic' (their statements: YtlmecndldclnnaaTotals.lean).
  GIVEN WITH THE SEED: the statements are not yours to turn. If you find one false, say at which input.
  Laid BY PROGRAM, IN A SANDBOX (cutbox-rows.mjs): the forced cells as the released guide's own fill.sh prints them over the translation 23333cd514d74222… (all of the seat's roots in one cut). By AI agents, Wed Nov 11 2026. No macro, syntax, notation, axiom, sorry.
-/
import Derived.Test.YtlmecndldclnnaaChecked
import GoSem.Claim
import GoSem.ClaimJoined
import GoSem.ClaimMapViews
import Derived.JoinedTies
import Derived.KernelRfl
namespace Go.Proofs.Ytlmecndldclnnaa
/- THE CELL 'sum', in the pinned program and in every row, IS THE sha256 OF THE DUMP (.gsa) THAT YtlmecndldclnnaaProg.lean LOADS. Nothing in Lean hashes anything: it is a label: what it is worth is what the hold of that sum in a sandbox is worth. -/
noncomputable def Try.pinned : Pinned := { name := "ytlmecndldclnnaa", sum := "23333cd514d7422247e27d6466323fea0f25ab18394e892ea78f820ce810ef6a", checked := Try.checked }
namespace Rows
def none {H : Type} : Left H := { results := [], args := [] }

/-- 'citadellaw10.ChannelPuts': WHATEVER THE INPUT: true; the input reads as it did. -/
def channelPutsSpec : ChangeSpec := { name := "channelPuts", fn := fun _ => fun
  | [d1, d2] => { results := [.lit (.bool true)], args := [d1, d2] }
  | _ => none }
def channelPutsRow : OpenClaim := { program := "ytlmecndldclnnaa", sum := "23333cd514d7422247e27d6466323fea0f25ab18394e892ea78f820ce810ef6a", func := "citadel/citadellaw10.ChannelPuts", spec := "channelPuts", unfollowed := true, recurses := true, apart := false }
def ChannelPutsSaid : Prop := channelPutsRow.holds Try.pinned (OpenSpec.ofChange channelPutsSpec)

/-- ITS FALSE NEIGHBOUR: 'it returns false'. Refute it at one input. -/
def channelPutsWrong : ChangeSpec := { name := "channelPuts", fn := fun _ => fun
  | [d1, d2] => { results := [.lit (.bool false)], args := [d1, d2] }
  | _ => none }
def ChannelPutsWrongFalsely : Prop := channelPutsRow.holds Try.pinned (OpenSpec.ofChange channelPutsWrong)

/-- 'citadellaw10.ChannelTakes': WHATEVER THE INPUT: true; the input reads as it did. -/
def channelTakesSpec : ChangeSpec := { name := "channelTakes", fn := fun _ => fun
  | [d] => { results := [.lit (.bool true)], args := [d] }
  | _ => none }
def channelTakesRow : OpenClaim := { program := "ytlmecndldclnnaa", sum := "23333cd514d7422247e27d6466323fea0f25ab18394e892ea78f820ce810ef6a", func := "citadel/citadellaw10.ChannelTakes", spec := "channelTakes", unfollowed := true, recurses := true, apart := false }
def ChannelTakesSaid : Prop := channelTakesRow.holds Try.pinned (OpenSpec.ofChange channelTakesSpec)

/-- ITS FALSE NEIGHBOUR: 'it returns false'. Refute it at one input. -/
def channelTakesWrong : ChangeSpec := { name := "channelTakes", fn := fun _ => fun
  | [d] => { results := [.lit (.bool false)], args := [d] }
  | _ => none }
def ChannelTakesWrongFalsely : Prop := channelTakesRow.holds Try.pinned (OpenSpec.ofChange channelTakesWrong)

/-- 'citadellaw10.ChannelOrder': WHATEVER THE INPUT: true; the input reads as it did. -/
def channelOrderSpec : ChangeSpec := { name := "channelOrder", fn := fun _ => fun
  | [d1, d2] => { results := [.lit (.bool true)], args := [d1, d2] }
  | _ => none }
def channelOrderRow : OpenClaim := { program := "ytlmecndldclnnaa", sum := "23333cd514d7422247e27d6466323fea0f25ab18394e892ea78f820ce810ef6a", func := "citadel/citadellaw10.ChannelOrder", spec := "channelOrder", unfollowed := true, recurses := true, apart := false }
def ChannelOrderSaid : Prop := channelOrderRow.holds Try.pinned (OpenSpec.ofChange channelOrderSpec)

/-- ITS FALSE NEIGHBOUR: 'it returns false'. Refute it at one input. -/
def channelOrderWrong : ChangeSpec := { name := "channelOrder", fn := fun _ => fun
  | [d1, d2] => { results := [.lit (.bool false)], args := [d1, d2] }
  | _ => none }
def ChannelOrderWrongFalsely : Prop := channelOrderRow.holds Try.pinned (OpenSpec.ofChange channelOrderWrong)

/-- 'citadellaw10.ChannelBlind': WHATEVER THE INPUT: true; the input reads as it did. -/
def channelBlindSpec : ChangeSpec := { name := "channelBlind", fn := fun _ => fun
  | [d1, d2, d3] => { results := [.lit (.bool true)], args := [d1, d2, d3] }
  | _ => none }
def channelBlindRow : OpenClaim := { program := "ytlmecndldclnnaa", sum := "23333cd514d7422247e27d6466323fea0f25ab18394e892ea78f820ce810ef6a", func := "citadel/citadellaw10.ChannelBlind", spec := "channelBlind", unfollowed := true, recurses := true, apart := false }
def ChannelBlindSaid : Prop := channelBlindRow.holds Try.pinned (OpenSpec.ofChange channelBlindSpec)

/-- ITS FALSE NEIGHBOUR: 'it returns false'. Refute it at one input. -/
def channelBlindWrong : ChangeSpec := { name := "channelBlind", fn := fun _ => fun
  | [d1, d2, d3] => { results := [.lit (.bool false)], args := [d1, d2, d3] }
  | _ => none }
def ChannelBlindWrongFalsely : Prop := channelBlindRow.holds Try.pinned (OpenSpec.ofChange channelBlindWrong)

/-- 'citadellaw10.ChannelBack': WHATEVER THE INPUT: true; the input reads as it did. -/
def channelBackSpec : ChangeSpec := { name := "channelBack", fn := fun _ => fun
  | [d1, d2] => { results := [.lit (.bool true)], args := [d1, d2] }
  | _ => none }
def channelBackRow : OpenClaim := { program := "ytlmecndldclnnaa", sum := "23333cd514d7422247e27d6466323fea0f25ab18394e892ea78f820ce810ef6a", func := "citadel/citadellaw10.ChannelBack", spec := "channelBack", unfollowed := true, recurses := true, apart := false }
def ChannelBackSaid : Prop := channelBackRow.holds Try.pinned (OpenSpec.ofChange channelBackSpec)

/-- ITS FALSE NEIGHBOUR: 'it returns false'. Refute it at one input. -/
def channelBackWrong : ChangeSpec := { name := "channelBack", fn := fun _ => fun
  | [d1, d2] => { results := [.lit (.bool false)], args := [d1, d2] }
  | _ => none }
def ChannelBackWrongFalsely : Prop := channelBackRow.holds Try.pinned (OpenSpec.ofChange channelBackWrong)

/-- 'citadellaw10.ChannelTells': WHATEVER THE INPUT: true; the input reads as it did. -/
def channelTellsSpec : ChangeSpec := { name := "channelTells", fn := fun _ => fun
  | [d1, d2, d3] => { results := [.lit (.bool true)], args := [d1, d2, d3] }
  | _ => none }
def channelTellsRow : OpenClaim := { program := "ytlmecndldclnnaa", sum := "23333cd514d7422247e27d6466323fea0f25ab18394e892ea78f820ce810ef6a", func := "citadel/citadellaw10.ChannelTells", spec := "channelTells", unfollowed := true, recurses := true, apart := false }
def ChannelTellsSaid : Prop := channelTellsRow.holds Try.pinned (OpenSpec.ofChange channelTellsSpec)

/-- ITS FALSE NEIGHBOUR: 'it returns false'. Refute it at one input. -/
def channelTellsWrong : ChangeSpec := { name := "channelTells", fn := fun _ => fun
  | [d1, d2, d3] => { results := [.lit (.bool false)], args := [d1, d2, d3] }
  | _ => none }
def ChannelTellsWrongFalsely : Prop := channelTellsRow.holds Try.pinned (OpenSpec.ofChange channelTellsWrong)

/- THE SECOND FORM. 'bulk': how many values and letters a reading holds, each counted each time it is reached (what is shared counts as often as it is met; a slice's spare places count too). A statement '..UptoSaid' is the law's where the arguments, and the package variables that the reading takes, are together of bulk at most 1048576: NARROWER than '..Said'. Prove '..Said' where nothing that the law and all that it calls make is longer than what came in: it says more and counts as full. Else prove '..UptoSaid'. A law counts once. -/
mutual
def uptoBulk {H : Type} : DataW H → Nat
  | .lit (.string bytes) => bytes.length + 1
  | .lit _ => 1
  | .nil => 1
  | .ptr d => uptoBulk d + 1
  | .slice elems spare => uptoBulkAll elems + uptoBulkAll spare + 1
  | .agg parts => uptoBulkAll parts + 1
  | .iface _ d => uptoBulk d + 1
  | .map entries => uptoBulkEntries entries + 1
  | .held _ => 1
def uptoBulkAll {H : Type} : List (DataW H) → Nat
  | [] => 0
  | d :: r => uptoBulk d + uptoBulkAll r
def uptoBulkEntries {H : Type} : List (Lit × DataW H) → Nat
  | [] => 0
  | x :: r => uptoBulkEntry x + uptoBulkEntries r
def uptoBulkEntry {H : Type} : Lit × DataW H → Nat
  | (.string bytes, d) => bytes.length + uptoBulk d + 1
  | (_, d) => uptoBulk d + 1
 end
def uptoSmall : (H : Type) → List (DataW H) → Bool := fun _ ds => decide (uptoBulkAll ds ≤ 1048576)
def OpenSpec.upto (s : _root_.Go.ChangeSpec) : _root_.Go.OpenSpec := { _root_.Go.OpenSpec.ofChange s with cond := some uptoSmall }

/-- 'citadellaw10.ChannelPuts', WHERE WHAT IT READS IS OF BULK AT MOST 1048576: true; the input reads as it did. -/
def channelPutsUptoRow : OpenClaim := { program := "ytlmecndldclnnaa", sum := "23333cd514d7422247e27d6466323fea0f25ab18394e892ea78f820ce810ef6a", func := "citadel/citadellaw10.ChannelPuts", spec := "channelPuts", unfollowed := true, recurses := true, apart := false, narrowed := true }
def ChannelPutsUptoSaid : Prop := channelPutsUptoRow.holds Try.pinned (OpenSpec.upto channelPutsSpec)

/-- 'citadellaw10.ChannelTakes', WHERE WHAT IT READS IS OF BULK AT MOST 1048576: true; the input reads as it did. -/
def channelTakesUptoRow : OpenClaim := { program := "ytlmecndldclnnaa", sum := "23333cd514d7422247e27d6466323fea0f25ab18394e892ea78f820ce810ef6a", func := "citadel/citadellaw10.ChannelTakes", spec := "channelTakes", unfollowed := true, recurses := true, apart := false, narrowed := true }
def ChannelTakesUptoSaid : Prop := channelTakesUptoRow.holds Try.pinned (OpenSpec.upto channelTakesSpec)

/-- 'citadellaw10.ChannelOrder', WHERE WHAT IT READS IS OF BULK AT MOST 1048576: true; the input reads as it did. -/
def channelOrderUptoRow : OpenClaim := { program := "ytlmecndldclnnaa", sum := "23333cd514d7422247e27d6466323fea0f25ab18394e892ea78f820ce810ef6a", func := "citadel/citadellaw10.ChannelOrder", spec := "channelOrder", unfollowed := true, recurses := true, apart := false, narrowed := true }
def ChannelOrderUptoSaid : Prop := channelOrderUptoRow.holds Try.pinned (OpenSpec.upto channelOrderSpec)

/-- 'citadellaw10.ChannelBlind', WHERE WHAT IT READS IS OF BULK AT MOST 1048576: true; the input reads as it did. -/
def channelBlindUptoRow : OpenClaim := { program := "ytlmecndldclnnaa", sum := "23333cd514d7422247e27d6466323fea0f25ab18394e892ea78f820ce810ef6a", func := "citadel/citadellaw10.ChannelBlind", spec := "channelBlind", unfollowed := true, recurses := true, apart := false, narrowed := true }
def ChannelBlindUptoSaid : Prop := channelBlindUptoRow.holds Try.pinned (OpenSpec.upto channelBlindSpec)

/-- 'citadellaw10.ChannelBack', WHERE WHAT IT READS IS OF BULK AT MOST 1048576: true; the input reads as it did. -/
def channelBackUptoRow : OpenClaim := { program := "ytlmecndldclnnaa", sum := "23333cd514d7422247e27d6466323fea0f25ab18394e892ea78f820ce810ef6a", func := "citadel/citadellaw10.ChannelBack", spec := "channelBack", unfollowed := true, recurses := true, apart := false, narrowed := true }
def ChannelBackUptoSaid : Prop := channelBackUptoRow.holds Try.pinned (OpenSpec.upto channelBackSpec)

/-- 'citadellaw10.ChannelTells', WHERE WHAT IT READS IS OF BULK AT MOST 1048576: true; the input reads as it did. -/
def channelTellsUptoRow : OpenClaim := { program := "ytlmecndldclnnaa", sum := "23333cd514d7422247e27d6466323fea0f25ab18394e892ea78f820ce810ef6a", func := "citadel/citadellaw10.ChannelTells", spec := "channelTells", unfollowed := true, recurses := true, apart := false, narrowed := true }
def ChannelTellsUptoSaid : Prop := channelTellsUptoRow.holds Try.pinned (OpenSpec.upto channelTellsSpec)

end Rows
end Go.Proofs.Ytlmecndldclnnaa
