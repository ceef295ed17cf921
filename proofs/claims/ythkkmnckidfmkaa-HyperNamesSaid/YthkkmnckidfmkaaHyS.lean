/- Calls of a partition: the document's names; no condition. -/
import Derived.Test.YthkkmnckidfmkaaRows
import Derived.Test.YthkkmnckidfmkaaHyR
namespace Go.Proofs.Ythkkmnckidfmkaa.hy
open Go Go.ChangeShapes Go.WideShapes Go.ChangeAt Go.RowKit Go.Proofs.Ythkkmnckidfmkaa.rows
theorem names (w : World) : Calls Try.prog 11 #[] w fun e w' => e = .returned (.slice (some ⟨w.heap.size, 0, none⟩) 7 7) ∧ w'.heap[w.heap.size]? = some (.cells #[.string ⟨#[121, 105, 101, 108, 100]⟩, .string ⟨#[115, 101, 110, 100]⟩, .string ⟨#[114, 101, 99, 101, 105, 118, 101]⟩, .string ⟨#[110, 111, 119]⟩, .string ⟨#[105, 110, 112, 117, 116]⟩, .string ⟨#[115, 101, 108, 102]⟩, .string ⟨#[104, 97, 108, 116]⟩] 9 (0, 0)) ∧ Below w.heap.size w w' := by
  go_enter Try.func11, Try.ntmps11
  go_wp2
  go_ret
  exact ⟨rfl, blk_new w #[.string ⟨#[121, 105, 101, 108, 100]⟩, .string ⟨#[115, 101, 110, 100]⟩, .string ⟨#[114, 101, 99, 101, 105, 118, 101]⟩, .string ⟨#[110, 111, 119]⟩, .string ⟨#[105, 110, 112, 117, 116]⟩, .string ⟨#[115, 101, 108, 102]⟩, .string ⟨#[104, 97, 108, 116]⟩] 9, ext1 w _⟩
end Go.Proofs.Ythkkmnckidfmkaa.hy
