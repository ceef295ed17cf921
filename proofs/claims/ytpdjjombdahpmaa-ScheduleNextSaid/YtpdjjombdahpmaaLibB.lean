/- Common lemmas, more. No condition. -/
import Derived.Test.YtpdjjombdahpmaaLib
import Derived.Deep.Draws
namespace Go.Proofs.Ytpdjjombdahpmaa
open Go Go.RowKit
theorem below_drewN {B : Nat} {a w : World} (h : Below B a w) (n : Nat) : Below B a (w.drewN n) := ⟨h.os, h.tape, h.output, h.size, h.block⟩
end Go.Proofs.Ytpdjjombdahpmaa
