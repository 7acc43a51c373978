/- A world of one draw less. -/
import Derived.Test.YtjcbphhemmdnjaaOwn
namespace Go.Proofs.Ytjcbphhemmdnjaa
open Go Go.RowKit
theorem below_from_drew {B : Nat} {a w : World} (h : Below B a w) : Below B a.drew w := ⟨h.os, h.tape, h.output, h.size, h.block⟩
end Go.Proofs.Ytjcbphhemmdnjaa
