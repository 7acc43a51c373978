/- clapboardlaw07.RegionFar, whole. -/
import Derived.Test.YtkpamofamcndnaaRegFar
import Derived.Test.YtkpamofamcndnaaRegSp
namespace Go.Proofs.Ytkpamofamcndnaa
open Go.RowKit
theorem far_row (a b c d x y z t d0 d1 : Int) (w : World) : Calls Try.prog 5 #[(.agg #[.int .i64 (a), .int .i64 (b), .int .i64 (c), .int .i64 (d)]), (.agg #[.int .i64 (x), .int .i64 (y), .int .i64 (z), .int .i64 (t)]), .agg #[.int .i64 d0, .int .i64 d1]] w fun e w' => e = .returned (.bool true) ∧ Below w.heap.size w w' := rfar_any a b c d x y z t d0 d1 w speaks07_any
end Go.Proofs.Ytkpamofamcndnaa
