/- Contracts of package rect's functions, still more. -/
import Derived.Test.YtbjmncgfbdkidaaRectB
-- SOFT
namespace Go.Proofs.Ytbjmncgfbdkidaa
open Go.RowKit
set_option linter.unusedSimpArgs false
set_option linter.unusedVariables false
attribute [local go_sem] ov_cell_same ov_cell_other ov_frozen_same ov_frozen_other ov_size ov_setCell_same ov_setCell_other cell_alloc_old frozen_alloc_old setCell_alloc_old old_alloc old_ov old_drew old_drewN old_setCell
attribute [local go_sem ↓] run_max2 run_min2 eql_rect

def farI (n : Int) : Int := min (max n (-4294967296)) 4294967296
theorem farI_le (n : Int) : -4294967296 ≤ farI n ∧ farI n ≤ 4294967296 := by unfold farI; omega
end Go.Proofs.Ytbjmncgfbdkidaa
