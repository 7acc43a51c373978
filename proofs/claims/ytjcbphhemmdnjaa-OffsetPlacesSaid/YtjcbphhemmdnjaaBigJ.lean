/- ref04.Length, ref04.Told. -/
import Derived.Test.YtjcbphhemmdnjaaBigI
namespace Go.Proofs.Ytjcbphhemmdnjaa
open Go.RowKit
set_option linter.unusedSimpArgs false
set_option linter.unusedVariables false
-- SOFT
-- below_from_drew
attribute [local go_sem] ov_cell_same ov_cell_other ov_frozen_same ov_frozen_other ov_size ov_setCell_same ov_setCell_other cell_alloc_old frozen_alloc_old setCell_alloc_old old_alloc old_ov old_drew old_drewN old_setCell
attribute [local go_sem ↓] run_max2 run_min2

def lenB (z : Int) : Bool := decide (-17592186044416 ≤ z ∧ z ≤ 17592186044416)
theorem lenB_t {z : Int} (h : -17592186044416 ≤ z ∧ z ≤ 17592186044416) : lenB z = true := by simpa [lenB] using h
theorem lenB_f {z : Int} (h : ¬ (-17592186044416 ≤ z ∧ z ≤ 17592186044416)) : lenB z = false := by simpa [lenB] using h
/-- A number told as a length: it, and the error's number. -/
def toldN (z : Int) : Int := if lenB z = true then z else 0
def toldE (z : Int) : Int := if lenB z = true then 0 else 2
end Go.Proofs.Ytjcbphhemmdnjaa
