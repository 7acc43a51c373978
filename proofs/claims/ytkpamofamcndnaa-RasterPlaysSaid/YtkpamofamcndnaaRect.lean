/- Contracts of package rect's functions. -/
import Derived.Test.YtkpamofamcndnaaRows
import Derived.Test.YtkpamofamcndnaaBase
import Derived.Test.YtkpamofamcndnaaRegion
-- SOFT
namespace Go.Proofs.Ytkpamofamcndnaa
open Go.RowKit
set_option linter.unusedSimpArgs false
set_option linter.unusedVariables false
attribute [local go_sem] ov_cell_same ov_cell_other ov_frozen_same ov_frozen_other ov_size ov_setCell_same ov_setCell_other cell_alloc_old frozen_alloc_old setCell_alloc_old old_alloc old_ov old_drew old_drewN old_setCell
attribute [local go_sem ↓] run_max2 run_min2

theorem bound_any (n : Int) (w : World) : Calls Try.prog 81 #[.int .i64 n] w fun e w' => e = .returned (.int .i64 (bnd n)) ∧ w = w' := by
  go_enter Try.func81, Try.ntmps81
  go_wp2
  go_ret
  exact ⟨rfl, rfl⟩

set_option maxRecDepth 100000 in
set_option maxHeartbeats 400000 in
theorem right_any (a b c d : Int) (w : World) : Calls Try.prog 59 #[.agg #[.int .i64 a, .int .i64 b, .int .i64 c, .int .i64 d]] w fun e w' => e = .returned (.agg #[.int .i64 (r0 a b c d), .int .i64 (r1 a b c d), .int .i64 (r2 a b c d), .int .i64 (r3 a b c d)]) ∧ Below w.heap.size w w' := by
  rcases r_all a b c d with ⟨h1, h2, e0, e1, e2, e3⟩ | ⟨h, e0, e1, e2, e3⟩
  · rw [e0, e1, e2, e3]
    clear e0 e1 e2 e3
    go_enter Try.func59, Try.ntmps59
    go_wp2_with fail
    refine region_tail 13 (by kernel_rfl) (by kernel_rfl) ?_
    simp only [List.take_succ_cons, List.take_zero, List.drop_succ_cons, List.drop_zero]
    repeat (first | still_step | still_call (stl (bound_any _ _)))
    refine wpStill_nil ?_
    go_wp2
    go_returns
    exact ⟨rfl, by go_grown⟩
  · rw [e0, e1, e2, e3]
    clear e0 e1 e2 e3
    by_cases h1 : bnd c ≤ bnd a
    · clear h
      go_enter Try.func59, Try.ntmps59
      go_wp2_with fail
      refine region_tail 13 (by kernel_rfl) (by kernel_rfl) ?_
      simp only [List.take_succ_cons, List.take_zero, List.drop_succ_cons, List.drop_zero]
      repeat (first | still_step | still_call (stl (bound_any _ _)))
      refine wpStill_nil ?_
      go_wp2
      go_returns
      exact ⟨rfl, by go_grown⟩
    · have h2 : bnd a < bnd c := by omega
      have h3 : bnd d ≤ bnd b := by omega
      clear h h1
      go_enter Try.func59, Try.ntmps59
      go_wp2_with fail
      refine region_tail 13 (by kernel_rfl) (by kernel_rfl) ?_
      simp only [List.take_succ_cons, List.take_zero, List.drop_succ_cons, List.drop_zero]
      repeat (first | still_step | still_call (stl (bound_any _ _)))
      refine wpStill_nil ?_
      go_wp2
      go_returns
      exact ⟨rfl, by go_grown⟩
end Go.Proofs.Ytkpamofamcndnaa
