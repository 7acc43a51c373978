/- Package fixed: Floor, Round. -/
import Derived.Test.YtjcbphhemmdnjaaFix
namespace Go.Proofs.Ytjcbphhemmdnjaa
open Go.RowKit
set_option linter.unusedSimpArgs false
set_option linter.unusedVariables false
-- below_from_drew
-- SOFT
attribute [local go_sem ↓] run_max2 run_min2
theorem t64 (a : Int) : (0 ≤ a ∧ a.tdiv 64 = a / 64 ∧ a.tmod 64 = a % 64) ∨ (a < 0 ∧ a.tdiv 64 = -((-a) / 64) ∧ a.tmod 64 = -((-a) % 64)) := by
  by_cases h : a < 0
  · refine .inr ⟨h, ?_, ?_⟩
    · have e : a.tdiv 64 = -((-a).tdiv 64) := by rw [Int.neg_tdiv]; omega
      rw [e, Int.tdiv_eq_ediv_of_nonneg (by omega)]
    · have e : a.tmod 64 = -((-a).tmod 64) := by rw [Int.neg_tmod]; omega
      rw [e, Int.tmod_eq_emod_of_nonneg (by omega)]
  · exact .inl ⟨by omega, Int.tdiv_eq_ediv_of_nonneg (by omega), Int.tmod_eq_emod_of_nonneg (by omega)⟩
theorem floor_any (a : Int) (h : i64 a) (w : World) : Calls Try.prog 94 #[.int .i64 a] w fun e w' => e = .returned (.int .i64 (a / 64)) ∧ w = w' := by
  have ht := t64 a
  unfold i64 at h
  have h1 : -144115188075855872 ≤ a.tdiv 64 := by omega
  have h2 : a.tdiv 64 ≤ 144115188075855872 := by omega
  have HT := Lib.hid ht; have H := Lib.hid h
  clear ht h
  by_cases h3 : a.tmod 64 < 0
  all_goals
    go_enter Try.func94, Try.ntmps94
    go_wp2
    go_ret
    have ht := HT.out
    have h := H.out
    exact ⟨ret_int (by omega), rfl⟩
theorem round_any (a : Int) (h : inL a) (w : World) : Calls Try.prog 80 #[.int .i64 a] w fun e w' => e = .returned (.int .i64 ((a + 32) / 64)) ∧ w = w' := by
  obtain ⟨h1, h2⟩ := h
  have hi : i64 a := by unfold i64; omega
  have b1 : -274877906944 ≤ a / 64 := by omega
  have b2 : a / 64 ≤ 274877906944 := by omega
  have HI := Lib.hid hi; clear hi
  by_cases h3 : 32 ≤ a - a / 64 * 64
  all_goals
    go_enter Try.func80, Try.ntmps80
    go_wp2_with (go_at_call 94; (with_reducible refine (floor_any _ HI.out _).mono ?_); rintro e w1 ⟨rfl, rfl⟩)
    go_ret
    exact ⟨ret_int (by omega), rfl⟩
end Go.Proofs.Ytjcbphhemmdnjaa
