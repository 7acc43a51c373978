/- Package width: the equation of a block's width. -/
import Derived.Test.YtmfbelepmbodlaaAdd
namespace Go.Proofs.Ytmfbelepmbodlaa
open Go.RowKit
set_option linter.unusedSimpArgs false
set_option linter.unusedVariables false
attribute [local go_sem] ov_cell_same ov_cell_other ov_frozen_same ov_frozen_other ov_size ov_setCell_same ov_setCell_other cell_alloc_old frozen_alloc_old setCell_alloc_old old_alloc old_ov old_drew old_drewN old_setCell
attribute [local go_sem ↓] run_max2 run_min2

/-- A length. -/
def inL (n : Int) : Prop := -17592186044416 ≤ n ∧ n ≤ 17592186044416
theorem notL {n : Int} (h : ¬ inL n) : n < -17592186044416 ∨ 17592186044416 < n := by unfold inL at h; omega
instance (n : Int) : Decidable (inL n) := by unfold inL; infer_instance

set_option maxRecDepth 100000 in
set_option maxHeartbeats 1000000 in
theorem plain_ok (av W : Int) (au : Bool) (L R : Int) (aL aR : Bool) (E lo hi : Int) (bd : Bool) (h1 : inL av) (h2 : inL (bif au then 0 else W)) (h3 : inL (bif aR then 0 else R)) (w : World) :
    Calls Try.prog 93 #[(.agg #[.int .i64 (av), .int .i64 (W), .bool (au), .int .i64 (L), .int .i64 (R), .bool (aL), .bool (aR), .int .i64 (E), .int .i64 (lo), .int .i64 (hi), .bool (bd)])] w fun e w' => e = .returned (.agg #[.int .i64 (av), .int .i64 (bif au then 0 else W), .bool (au), .int .i64 (bif aL then 0 else L), .int .i64 (bif aR then 0 else R), .bool (aL), .bool (aR), .int .i64 (E), .int .i64 (lo), .int .i64 (hi), .bool (bd)]) ∧ Below w.heap.size w w' := by
  obtain ⟨a1, a2⟩ := h1
  obtain ⟨a3, a4⟩ := h2
  obtain ⟨a5, a6⟩ := h3
  cases au <;> cases aL <;> cases aR
  all_goals
    simp only [cond_true, cond_false] at a3 a4 a5 a6 ⊢
    go_enter Try.func93, Try.ntmps93
    go_wp2_with (go_at_call 78; (with_reducible refine (of_ok _ (by omega) (by omega) _).mono ?_); rintro e w1 ⟨rfl, rfl⟩)
    go_returns
    exact ⟨rfl, by (repeat' (first | (with_reducible exact Below.refl _ _) | (with_reducible assumption) | (with_reducible refine Below.alloc ?_ ?_ _) | (with_reducible refine Below.drew ?_) | (with_reducible refine below_drewN ?_ _) | (with_reducible refine Below.setCell ?_ ?_ _) | (with_reducible refine below_via ?_ (by assumption) ?_) | (with_reducible refine below_ov ?_ ?_ _ _) | go_size))⟩
set_option maxRecDepth 100000 in
set_option maxHeartbeats 1000000 in
theorem plain_no (av W : Int) (au : Bool) (L R : Int) (aL aR : Bool) (E lo hi : Int) (bd : Bool) (h : ¬ (inL av ∧ inL (bif au then 0 else W) ∧ inL (bif aR then 0 else R))) (w : World) :
    Calls Try.prog 93 #[(.agg #[.int .i64 (av), .int .i64 (W), .bool (au), .int .i64 (L), .int .i64 (R), .bool (aL), .bool (aR), .int .i64 (E), .int .i64 (lo), .int .i64 (hi), .bool (bd)])] w fun e w' => e = .panicked (gave 2) ∧ Below w.heap.size w w' := by
  by_cases h1 : inL av
  · by_cases h2 : inL (bif au then 0 else W)
    · have h3 := notL (fun h3 => h ⟨h1, h2, h3⟩)
      clear h
      obtain ⟨a1, a2⟩ := h1
      obtain ⟨a3, a4⟩ := h2
      cases au <;> cases aL <;> cases aR
      all_goals
        simp only [cond_true, cond_false] at a3 a4 h3 ⊢
        first | omega | skip
      all_goals
        have H := Lib.hid h3; clear h3
        go_enter Try.func93, Try.ntmps93
        go_wp2_with fail
        (go_at_call 78; (with_reducible refine (of_ok _ a1 a2 _).mono ?_); rintro e w1 ⟨rfl, rfl⟩)
        go_wp2_with fail
        (go_at_call 78; (with_reducible refine (of_ok _ a3 a4 _).mono ?_); rintro e w1 ⟨rfl, rfl⟩)
        go_wp2_with fail
        (go_at_call 78; (with_reducible refine (of_no _ H.out _).mono ?_); rintro e w1 ⟨rfl, rfl⟩)
        exact ⟨rfl, rfl, by (repeat' (first | (with_reducible exact Below.refl _ _) | (with_reducible assumption) | (with_reducible refine Below.alloc ?_ ?_ _) | (with_reducible refine Below.drew ?_) | (with_reducible refine below_drewN ?_ _) | (with_reducible refine Below.setCell ?_ ?_ _) | (with_reducible refine below_via ?_ (by assumption) ?_) | (with_reducible refine below_ov ?_ ?_ _ _) | go_size))⟩
    · clear h
      have h3 := notL h2
      clear h2
      obtain ⟨a1, a2⟩ := h1
      cases au <;> cases aL <;> cases aR
      all_goals
        simp only [cond_true, cond_false] at h3 ⊢
        first | omega | skip
      all_goals
        have H := Lib.hid h3; clear h3
        go_enter Try.func93, Try.ntmps93
        go_wp2_with fail
        (go_at_call 78; (with_reducible refine (of_ok _ a1 a2 _).mono ?_); rintro e w1 ⟨rfl, rfl⟩)
        go_wp2_with fail
        (go_at_call 78; (with_reducible refine (of_no _ H.out _).mono ?_); rintro e w1 ⟨rfl, rfl⟩)
        exact ⟨rfl, rfl, by (repeat' (first | (with_reducible exact Below.refl _ _) | (with_reducible assumption) | (with_reducible refine Below.alloc ?_ ?_ _) | (with_reducible refine Below.drew ?_) | (with_reducible refine below_drewN ?_ _) | (with_reducible refine Below.setCell ?_ ?_ _) | (with_reducible refine below_via ?_ (by assumption) ?_) | (with_reducible refine below_ov ?_ ?_ _ _) | go_size))⟩
  · have H := Lib.hid (notL h1)
    clear h h1
    cases au <;> cases aL <;> cases aR
    all_goals
      go_enter Try.func93, Try.ntmps93
      go_wp2_with fail
      (go_at_call 78; (with_reducible refine (of_no _ H.out _).mono ?_); rintro e w1 ⟨rfl, rfl⟩)
      exact ⟨rfl, rfl, by (repeat' (first | (with_reducible exact Below.refl _ _) | (with_reducible assumption) | (with_reducible refine Below.alloc ?_ ?_ _) | (with_reducible refine Below.drew ?_) | (with_reducible refine below_drewN ?_ _) | (with_reducible refine Below.setCell ?_ ?_ _) | (with_reducible refine below_via ?_ (by assumption) ?_) | (with_reducible refine below_ov ?_ ?_ _ _) | go_size))⟩
end Go.Proofs.Ytmfbelepmbodlaa
