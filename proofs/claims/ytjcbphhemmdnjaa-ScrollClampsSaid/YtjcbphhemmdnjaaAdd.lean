/- fixed.Add. -/
import Derived.Test.YtjcbphhemmdnjaaTry
-- SOFT
namespace Go.Proofs.Ytjcbphhemmdnjaa
open Go.RowKit
set_option linter.unusedSimpArgs false
set_option linter.unusedVariables false
attribute [local go_sem] ov_cell_same ov_cell_other ov_frozen_same ov_frozen_other ov_size ov_setCell_same ov_setCell_other cell_alloc_old frozen_alloc_old setCell_alloc_old old_alloc old_ov old_drew old_drewN old_setCell
attribute [local go_sem ↓] run_max2 run_min2

def addF : Int → List Int → Option Int
  | s, [] => some s
  | s, x :: xs => if -17592186044416 ≤ s + clip x ∧ s + clip x ≤ 17592186044416 then addF (s + clip x) xs else none
theorem drop_cons {xs : List Int} {k : Nat} (h : k < xs.length) : xs.drop k = xs.getD k 0 :: xs.drop (k + 1) := by
  rw [List.drop_eq_getElem_cons h]; simp [h]

set_option maxRecDepth 100000 in
set_option maxHeartbeats 400000 in
theorem add_ok (b len cap : Nat) (xs : List Int) (r : Int) (w : World) (hl : xs.length = len) (hc : ∀ i, i < len → w.cell? ⟨b, i, none⟩ = some (.int .i64 (xs.getD i 0))) (hm : len ≤ 1000) (h : addF 0 xs = some r) :
    Calls Try.prog 55 #[.slice (some ⟨b, 0, none⟩) len cap] w fun e w' => e = .returned (.int .i64 r) ∧ w = w' := by
  have HC := Lib.hid hc; clear hc
  have HL := Lib.hid hl; clear hl
  have H := Lib.hid h; clear h
  go_enter Try.func55, Try.ntmps55
  go_wp2_with fail
  go_loop [3, 8] (fun s i => ∃ (k : Nat) (v : Int), k ≤ len ∧ -17592186044416 ≤ v ∧ v ≤ 17592186044416 ∧ addF v (xs.drop k) = some r ∧ s = .int .i64 v ∧ i = .int .i64 k) (fun _ i => len - (intOf i).toNat)
  case atStart => exact ⟨0, 0, Nat.zero_le _, by omega, by omega, H.out, rfl, rfl⟩
  case round =>
    obtain ⟨k, v, hk, hv1, hv2, ha, rfl, rfl⟩ := hrel
    by_cases hlt : k < len
    · have hcell := HC.out k hlt
      have e := drop_cons (xs := xs) (k := k) (by rw [HL.out]; exact hlt)
      rw [e] at ha
      simp only [addF] at ha
      generalize xs.getD k 0 = x at *
      have cb := clip_le x
      by_cases hin : -17592186044416 ≤ v + clip x ∧ v + clip x ≤ 17592186044416
      · rw [if_pos hin] at ha
        have HA := Lib.hid ha; clear ha e
        obtain ⟨hi1, hi2⟩ := hin
        go_wp2_with (first | (go_at_call 77; (with_reducible refine (clipped_any _ _).mono ?_); rintro e w1 ⟨rfl, rfl⟩) | (go_at_call 76; (with_reducible refine (of_ok _ hi1 hi2 _).mono ?_); rintro e w1 ⟨rfl, rfl⟩))
        go_round
        case rel => exact ⟨k + 1, _, by omega, hi1, hi2, HA.out, rfl, by go_num⟩
        case measure => simp [intOf]; omega
      · rw [if_neg hin] at ha; cases ha
    · have e : xs.drop k = [] := List.drop_eq_nil_of_le (by rw [HL.out]; omega)
      rw [e] at ha
      simp only [addF, Option.some.injEq] at ha
      subst ha
      clear e
      go_wp2
      go_ret
      exact ⟨rfl, rfl⟩

set_option maxRecDepth 100000 in
set_option maxHeartbeats 400000 in
theorem add_no (b len cap : Nat) (xs : List Int) (w : World) (hl : xs.length = len) (hc : ∀ i, i < len → w.cell? ⟨b, i, none⟩ = some (.int .i64 (xs.getD i 0))) (hm : len ≤ 1000) (h : addF 0 xs = none) :
    Calls Try.prog 55 #[.slice (some ⟨b, 0, none⟩) len cap] w fun e w' => e = .panicked (gave 2) ∧ w = w' := by
  have HC := Lib.hid hc; clear hc
  have HL := Lib.hid hl; clear hl
  have H := Lib.hid h; clear h
  go_enter Try.func55, Try.ntmps55
  go_wp2_with fail
  go_loop [3, 8] (fun s i => ∃ (k : Nat) (v : Int), k ≤ len ∧ -17592186044416 ≤ v ∧ v ≤ 17592186044416 ∧ addF v (xs.drop k) = none ∧ s = .int .i64 v ∧ i = .int .i64 k) (fun _ i => len - (intOf i).toNat)
  case atStart => exact ⟨0, 0, Nat.zero_le _, by omega, by omega, H.out, rfl, rfl⟩
  case round =>
    obtain ⟨k, v, hk, hv1, hv2, ha, rfl, rfl⟩ := hrel
    by_cases hlt : k < len
    · have hcell := HC.out k hlt
      have e := drop_cons (xs := xs) (k := k) (by rw [HL.out]; exact hlt)
      rw [e] at ha
      simp only [addF] at ha
      generalize xs.getD k 0 = x at *
      have cb := clip_le x
      by_cases hin : -17592186044416 ≤ v + clip x ∧ v + clip x ≤ 17592186044416
      · rw [if_pos hin] at ha
        have HA := Lib.hid ha; clear ha e
        obtain ⟨hi1, hi2⟩ := hin
        go_wp2_with (first | (go_at_call 77; (with_reducible refine (clipped_any _ _).mono ?_); rintro e w1 ⟨rfl, rfl⟩) | (go_at_call 76; (with_reducible refine (of_ok _ hi1 hi2 _).mono ?_); rintro e w1 ⟨rfl, rfl⟩))
        go_round
        case rel => exact ⟨k + 1, _, by omega, hi1, hi2, HA.out, rfl, by go_num⟩
        case measure => simp [intOf]; omega
      · have hin' : v + clip x < -17592186044416 ∨ 17592186044416 < v + clip x := by omega
        have HI := Lib.hid hin'; clear hin hin' ha e
        go_wp2_with (first | (go_at_call 77; (with_reducible refine (clipped_any _ _).mono ?_); rintro e w1 ⟨rfl, rfl⟩) | (go_at_call 76; (with_reducible refine (of_no _ HI.out _).mono ?_); rintro e w1 ⟨rfl, rfl⟩))
        exact ⟨rfl, rfl, rfl⟩
    · have e : xs.drop k = [] := List.drop_eq_nil_of_le (by rw [HL.out]; omega)
      rw [e] at ha
      simp only [addF] at ha
      cases ha
end Go.Proofs.Ytjcbphhemmdnjaa
