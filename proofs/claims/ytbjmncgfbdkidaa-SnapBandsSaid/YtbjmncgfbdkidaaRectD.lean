/- Contracts of package rect's functions and of the document's. -/
import Derived.Test.YtbjmncgfbdkidaaRectC
-- SOFT
namespace Go.Proofs.Ytbjmncgfbdkidaa
open Go.RowKit
set_option linter.unusedSimpArgs false
set_option linter.unusedVariables false
attribute [local go_sem] ov_cell_same ov_cell_other ov_frozen_same ov_frozen_other ov_size ov_setCell_same ov_setCell_other cell_alloc_old frozen_alloc_old setCell_alloc_old old_alloc old_ov old_drew old_drewN old_setCell
attribute [local go_sem ↓] run_max2 run_min2 eql_rect

/-- Inset. -/
def i0 (a b c d t r m l : Int) : Int := if okR a b c d = true then r0 (r0 a b c d + farI l) (r1 a b c d + farI t) (r2 a b c d - farI r) (r3 a b c d - farI m) else 0
theorem i0_t {a b c d t r m l : Int} (h : okR a b c d = true) : i0 a b c d t r m l = r0 (r0 a b c d + farI l) (r1 a b c d + farI t) (r2 a b c d - farI r) (r3 a b c d - farI m) := by simp [i0, h]
theorem i0_f {a b c d t r m l : Int} (h : okR a b c d = false) : i0 a b c d t r m l = 0 := by simp [i0, h]
def i1 (a b c d t r m l : Int) : Int := if okR a b c d = true then r1 (r0 a b c d + farI l) (r1 a b c d + farI t) (r2 a b c d - farI r) (r3 a b c d - farI m) else 0
theorem i1_t {a b c d t r m l : Int} (h : okR a b c d = true) : i1 a b c d t r m l = r1 (r0 a b c d + farI l) (r1 a b c d + farI t) (r2 a b c d - farI r) (r3 a b c d - farI m) := by simp [i1, h]
theorem i1_f {a b c d t r m l : Int} (h : okR a b c d = false) : i1 a b c d t r m l = 0 := by simp [i1, h]
def i2 (a b c d t r m l : Int) : Int := if okR a b c d = true then r2 (r0 a b c d + farI l) (r1 a b c d + farI t) (r2 a b c d - farI r) (r3 a b c d - farI m) else 0
theorem i2_t {a b c d t r m l : Int} (h : okR a b c d = true) : i2 a b c d t r m l = r2 (r0 a b c d + farI l) (r1 a b c d + farI t) (r2 a b c d - farI r) (r3 a b c d - farI m) := by simp [i2, h]
theorem i2_f {a b c d t r m l : Int} (h : okR a b c d = false) : i2 a b c d t r m l = 0 := by simp [i2, h]
def i3 (a b c d t r m l : Int) : Int := if okR a b c d = true then r3 (r0 a b c d + farI l) (r1 a b c d + farI t) (r2 a b c d - farI r) (r3 a b c d - farI m) else 0
theorem i3_t {a b c d t r m l : Int} (h : okR a b c d = true) : i3 a b c d t r m l = r3 (r0 a b c d + farI l) (r1 a b c d + farI t) (r2 a b c d - farI r) (r3 a b c d - farI m) := by simp [i3, h]
theorem i3_f {a b c d t r m l : Int} (h : okR a b c d = false) : i3 a b c d t r m l = 0 := by simp [i3, h]

theorem ret_rect {a b c d x y z t : Int} (h0 : a = x) (h1 : b = y) (h2 : c = z) (h3 : d = t) : Ending.returned (.agg #[.int .i64 (a), .int .i64 (b), .int .i64 (c), .int .i64 (d)]) = .returned (.agg #[.int .i64 (x), .int .i64 (y), .int .i64 (z), .int .i64 (t)]) := by rw [h0, h1, h2, h3]
theorem r_f {a b c d : Int} (h : okR a b c d = false) : r0 a b c d = 0 ∧ r1 a b c d = 0 ∧ r2 a b c d = 0 ∧ r3 a b c d = 0 := by simp [r0, r1, r2, r3, h]
set_option maxRecDepth 100000 in
set_option maxHeartbeats 1000000 in
theorem rbound_any (n : Int) (w : World) : Calls Try.prog 132 #[.int .i64 n] w fun e w' => e = .returned (.int .i64 (bnd n)) ∧ w = w' := by
  go_enter Try.func132, Try.ntmps132
  go_wp2
  all_goals
    go_ret
    exact ⟨ret_int (by unfold bnd; omega), rfl⟩
set_option maxRecDepth 100000 in
set_option maxHeartbeats 1000000 in
theorem rright_any (a b c d : Int) (w : World) : Calls Try.prog 115 #[(.agg #[.int .i64 (a), .int .i64 (b), .int .i64 (c), .int .i64 (d)])] w fun e w' => e = .returned (.agg #[.int .i64 (r0 a b c d), .int .i64 (r1 a b c d), .int .i64 (r2 a b c d), .int .i64 (r3 a b c d)]) ∧ Below w.heap.size w w' := by
  go_enter Try.func115, Try.ntmps115
  go_wp2
  refine wp_loop_rounds 5 ?_
  repeat any_goals (rw [rounds_succ]; go_wp2_with (go_at_call 132; (with_reducible refine (rbound_any _ _).mono ?_); rintro e w1 ⟨rfl, rfl⟩))
  all_goals
    have q := r_all a b c d
    refine bodyPost_ret (by simp [results, Try.results115, go_sem]; try rfl) rfl ?_
    exact ⟨ret_rect (by omega) (by omega) (by omega) (by omega), by (repeat' (first | (with_reducible exact Below.refl _ _) | (with_reducible assumption) | (with_reducible refine Below.alloc ?_ ?_ _) | (with_reducible refine Below.drew ?_) | (with_reducible refine below_drewN ?_ _) | (with_reducible refine Below.setCell ?_ ?_ _) | (with_reducible refine below_via ?_ (by assumption) ?_) | (with_reducible refine below_ov ?_ ?_ _ _) | go_size))⟩
set_option maxRecDepth 100000 in
set_option maxHeartbeats 1000000 in
theorem rhas_any (a b c d x y : Int) (w : World) : Calls Try.prog 67 #[(.agg #[.int .i64 (a), .int .i64 (b), .int .i64 (c), .int .i64 (d)]), .int .i64 x, .int .i64 y] w fun e w' => e = .returned (.bool (hasR a b c d x y)) ∧ Below w.heap.size w w' := by
  go_enter Try.func67, Try.ntmps67
  go_wp2_with (go_at_call 115; (with_reducible refine (rright_any _ _ _ _ _).mono ?_); rintro e w1 ⟨rfl, hb⟩; refine Exists.elim (after1 (w := w) (b0 := w.heap.size) (cs0 := ?_) (T0 := ?_) hb ?_ ?_) ?_; rotate_left 2; (focus ((repeat' (first | (with_reducible exact Below.refl _ _) | (with_reducible assumption) | (with_reducible refine Below.alloc ?_ ?_ _) | (with_reducible refine Below.drew ?_) | (with_reducible refine below_drewN ?_ _) | (with_reducible refine Below.setCell ?_ ?_ _) | (with_reducible refine below_via ?_ (by assumption) ?_) | (with_reducible refine below_ov ?_ ?_ _ _) | go_size)); done)); (focus ((repeat' (first | (with_reducible refine has_drew ?_) | (with_reducible refine has_drewN ?_) | (with_reducible refine has_new ?_; (first | (with_reducible rfl) | omega | (simp; done) | (simp; omega))) | (with_reducible refine has_ov_same ?_; (first | (with_reducible rfl) | omega | (simp; done) | (simp; omega))) | (with_reducible refine has_alloc ?_) | (with_reducible refine has_ov_other ?_ ?_; (focus (first | (with_reducible rfl) | omega | (simp; done) | (simp; omega)))))); done)); rintro u ⟨rfl, hB, hz, z0, o0⟩; (try simp only [World.size_alloc, World.size_setCell, World.size_drew, ov_size] at hz))
  all_goals
    go_ret
    refine ⟨ret_bool ?_, by (repeat' (first | (with_reducible exact Below.refl _ _) | (with_reducible assumption) | (with_reducible refine Below.alloc ?_ ?_ _) | (with_reducible refine Below.drew ?_) | (with_reducible refine below_drewN ?_ _) | (with_reducible refine Below.setCell ?_ ?_ _) | (with_reducible refine below_via ?_ (by assumption) ?_) | (with_reducible refine below_ov ?_ ?_ _ _) | go_size))⟩
    rw [Bool.eq_iff_iff]
    simp [hasR]
    omega
end Go.Proofs.Ytbjmncgfbdkidaa
