/- law25.speaks; boxes that have room. -/
import Derived.Test.YtbjmncgfbdkidaaSnapC
namespace Go.Proofs.Ytbjmncgfbdkidaa
open Go.RowKit
set_option linter.unusedSimpArgs false
set_option linter.unusedVariables false
-- below_from_drew
attribute [local go_sem] ov_cell_same ov_cell_other ov_frozen_same ov_frozen_other ov_size ov_setCell_same ov_setCell_other cell_alloc_old frozen_alloc_old setCell_alloc_old old_alloc old_ov old_drew old_drewN old_setCell
attribute [local go_sem ↓] run_max2 run_min2 eql_rect
attribute [local go_sem ↓] bigb_xl bigb_xs
attribute [local go_sem] bigb_l bigb_s blkCells_ov_same blkCells_ov_other blkCells_new blkCells_old blkCells_drew blkCells_drewN putBlk_ov_same putBlk_ov_other putBlk_new putBlk_old putBlk_drew putBlk_drewN putBlk_size allOne_nil allOne_int allOne_bool allOne_slice allOne_pointer allOne_map allOne_string

/-- An edge, snapped. -/
def ed (n : Int) : Int := (n + 32) / 64
theorem edgeF_in {n : Int} (h : inL n) : edgeF n = some (ed n) := by unfold edgeF ofF; rw [if_pos h]; rfl
theorem addF_two {x u : Int} (h1 : inL x) (h2 : inL u) (h3 : inL (x + u)) : addF 0 [x, u] = some (x + u) := by
  unfold inL at h1 h2 h3
  have c1 : clip x = x := by unfold clip; omega
  have c2 : clip u = u := by unfold clip; omega
  simp only [addF, c1, c2]
  rw [if_pos (by omega), if_pos (by omega)]
  congr 1; omega
theorem boxF_in {x y u v : Int} (h1 : inL x) (h2 : inL y) (h3 : inL u) (h4 : inL v) (h5 : inL (x + u)) (h6 : inL (y + v)) : boxF x y u v = some (ed x, ed y, ed (x + u), ed (y + v)) := by
  unfold boxF
  rw [edgeF_in h1, edgeF_in h2, addF_two h1 h3 h5, addF_two h2 h4 h6]
  dsimp only [Option.bind_some]
  rw [edgeF_in h5, edgeF_in h6]
  rfl
/-- Bounds of a box that was cut. -/
def cutB (x y u v : Int) : Prop := (-17179869184 < x ∧ x < 17179869184) ∧ (-17179869184 < y ∧ y < 17179869184) ∧ (0 ≤ u ∧ u < 1073800000) ∧ (0 ≤ v ∧ v < 1073800000)
theorem cut_cutB (x y z t : Int) : cutB (x.tmod 17179869184) (y.tmod 17179869184) (z % 1073741824) (t % 1073741824) := by
  have h1 := Int.tmod_lt_of_pos x (b := 17179869184) (by omega)
  have h2 := Int.lt_tmod_of_pos x (b := 17179869184) (by omega)
  have h3 := Int.tmod_lt_of_pos y (b := 17179869184) (by omega)
  have h4 := Int.lt_tmod_of_pos y (b := 17179869184) (by omega)
  refine ⟨⟨by omega, h1⟩, ⟨by omega, h3⟩, by omega, by omega⟩
theorem boxF_cut {x y u v : Int} (h : cutB x y u v) : boxF x y u v = some (ed x, ed y, ed (x + u), ed (y + v)) := by
  obtain ⟨⟨h1, h2⟩, ⟨h3, h4⟩, ⟨h5, h6⟩, h7, h8⟩ := h
  exact boxF_in (by unfold inL; omega) (by unfold inL; omega) (by unfold inL; omega) (by unfold inL; omega) (by unfold inL; omega) (by unfold inL; omega)

theorem s25_c (w : World) : Calls Try.prog 57 #[(.agg #[.int .i64 (31), .int .i64 (32), .int .i64 (640), .int .i64 (640)])] w fun e w' => e = .returned (.tuple #[(.agg #[.int .i64 (0), .int .i64 (1), .int .i64 (10), .int .i64 (11)]), .int .i64 0]) ∧ Below w.heap.size w w' :=
  (s25_ok 31 32 640 640 (o := (0, 1, 10, 11)) (by decide) w).mono fun e w' ⟨he, hb⟩ => ⟨he.trans (by kernel_rfl), hb⟩
theorem bands_c (w : World) : Calls Try.prog 17 #[(.agg #[.int .i64 (0), .int .i64 (1), .int .i64 (10), .int .i64 (11)]), (.agg #[.int .i64 (64), .int .i64 (128), .int .i64 (64), .int .i64 (64)])] w fun ed w' => ed = .returned (.tuple #[.agg #[.int .i64 0, .int .i64 1, .int .i64 10, .int .i64 2, .int .i64 8, .int .i64 2, .int .i64 10, .int .i64 10, .int .i64 0, .int .i64 10, .int .i64 10, .int .i64 11, .int .i64 0, .int .i64 2, .int .i64 1, .int .i64 10], (.agg #[.int .i64 (1), .int .i64 (2), .int .i64 (8), .int .i64 (10)])]) ∧ Below w.heap.size w w' :=
  (bands_any 0 1 10 11 64 128 64 64 (by unfold NF; omega) (by unfold i64; omega) (by unfold i64; omega) (by unfold i64; omega) (by unfold i64; omega) 1 1 1 2 (by decide) (by decide) (by decide) (by decide) 0 2 10 10 (by decide) (by decide) (by decide) (by decide) w).mono fun e w' ⟨he, hb⟩ => ⟨he.trans (by kernel_rfl), hb⟩
set_option maxRecDepth 100000 in
set_option maxHeartbeats 1000000 in
theorem speaks25_any (w : World) : Calls Try.prog 14 #[] w fun e w' => e = .returned (.bool true) ∧ Below w.heap.size w w' := by
  go_enter Try.func14, Try.ntmps14
  go_wp2_with (go_at_call 57; (with_reducible refine (s25_c _).mono ?_); rintro e u1 ⟨rfl, hb⟩; have hz := hb.size; refine (fun hB => ?_ : Below w.heap.size w u1 → _) ?_; rotate_left; (focus ((repeat' (first | (with_reducible exact Below.refl _ _) | (with_reducible assumption) | (with_reducible refine below_from_drew ?_) | (with_reducible refine Below.alloc ?_ ?_ _) | (with_reducible refine Below.drew ?_) | (with_reducible refine below_drewN ?_ _) | (with_reducible refine Below.setCell ?_ ?_ _) | (with_reducible refine below_via ?_ (by assumption) ?_) | (with_reducible refine below_ov ?_ ?_ _ _) | go_size)); done)); (try simp only [World.size_alloc, World.size_setCell, World.size_drew, ov_size] at hz))
  go_wp2_with (go_at_call 17; (with_reducible refine (bands_c _).mono ?_); rintro e w1 ⟨rfl, hb⟩; refine Exists.elim (after1 (w := w) (b0 := u1.heap.size) (cs0 := ?_) (T0 := ?_) hb ?_ ?_) ?_; rotate_left 2; (focus ((repeat' (first | (with_reducible exact Below.refl _ _) | (with_reducible assumption) | (with_reducible refine below_from_drew ?_) | (with_reducible refine Below.alloc ?_ ?_ _) | (with_reducible refine Below.drew ?_) | (with_reducible refine below_drewN ?_ _) | (with_reducible refine Below.setCell ?_ ?_ _) | (with_reducible refine below_via ?_ (by assumption) ?_) | (with_reducible refine below_ov ?_ ?_ _ _) | go_size)); done)); (focus ((repeat' (first | (with_reducible refine has_drew ?_) | (with_reducible refine has_drewN ?_) | (with_reducible refine has_new ?_; (first | (with_reducible rfl) | omega | (simp; done) | (simp; omega))) | (with_reducible refine has_ov_same ?_; (first | (with_reducible rfl) | omega | (simp; done) | (simp; omega))) | (with_reducible refine has_alloc ?_) | (with_reducible refine has_ov_other ?_ ?_; (focus (first | (with_reducible rfl) | omega | (simp; done) | (simp; omega)))))); done)); rintro u2 ⟨rfl, hB, hz, z0, o0⟩; (try simp only [World.size_alloc, World.size_setCell, World.size_drew, ov_size] at hz))
  go_wp2_with fail
  go_ret
  exact ⟨rfl, by (repeat' (first | (with_reducible exact Below.refl _ _) | (with_reducible assumption) | (with_reducible refine below_from_drew ?_) | (with_reducible refine Below.alloc ?_ ?_ _) | (with_reducible refine Below.drew ?_) | (with_reducible refine below_drewN ?_ _) | (with_reducible refine Below.setCell ?_ ?_ _) | (with_reducible refine below_via ?_ (by assumption) ?_) | (with_reducible refine below_ov ?_ ?_ _ _) | go_size))⟩
end Go.Proofs.Ytbjmncgfbdkidaa
