/- law26 (stack): stack.Order by contract. -/
import Derived.Test.YtjcbphhemmdnjaaStkM
namespace Go.Proofs.Ytjcbphhemmdnjaa
open Go Go.RowKit
set_option linter.unusedSimpArgs false
set_option linter.unusedVariables false
-- below_from_drew
attribute [local go_sem] ov_cell_same ov_cell_other ov_frozen_same ov_frozen_other ov_size ov_setCell_same ov_setCell_other cell_alloc_old frozen_alloc_old setCell_alloc_old old_alloc old_ov old_drew old_drewN old_setCell
attribute [local go_sem ↓] run_max2 run_min2
set_option maxRecDepth 100000 in
set_option maxHeartbeats 1000000 in
theorem porder_nil (m : Value) (w : World) : Calls Try.prog 18 #[.pointer none, m] w fun e w' => e = .returned (.slice none 0 0) ∧ Below w.heap.size w w' := by
  go_enter Try.func18, Try.ntmps18
  go_wp2_with fail
  go_ret
  exact ⟨rfl, by (repeat' (first | (with_reducible exact Below.refl _ _) | (with_reducible assumption) | (with_reducible refine below_from_drew ?_) | (with_reducible refine Below.alloc ?_ ?_ _) | (with_reducible refine Below.drew ?_) | (with_reducible refine below_drewN ?_ _) | (with_reducible refine Below.setCell ?_ ?_ _) | (with_reducible refine below_via ?_ (by assumption) ?_) | (with_reducible refine below_ov ?_ ?_ _ _) | go_size))⟩
set_option maxRecDepth 100000 in
set_option maxHeartbeats 1000000 in
theorem porder_any (l : List N26) (N pt bm bn : Nat) (base : Nat → Prop) (R : Rows) (w : World) (hN : N ≤ 60) (h0 : 0 < N) (h : In26 w l N pt bm bn base R) :
    Calls Try.prog 18 #[.pointer (some ⟨pt, 0, none⟩), .map (some bn)] w fun e w' => ∃ v, e = .returned v ∧ OwnN w' w.heap.size v (paintN (pa26 l) N (ctx26 l) (z26 l) 0) ∧ Below w.heap.size w w' := by
  have HP := Lib.hid (show ∀ X, Below w.heap.size w X → Calls Try.prog 40 #[.agg #[.pointer (some ⟨pt, 0, none⟩), .map (some bn)], .int .i64 0] X fun e w' => ∃ v, e = .returned v ∧ OwnN w' X.heap.size v (paintN (pa26 l) N (ctx26 l) (z26 l) 0) ∧ Below X.heap.size X w' from fun X hX => ppaint_any l N pt bm bn base R hN N 0 X (by omega) h0 (.inl rfl) (h.below hX))
  clear h
  go_enter Try.func18, Try.ntmps18
  go_wp2_with (((go_at_call 40; (with_reducible refine (HP.out _ (by (repeat' (first | (with_reducible exact Below.refl _ _) | (with_reducible assumption) | (with_reducible refine below_from_drew ?_) | (with_reducible refine Below.alloc ?_ ?_ _) | (with_reducible refine Below.drew ?_) | (with_reducible refine below_drewN ?_ _) | (with_reducible refine Below.setCell ?_ ?_ _) | (with_reducible refine below_via ?_ (by assumption) ?_) | (with_reducible refine below_ov ?_ ?_ _ _) | go_size)))).mono ?_); rintro e u6 ⟨v6, rfl, hown6, hb⟩; have hz := hb.size; refine (fun hB => ?_ : Below w.heap.size w u6 → _) ?_; rotate_left; (focus ((repeat' (first | (with_reducible exact Below.refl _ _) | (with_reducible assumption) | (with_reducible refine below_from_drew ?_) | (with_reducible refine Below.alloc ?_ ?_ _) | (with_reducible refine Below.drew ?_) | (with_reducible refine below_drewN ?_ _) | (with_reducible refine Below.setCell ?_ ?_ _) | (with_reducible refine below_via ?_ (by assumption) ?_) | (with_reducible refine below_ov ?_ ?_ _ _) | go_size)); done)); (try simp only [World.size_alloc, World.size_setCell, World.size_drew, ov_size] at hz))); have HO6 := Lib.hid hown6; clear hown6)
  go_ret
  exact ⟨_, rfl, HO6.out, by (repeat' (first | (with_reducible exact Below.refl _ _) | (with_reducible assumption) | (with_reducible refine below_from_drew ?_) | (with_reducible refine Below.alloc ?_ ?_ _) | (with_reducible refine Below.drew ?_) | (with_reducible refine below_drewN ?_ _) | (with_reducible refine Below.setCell ?_ ?_ _) | (with_reducible refine below_via ?_ (by assumption) ?_) | (with_reducible refine below_ov ?_ ?_ _ _) | go_size))⟩
end Go.Proofs.Ytjcbphhemmdnjaa
