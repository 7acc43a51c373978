/- package tree: New. -/
import Derived.Test.YtjcbphhemmdnjaaTreeG
import Derived.Maps.RangeRun
namespace Go.Proofs.Ytjcbphhemmdnjaa
open Go.RowKit
set_option linter.unusedSimpArgs false
set_option linter.unusedVariables false
-- below_from_drew
attribute [local go_sem] ov_cell_same ov_cell_other ov_frozen_same ov_frozen_other ov_size ov_setCell_same ov_setCell_other cell_alloc_old frozen_alloc_old setCell_alloc_old old_alloc old_ov old_drew old_drewN old_setCell
attribute [local go_sem ↓] run_max2 run_min2
attribute [local go_sem] node_f0 node_f1 look_node look_node_ok put_node del_node len_node mapOk_alloc mapOf_alloc mapOk_drew mapOf_drew mapOk_drewN mapOf_drewN mapOk_ov mapOf_ov mapOk_put_same mapOf_put_same cell_putM frozen_putM old_putM

theorem below_put {B b : Nat} {w v : World} {k : Int} {x : Value} (h : Below B w v) (hb : B ≤ b) : Below B w (putM v b k x) :=
  ((ButS.of (S := fun _ => False) h).put (.inl hb)).below (fun _ _ q => q)
set_option maxRecDepth 100000 in
theorem tnew_any (w : World) : Calls Try.prog 32 #[] w fun e w' => ∃ p bm, e = .returned (.pointer (some ⟨p, 0, none⟩)) ∧ TreeAt w' p bm (fun b => w.heap.size ≤ b) [(0, 0)] 1 ∧ w.heap.size ≤ p ∧ w.heap.size ≤ bm ∧ Below w.heap.size w w' := by
  have hmk := mapOk_new (w := w) rfl
  have hmm := @run_makeMap Try.prog
  go_enter Try.func32, Try.ntmps32
  go_wp2_with fail
  go_ret
  have hm2 : mapOf (putM (w.alloc (.map #[] 0)) w.heap.size 0 (.agg #[.int .i64 (-1), .slice none 0 0])) w.heap.size = [(0, .agg #[.int .i64 (-1), .slice none 0 0])] := by
    rw [mapOf_put_same hmk, mapOf_new rfl]; rfl
  have hk2 := mapOk_put_same (k := 0) (v := .agg #[.int .i64 (-1), .slice none 0 0]) hmk
  refine ⟨w.heap.size + 1, w.heap.size, rfl, ⟨has_new (by simp), mapOk_alloc hk2, by omega, fun b q => (by rw [World.size_alloc, putM_size] at q; simp at q; omega), fun b q => (by rw [World.size_alloc, putM_size] at q; simp at q; omega), ⟨⟨[], rfl, by simp⟩, trivial, by simp [nums], by simp, by simp⟩, ?_⟩, by omega, Nat.le_refl _, (below_put (by (repeat' (first | (with_reducible exact Below.refl _ _) | (with_reducible assumption) | (with_reducible refine below_from_drew ?_) | (with_reducible refine Below.alloc ?_ ?_ _) | (with_reducible refine Below.drew ?_) | (with_reducible refine below_drewN ?_ _) | (with_reducible refine Below.setCell ?_ ?_ _) | (with_reducible refine below_via ?_ (by assumption) ?_) | (with_reducible refine below_ov ?_ ?_ _ _) | go_size))) (Nat.le_refl _)).alloc (by simp) _⟩
  rw [mapOf_alloc (by show w.heap.size < _; simp), hm2]
  refine ⟨fun A n d C e => ?_, fun A n d C e => by simp at e, fun k hk _ => ?_, rfl⟩
  · cases A with
    | nil =>
      injection e with e1 e2
      cases e1; subst e2
      exact ⟨.agg #[.int .i64 (-1), .slice none 0 0], by simp [mlook], none, 0, rfl, Nat.le_refl _, intsAt_nil _ _, fun h => by simp [kidsR, subR, lvl] at h⟩
    | cons x A => simp at e
  · have h0 : ¬ (0 : Int) = k := fun q => hk (by simp [nums, ← q])
    simp [mlook, h0]
end Go.Proofs.Ytjcbphhemmdnjaa
