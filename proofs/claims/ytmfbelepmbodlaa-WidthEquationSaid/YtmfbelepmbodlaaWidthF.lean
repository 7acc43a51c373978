/- ref15: the document's answer. -/
import Derived.Test.YtmfbelepmbodlaaWidthE
namespace Go.Proofs.Ytmfbelepmbodlaa
open Go.RowKit
set_option linter.unusedSimpArgs false
set_option linter.unusedVariables false
attribute [local go_sem] ov_cell_same ov_cell_other ov_frozen_same ov_frozen_other ov_size ov_setCell_same ov_setCell_other cell_alloc_old frozen_alloc_old setCell_alloc_old old_alloc old_ov old_drew old_drewN old_setCell
attribute [local go_sem ↓] run_max2 run_min2

/-- A number that has room. -/
def sm (n : Int) : Prop := -1099511627776 ≤ n ∧ n ≤ 1099511627776
theorem clip_id {n : Int} (h1 : -52776558133248 ≤ n) (h2 : n ≤ 52776558133248) : clip n = n := by unfold clip; omega
theorem addF_nil (s : Int) : addF s [] = some s := rfl
theorem addF_cons {s x : Int} {xs : List Int} (h1 : -17592186044416 ≤ s + x) (h2 : s + x ≤ 17592186044416) (h3 : -52776558133248 ≤ x) (h4 : x ≤ 52776558133248) : addF s (x :: xs) = addF (s + x) xs := by
  simp only [addF]
  rw [clip_id h3 h4, if_pos ⟨h1, h2⟩]
theorem subF_small {a b : Int} (h1 : -17592186044416 ≤ a - b) (h2 : a - b ≤ 17592186044416) (ha1 : -52776558133248 ≤ a) (ha2 : a ≤ 52776558133248) (hb1 : -52776558133248 ≤ b) (hb2 : b ≤ 52776558133248) : subF a b = some (a - b) := by
  unfold subF
  rw [clip_id ha1 ha2, clip_id hb1 hb2, if_pos ⟨⟨h1, h2⟩, ⟨h1, h2⟩⟩]
/-- What is free. -/
def frF (av W : Int) (au : Bool) (L R : Int) (aL aR : Bool) (E : Int) : Int := av - ((bif aL then 0 else L) + (bif au then 0 else W) + E + (bif aR then 0 else R))
theorem bif_sm {b : Bool} {n : Int} (h : sm n) : sm (bif b then 0 else n) := by cases b <;> simp [sm] at h ⊢; exact h
theorem once_small {av W : Int} {au : Bool} {L R : Int} {aL aR : Bool} {E : Int} (h1 : sm av) (h2 : sm W) (h3 : sm L) (h4 : sm R) (h5 : sm E) :
    ∃ x y, onceF av W au L R aL aR E = some (x, y, av - (y + x + E)) ∧ w2 au (bif au then 0 else W) (frF av W au L R aL aR E) = x ∧ l2 au aL aR (bif aL then 0 else L) (frF av W au L R aL aR E) = y := by
  have g2 : sm (bif au then 0 else W) := bif_sm h2
  have g3 : sm (bif aL then 0 else L) := bif_sm h3
  have g4 : sm (bif aR then 0 else R) := bif_sm h4
  refine ⟨_, _, ?_, rfl, rfl⟩
  unfold onceF frF
  generalize (bif au then 0 else W) = W1 at *
  generalize (bif aL then 0 else L) = L1 at *
  generalize (bif aR then 0 else R) = R1 at *
  simp only [sm] at h1 h2 h3 h4 h5 g2 g3 g4
  rw [if_pos ⟨by unfold inL; omega, by unfold inL; omega, by unfold inL; omega⟩]
  rw [addF_cons (by omega) (by omega) (by omega) (by omega), addF_cons (by omega) (by omega) (by omega) (by omega), addF_cons (by omega) (by omega) (by omega) (by omega), addF_cons (by omega) (by omega) (by omega) (by omega), addF_nil]
  dsimp only
  rw [subF_small (by omega) (by omega) (by omega) (by omega) (by omega) (by omega)]
  have e : av - (0 + L1 + W1 + E + R1) = av - (L1 + W1 + E + R1) := by omega
  simp only [e]
  have hd := w2l2 (au := au) (aL := aL) (aR := aR) (W1 := W1) (L1 := L1) (free := av - (L1 + W1 + E + R1)) rfl rfl
  generalize w2 au W1 (av - (L1 + W1 + E + R1)) = x at *
  generalize l2 au aL aR L1 (av - (L1 + W1 + E + R1)) = y at *
  rw [addF_cons (by omega) (by omega) (by omega) (by omega), addF_cons (by omega) (by omega) (by omega) (by omega), addF_cons (by omega) (by omega) (by omega) (by omega), addF_nil]
  dsimp only
  rw [subF_small (by omega) (by omega) (by omega) (by omega) (by omega) (by omega)]
  simp only [Option.some.injEq, Prod.mk.injEq, true_and]
  omega
theorem agg3 {a b c x y z : Int} (h1 : a = x) (h2 : b = y) (h3 : c = z) : Ending.returned (.agg #[.int .i64 a, .int .i64 b, .int .i64 c]) = .returned (.agg #[.int .i64 x, .int .i64 y, .int .i64 z]) := by rw [h1, h2, h3]

set_option maxRecDepth 100000 in
set_option maxHeartbeats 1000000 in
theorem ronce_any (av W : Int) (au : Bool) (L R : Int) (aL aR : Bool) (E lo hi : Int) (bd : Bool) {x y z : Int} (h1 : sm av) (h2 : sm W) (h3 : sm L) (h4 : sm R) (h5 : sm E) (h : onceF av W au L R aL aR E = some (x, y, z)) (w : World) :
    Calls Try.prog 72 #[(.agg #[.int .i64 (av), .int .i64 (W), .bool (au), .int .i64 (L), .int .i64 (R), .bool (aL), .bool (aR), .int .i64 (E), .int .i64 (lo), .int .i64 (hi), .bool (bd)])] w fun e w' => e = .returned (.agg #[.int .i64 (x), .int .i64 (y), .int .i64 (z)]) ∧ Below w.heap.size w w' := by
  obtain ⟨x', y', e, e1, e2⟩ := once_small (au := au) (aL := aL) (aR := aR) h1 h2 h3 h4 h5
  rw [e] at h
  simp only [Option.some.injEq, Prod.mk.injEq] at h
  obtain ⟨rfl, rfl, hz⟩ := h
  have hd := w2l2 e1 e2
  clear e e1 e2
  unfold frF at hd
  obtain ⟨a1, a2⟩ := h1
  obtain ⟨a3, a4⟩ := h2
  obtain ⟨a5, a6⟩ := h3
  obtain ⟨a7, a8⟩ := h4
  obtain ⟨a9, a10⟩ := h5
  by_cases hs : av - ((bif aL then 0 else L) + (bif au then 0 else W) + E + (bif aR then 0 else R)) < 0 <;> cases au <;> cases aL <;> cases aR
  all_goals
    simp only [cond_true, cond_false, Bool.true_eq_false, Bool.false_eq_true, false_and, true_and, false_or, or_false, and_false] at hd hs
    have HD := Lib.hid hd; clear hd
    have HZ := Lib.hid hz; clear hz
    go_enter Try.func72, Try.ntmps72
    go_wp2
    go_returns
    exact ⟨agg3 (by have := HD.out; omega) (by have := HD.out; omega) (by have := HD.out; have := HZ.out; omega), by (repeat' (first | (with_reducible exact Below.refl _ _) | (with_reducible assumption) | (with_reducible refine Below.alloc ?_ ?_ _) | (with_reducible refine Below.drew ?_) | (with_reducible refine below_drewN ?_ _) | (with_reducible refine Below.setCell ?_ ?_ _) | (with_reducible refine below_via ?_ (by assumption) ?_) | (with_reducible refine below_ov ?_ ?_ _ _) | go_size))⟩
end Go.Proofs.Ytmfbelepmbodlaa
