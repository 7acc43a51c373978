/- The law WidthEquation: the plain law. -/
import Derived.Test.YtmfbelepmbodlaaWidthI
namespace Go.Proofs.Ytmfbelepmbodlaa
open Go.RowKit
set_option linter.unusedSimpArgs false
set_option linter.unusedVariables false

theorem solve_one {av W : Int} {au : Bool} {L R : Int} {aL aR : Bool} {E lo hi : Int} {bd : Bool} (h1 : sm av) (h2 : sm W) (h3 : sm L) (h4 : sm R) (h5 : sm E) (h6 : sm lo) (h7 : sm hi) :
    ∃ x y W' au', solveF av W au L R aL aR E lo hi bd = some (x, y, av - (y + x + E)) ∧ sm W' ∧ w2 au' (bif au' then 0 else W') (frF av W' au' L R aL aR E) = x ∧ l2 au' aL aR (bif aL then 0 else L) (frF av W' au' L R aL aR E) = y ∧
      ((W' = W ∧ au' = au ∧ lo ≤ x ∧ (bd = true → x ≤ hi)) ∨ (W' = hi ∧ au' = false ∧ lo ≤ x ∧ bd = true ∧ (au = false → hi < W)) ∨ (W' = lo ∧ au' = false ∧ (au = false → W < lo ∨ (bd = true ∧ hi < W)))) := by
  obtain ⟨x1, y1, e1, f1, g1⟩ := once_small (au := au) (aL := aL) (aR := aR) h1 h2 h3 h4 h5
  obtain ⟨x2, y2, e2, f2, g2⟩ := once_small (au := false) (aL := aL) (aR := aR) h1 h7 h3 h4 h5
  obtain ⟨x3, y3, e3, f3, g3⟩ := once_small (au := false) (aL := aL) (aR := aR) h1 h6 h3 h4 h5
  have k1 : au = false → x1 = W := by rintro rfl; rw [← f1]; rfl
  unfold solveF
  rw [e1, e2, e3]
  dsimp only
  by_cases hc : bd = true ∧ hi < x1
  · rw [if_pos hc]
    dsimp only
    by_cases hl : x2 < lo
    · rw [if_pos hl]
      exact ⟨x3, y3, lo, false, rfl, h6, f3, g3, .inr (.inr ⟨rfl, rfl, fun h => .inr ⟨hc.1, by rw [← k1 h]; exact hc.2⟩⟩)⟩
    · rw [if_neg hl]
      exact ⟨x2, y2, hi, false, rfl, h7, f2, g2, .inr (.inl ⟨rfl, rfl, by omega, hc.1, fun h => by rw [← k1 h]; exact hc.2⟩)⟩
  · rw [if_neg hc]
    dsimp only
    by_cases hl : x1 < lo
    · rw [if_pos hl]
      exact ⟨x3, y3, lo, false, rfl, h6, f3, g3, .inr (.inr ⟨rfl, rfl, fun h => .inl (by rw [← k1 h]; exact hl)⟩)⟩
    · rw [if_neg hl]
      exact ⟨x1, y1, W, au, rfl, h2, f1, g1, .inl ⟨rfl, rfl, by omega, fun h => by
        have : ¬ hi < x1 := fun h' => hc ⟨h, h'⟩
        omega⟩⟩

/-- All that the law asks. -/
theorem weq (av W : Int) (au : Bool) (L R : Int) (aL aR : Bool) (E lo hi : Int) (bd : Bool) (h1 : sm av) (h2 : sm W) (h3 : sm L) (h4 : sm R) (h5 : sm E) (h6 : sm lo) (h7 : sm hi) :
    ∃ x y z, solveF av W au L R aL aR E lo hi bd = some (x, y, z) ∧ (-17592186044416 ≤ x ∧ x ≤ 17592186044416 ∧ -17592186044416 ≤ y ∧ y ≤ 17592186044416 ∧ -17592186044416 ≤ z ∧ z ≤ 17592186044416) ∧ y + x + E + z = av ∧ lo ≤ x ∧ (bd = true → x ≤ max lo hi) ∧
      (au = false → lo ≤ W → (bd = false ∨ W ≤ hi) → x = W) ∧ (aL = false → y = L) ∧ (aL = true → aR = true → 0 ≤ av - x - E → (y ≤ z ∧ z ≤ y + 1) ∨ (au = true ∧ y = 0)) ∧
      (aL = true → 0 ≤ av - x - E ∨ y = 0 ∨ (aR = false ∧ 0 ≤ y)) := by
  obtain ⟨x, y, W', au', e, h8, hx, hy, hd⟩ := solve_one (au := au) (aL := aL) (aR := aR) (bd := bd) h1 h2 h3 h4 h5 h6 h7
  refine ⟨x, y, _, e, ?_⟩
  have hc := w2l2 hx hy
  clear e hx hy
  unfold frF at hc
  simp only [sm] at h1 h2 h3 h4 h5 h6 h7 h8
  cases au' <;> cases aL <;> cases aR <;> simp only [cond_true, cond_false, Bool.true_eq_false, Bool.false_eq_true, false_and, true_and, false_or, or_false, and_false, false_implies, true_implies] at hc ⊢
  all_goals
    cases au <;> cases bd <;> simp only [Bool.true_eq_false, Bool.false_eq_true, false_and, true_and, false_or, or_false, and_false, false_implies, true_implies, and_true, true_or, or_true] at hd ⊢ <;> omega
end Go.Proofs.Ytmfbelepmbodlaa
