/- SnapBands, plain. -/
import Derived.Test.YtbjmncgfbdkidaaSnapF
namespace Go.Proofs.Ytbjmncgfbdkidaa
open Go.RowKit
set_option linter.unusedSimpArgs false
set_option linter.unusedVariables false

/-- On which side is a pixel? -/
def sideF (p q r s P0 P1 P2 P3 x y : Int) : Int :=
  if ¬ (p ≤ x ∧ x < r ∧ q ≤ y ∧ y < s) then -1 else if y - q < P0 then 0 else if s - 1 - y < P2 then 2 else if x - p < P3 then 3 else if r - 1 - x < P1 then 1 else 4
/-- A band of n pixels, of so many. -/
def bw (P most : Int) : Int := min (max P 0) most
/-- All bands: what is known of each of the five rectangles. -/
def Five (p q r s P0 P1 P2 P3 : Int) (A0 A1 A2 A3 A4 A5 A6 A7 A8 A9 A10 A11 A12 A13 A14 A15 I0 I1 I2 I3 : Int) : Prop :=
  (∀ x y, decide (A0 ≤ x ∧ x < A2 ∧ A1 ≤ y ∧ y < A3) = (sideF p q r s P0 P1 P2 P3 x y == 0)) ∧
  (∀ x y, decide (A4 ≤ x ∧ x < A6 ∧ A5 ≤ y ∧ y < A7) = (sideF p q r s P0 P1 P2 P3 x y == 1)) ∧
  (∀ x y, decide (A8 ≤ x ∧ x < A10 ∧ A9 ≤ y ∧ y < A11) = (sideF p q r s P0 P1 P2 P3 x y == 2)) ∧
  (∀ x y, decide (A12 ≤ x ∧ x < A14 ∧ A13 ≤ y ∧ y < A15) = (sideF p q r s P0 P1 P2 P3 x y == 3)) ∧
  (∀ x y, decide (I0 ≤ x ∧ x < I2 ∧ I1 ≤ y ∧ y < I3) = (sideF p q r s P0 P1 P2 P3 x y == 4)) ∧
  (I2 - I0) * (I3 - I1) + (A2 - A0) * (A3 - A1) + (A6 - A4) * (A7 - A5) + (A10 - A8) * (A11 - A9) + (A14 - A12) * (A15 - A13) = (r - p) * (s - q)
theorem side_z (P0 P1 P2 P3 x y : Int) : sideF 0 0 0 0 P0 P1 P2 P3 x y = -1 := by unfold sideF; rw [if_pos (by omega)]
theorem five_z (P0 P1 P2 P3 : Int) : Five 0 0 0 0 P0 P1 P2 P3 0 0 0 0 0 0 0 0 0 0 0 0 0 0 0 0 0 0 0 0 := by
  refine ⟨?_, ?_, ?_, ?_, ?_, by simp⟩ <;> (intro x y; rw [side_z]; first | (simp; done) | (simp; omega))
/-- A rectangle put right, as pixels: those asked for. -/
theorem rr_has {a b c d : Int} (h1 : -1073741824 ≤ a ∧ a ≤ 1073741824) (h2 : -1073741824 ≤ b ∧ b ≤ 1073741824) (h3 : -1073741824 ≤ c ∧ c ≤ 1073741824) (h4 : -1073741824 ≤ d ∧ d ≤ 1073741824) (x y : Int) :
    (r0 a b c d ≤ x ∧ x < r2 a b c d ∧ r1 a b c d ≤ y ∧ y < r3 a b c d) ↔ (a ≤ x ∧ x < c ∧ b ≤ y ∧ y < d) := by
  rcases r_in h1 h2 h3 h4 with ⟨k1, k2, k3, k4, k5, k6⟩ | ⟨k1, k3, k4, k5, k6⟩
  · rw [k3, k4, k5, k6]
  · rw [k3, k4, k5, k6]; omega
theorem rr_area {a b c d : Int} (h1 : -1073741824 ≤ a ∧ a ≤ 1073741824) (h2 : -1073741824 ≤ b ∧ b ≤ 1073741824) (h3 : -1073741824 ≤ c ∧ c ≤ 1073741824) (h4 : -1073741824 ≤ d ∧ d ≤ 1073741824) (hx : a ≤ c) (hy : b ≤ d) :
    (r2 a b c d - r0 a b c d) * (r3 a b c d - r1 a b c d) = (c - a) * (d - b) := by
  rcases r_in h1 h2 h3 h4 with ⟨k1, k2, k3, k4, k5, k6⟩ | ⟨k1, k3, k4, k5, k6⟩
  · rw [k3, k4, k5, k6]
  · rw [k3, k4, k5, k6]
    rcases k1 with k | k
    · rw [show c - a = 0 by omega]; simp
    · rw [show d - b = 0 by omega]; simp
theorem five_any {p q r s P0 P1 P2 P3 t b l e m1 m3 : Int} (hb : (-1073741824 ≤ p ∧ r ≤ 1073741824) ∧ (-1073741824 ≤ q ∧ s ≤ 1073741824)) (hpr : p < r) (hqs : q < s)
    (et : t = bw P0 (s - q)) (eb : b = bw P2 (s - q - t)) (el : l = bw P3 (r - p)) (ee : e = bw P1 (r - p - l)) (em1 : m1 = r1 p (q + t) r (s - b)) (em3 : m3 = r3 p (q + t) r (s - b)) :
    Five p q r s P0 P1 P2 P3 (r0 p q r (q + t)) (r1 p q r (q + t)) (r2 p q r (q + t)) (r3 p q r (q + t)) (r0 (r - e) m1 r m3) (r1 (r - e) m1 r m3) (r2 (r - e) m1 r m3) (r3 (r - e) m1 r m3) (r0 p (s - b) r s) (r1 p (s - b) r s) (r2 p (s - b) r s) (r3 p (s - b) r s) (r0 p m1 (p + l) m3) (r1 p m1 (p + l) m3) (r2 p m1 (p + l) m3) (r3 p m1 (p + l) m3)
      (r0 (p + l) m1 (r - e) m3) (r1 (p + l) m1 (r - e) m3) (r2 (p + l) m1 (r - e) m3) (r3 (p + l) m1 (r - e) m3) := by
  obtain ⟨⟨hb1, hb2⟩, hb3, hb4⟩ := hb
  have t1 : 0 ≤ t ∧ t ≤ s - q := by rw [et]; unfold bw; omega
  have b1 : 0 ≤ b ∧ b ≤ s - q - t := by rw [eb]; unfold bw; omega
  have l1 : 0 ≤ l ∧ l ≤ r - p := by rw [el]; unfold bw; omega
  have e1 : 0 ≤ e ∧ e ≤ r - p - l := by rw [ee]; unfold bw; omega
  have hm := r_in (a := p) (b := q + t) (c := r) (d := s - b) (by omega) (by omega) (by omega) (by omega)
  have hm' : (q + t < s - b ∧ m1 = q + t ∧ m3 = s - b) ∨ (s - b = q + t ∧ m1 = 0 ∧ m3 = 0) := by rw [em1, em3]; omega
  clear hm em1 em3
  have mb : (-1073741824 ≤ m1 ∧ m1 ≤ 1073741824) ∧ (-1073741824 ≤ m3 ∧ m3 ≤ 1073741824) := by omega
  unfold bw at et eb el ee
  refine ⟨fun x y => ?_, fun x y => ?_, fun x y => ?_, fun x y => ?_, fun x y => ?_, ?_⟩
  · rw [Bool.eq_iff_iff, decide_eq_true_eq, beq_iff_eq, rr_has (by omega) (by omega) (by omega) (by omega)]
    unfold sideF; split <;> (try split) <;> (try split) <;> (try split) <;> (try split) <;> omega
  · rw [Bool.eq_iff_iff, decide_eq_true_eq, beq_iff_eq, rr_has (by omega) mb.1 (by omega) mb.2]
    unfold sideF; split <;> (try split) <;> (try split) <;> (try split) <;> (try split) <;> omega
  · rw [Bool.eq_iff_iff, decide_eq_true_eq, beq_iff_eq, rr_has (by omega) (by omega) (by omega) (by omega)]
    unfold sideF; split <;> (try split) <;> (try split) <;> (try split) <;> (try split) <;> omega
  · rw [Bool.eq_iff_iff, decide_eq_true_eq, beq_iff_eq, rr_has (by omega) mb.1 (by omega) mb.2]
    unfold sideF; split <;> (try split) <;> (try split) <;> (try split) <;> (try split) <;> omega
  · rw [Bool.eq_iff_iff, decide_eq_true_eq, beq_iff_eq, rr_has (by omega) mb.1 (by omega) mb.2]
    unfold sideF; split <;> (try split) <;> (try split) <;> (try split) <;> (try split) <;> omega
  · clear et eb el ee
    rw [rr_area (by omega) mb.1 (by omega) mb.2 (by omega) (by omega), rr_area (by omega) (by omega) (by omega) (by omega) (by omega) (by omega), rr_area (by omega) mb.1 (by omega) mb.2 (by omega) (by omega), rr_area (by omega) (by omega) (by omega) (by omega) (by omega) (by omega), rr_area (by omega) mb.1 (by omega) mb.2 (by omega) (by omega)]
    have hh : m3 - m1 = s - b - (q + t) := by omega
    rw [hh]
    generalize hH : s - b - (q + t) = H
    rw [show s - q = t + b + H by omega, show q + t - q = t by omega, show s - (s - b) = b by omega, show r - (r - e) = e by omega, show p + l - p = l by omega, show r - p = (r - e - (p + l)) + l + e by omega]
    generalize r - e - (p + l) = M
    simp only [Int.add_mul, Int.mul_add]
    omega
end Go.Proofs.Ytbjmncgfbdkidaa
