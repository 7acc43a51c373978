/- Plain facts about rectangles: what two of them have, their hull, and whether one holds the other. -/
import Derived.Test.YtkpamofamcndnaaRectD
-- SOFT
namespace Go.Proofs.Ytkpamofamcndnaa
open Go.RowKit
set_option linter.unusedSimpArgs false
set_option linter.unusedVariables false

/-- The pixels of both. -/
def n0 (a b c d x y z t : Int) : Int := r0 (max (r0 a b c d) (r0 x y z t)) (max (r1 a b c d) (r1 x y z t)) (min (r2 a b c d) (r2 x y z t)) (min (r3 a b c d) (r3 x y z t))
def n1 (a b c d x y z t : Int) : Int := r1 (max (r0 a b c d) (r0 x y z t)) (max (r1 a b c d) (r1 x y z t)) (min (r2 a b c d) (r2 x y z t)) (min (r3 a b c d) (r3 x y z t))
def n2 (a b c d x y z t : Int) : Int := r2 (max (r0 a b c d) (r0 x y z t)) (max (r1 a b c d) (r1 x y z t)) (min (r2 a b c d) (r2 x y z t)) (min (r3 a b c d) (r3 x y z t))
def n3 (a b c d x y z t : Int) : Int := r3 (max (r0 a b c d) (r0 x y z t)) (max (r1 a b c d) (r1 x y z t)) (min (r2 a b c d) (r2 x y z t)) (min (r3 a b c d) (r3 x y z t))
theorem and_n (a b c d x y z t : Int) (w : World) : Calls Try.prog 32 #[(.agg #[.int .i64 (a), .int .i64 (b), .int .i64 (c), .int .i64 (d)]), (.agg #[.int .i64 (x), .int .i64 (y), .int .i64 (z), .int .i64 (t)])] w fun e w' => e = .returned (.agg #[.int .i64 (n0 a b c d x y z t), .int .i64 (n1 a b c d x y z t), .int .i64 (n2 a b c d x y z t), .int .i64 (n3 a b c d x y z t)]) ∧ Below w.heap.size w w' := and_any a b c d x y z t w

/-- What is put right is in bounds, and has pixels or is all 0. -/
def NF (p q r s : Int) : Prop := -1073741824 ≤ p ∧ -1073741824 ≤ q ∧ r ≤ 1073741824 ∧ s ≤ 1073741824 ∧ ((p < r ∧ q < s) ∨ (p = 0 ∧ q = 0 ∧ r = 0 ∧ s = 0))
theorem nf_r (a b c d : Int) : NF (r0 a b c d) (r1 a b c d) (r2 a b c d) (r3 a b c d) := by
  have h1 := r_all a b c d
  have h2 := r_bounds a b c d
  unfold NF
  omega
/-- Put right, where the numbers are in bounds. -/
theorem r_eval {p q r s : Int} (h1 : -1073741824 ≤ p ∧ p ≤ 1073741824) (h2 : -1073741824 ≤ q ∧ q ≤ 1073741824) (h3 : -1073741824 ≤ r ∧ r ≤ 1073741824) (h4 : -1073741824 ≤ s ∧ s ≤ 1073741824) :
    (p < r ∧ q < s ∧ r0 p q r s = p ∧ r1 p q r s = q ∧ r2 p q r s = r ∧ r3 p q r s = s) ∨ ((r ≤ p ∨ s ≤ q) ∧ r0 p q r s = 0 ∧ r1 p q r s = 0 ∧ r2 p q r s = 0 ∧ r3 p q r s = 0) := by
  have := r_all p q r s
  rw [bnd_in h1, bnd_in h2, bnd_in h3, bnd_in h4] at this
  exact this
theorem r_same {p q r s : Int} (h : NF p q r s) : r0 p q r s = p ∧ r1 p q r s = q ∧ r2 p q r s = r ∧ r3 p q r s = s := by
  unfold NF at h
  have := r_eval (p := p) (q := q) (r := r) (s := s) (by omega) (by omega) (by omega) (by omega)
  omega
theorem ok_iff (a b c d : Int) : okR a b c d = true ↔ r0 a b c d < r2 a b c d := by
  have h1 := r_all a b c d
  constructor
  · intro h
    have e := h
    simp only [okR, Bool.and_eq_true, decide_eq_true_eq] at e
    omega
  · intro h
    have : bnd a < bnd c ∧ bnd b < bnd d := by omega
    simp [okR, this]
theorem ok_not (a b c d : Int) : okR a b c d = false ↔ (r0 a b c d = 0 ∧ r1 a b c d = 0 ∧ r2 a b c d = 0 ∧ r3 a b c d = 0) := by
  have h1 := r_all a b c d
  constructor
  · intro h
    exact r_f h
  · intro h
    cases e : okR a b c d with
    | false => rfl
    | true => have := (ok_iff a b c d).1 e; omega
/-- What both have, in numbers. -/
theorem n_all (a b c d x y z t : Int) : ∃ p q r s A B C D X Y Z T, n0 a b c d x y z t = p ∧ n1 a b c d x y z t = q ∧ n2 a b c d x y z t = r ∧ n3 a b c d x y z t = s ∧ r0 a b c d = A ∧ r1 a b c d = B ∧ r2 a b c d = C ∧ r3 a b c d = D ∧ r0 x y z t = X ∧ r1 x y z t = Y ∧ r2 x y z t = Z ∧ r3 x y z t = T ∧
    NF A B C D ∧ NF X Y Z T ∧ NF p q r s ∧ ((max A X < min C Z ∧ max B Y < min D T ∧ p = max A X ∧ q = max B Y ∧ r = min C Z ∧ s = min D T) ∨ ((min C Z ≤ max A X ∨ min D T ≤ max B Y) ∧ p = 0 ∧ q = 0 ∧ r = 0 ∧ s = 0)) := by
  refine ⟨_, _, _, _, _, _, _, _, _, _, _, _, rfl, rfl, rfl, rfl, rfl, rfl, rfl, rfl, rfl, rfl, rfl, rfl, nf_r a b c d, nf_r x y z t, nf_r _ _ _ _, ?_⟩
  have b1 := r_bounds a b c d
  have b2 := r_bounds x y z t
  exact r_eval (by omega) (by omega) (by omega) (by omega)
theorem hasR_of {a b c d px py A B C D : Int} (h0 : r0 a b c d = A) (h1 : r1 a b c d = B) (h2 : r2 a b c d = C) (h3 : r3 a b c d = D) : hasR a b c d px py = decide (A ≤ px ∧ px < C ∧ B ≤ py ∧ py < D) := by
  unfold hasR; rw [h0, h1, h2, h3]
theorem has_n (a b c d x y z t px py : Int) : hasR (n0 a b c d x y z t) (n1 a b c d x y z t) (n2 a b c d x y z t) (n3 a b c d x y z t) px py = (hasR a b c d px py && hasR x y z t px py) := by
  obtain ⟨p, q, r, s, A, B, C, D, X, Y, Z, T, e0, e1, e2, e3, a0, a1, a2, a3, x0, x1, x2, x3, hA, hX, hp, h⟩ := n_all a b c d x y z t
  obtain ⟨s0, s1, s2, s3⟩ := r_same hp
  rw [e0, e1, e2, e3, hasR_of s0 s1 s2 s3, hasR_of a0 a1 a2 a3, hasR_of x0 x1 x2 x3, ← Bool.decide_and]
  congr 1
  apply propext
  omega
theorem n_comm (a b c d x y z t : Int) : n0 x y z t a b c d = n0 a b c d x y z t ∧ n1 x y z t a b c d = n1 a b c d x y z t ∧ n2 x y z t a b c d = n2 a b c d x y z t ∧ n3 x y z t a b c d = n3 a b c d x y z t := by
  simp only [n0, n1, n2, n3, Int.max_comm (r0 x y z t), Int.max_comm (r1 x y z t), Int.min_comm (r2 x y z t), Int.min_comm (r3 x y z t), and_self]
theorem eq4_comm_n (a b c d x y z t : Int) : eq4 (n0 a b c d x y z t) (n1 a b c d x y z t) (n2 a b c d x y z t) (n3 a b c d x y z t) (n0 x y z t a b c d) (n1 x y z t a b c d) (n2 x y z t a b c d) (n3 x y z t a b c d) = true := by
  obtain ⟨h0, h1, h2, h3⟩ := n_comm a b c d x y z t
  exact eq4_true ⟨h0.symm, h1.symm, h2.symm, h3.symm⟩
/-- The hull, in numbers. -/
theorem h_all (a b c d x y z t : Int) : ∃ p q r s A B C D X Y Z T, h0 a b c d x y z t = p ∧ h1 a b c d x y z t = q ∧ h2 a b c d x y z t = r ∧ h3 a b c d x y z t = s ∧ r0 a b c d = A ∧ r1 a b c d = B ∧ r2 a b c d = C ∧ r3 a b c d = D ∧ r0 x y z t = X ∧ r1 x y z t = Y ∧ r2 x y z t = Z ∧ r3 x y z t = T ∧
    NF A B C D ∧ NF X Y Z T ∧ NF p q r s ∧ ((A = 0 ∧ B = 0 ∧ C = 0 ∧ D = 0 ∧ p = X ∧ q = Y ∧ r = Z ∧ s = T) ∨ (A < C ∧ X = 0 ∧ Y = 0 ∧ Z = 0 ∧ T = 0 ∧ p = A ∧ q = B ∧ r = C ∧ s = D) ∨ (A < C ∧ X < Z ∧ p = min A X ∧ q = min B Y ∧ r = max C Z ∧ s = max D T)) := by
  refine ⟨_, _, _, _, _, _, _, _, _, _, _, _, rfl, rfl, rfl, rfl, rfl, rfl, rfl, rfl, rfl, rfl, rfl, rfl, nf_r a b c d, nf_r x y z t, ?_⟩
  have b1 := r_bounds a b c d
  have b2 := r_bounds x y z t
  have f1 := nf_r a b c d
  have f2 := nf_r x y z t
  cases k1 : okR a b c d with
  | false =>
    have e := (ok_not a b c d).1 k1
    rw [h0_a k1, h1_a k1, h2_a k1, h3_a k1]
    exact ⟨f2, .inl ⟨e.1, e.2.1, e.2.2.1, e.2.2.2, rfl, rfl, rfl, rfl⟩⟩
  | true =>
    have l1 := (ok_iff a b c d).1 k1
    cases k2 : okR x y z t with
    | false =>
      have e := (ok_not x y z t).1 k2
      rw [h0_b k1 k2, h1_b k1 k2, h2_b k1 k2, h3_b k1 k2]
      exact ⟨f1, .inr (.inl ⟨l1, e.1, e.2.1, e.2.2.1, e.2.2.2, rfl, rfl, rfl, rfl⟩)⟩
    | true =>
      have l2 := (ok_iff x y z t).1 k2
      rw [h0_c k1 k2, h1_c k1 k2, h2_c k1 k2, h3_c k1 k2]
      unfold NF at f1 f2
      have := r_eval (p := min (r0 a b c d) (r0 x y z t)) (q := min (r1 a b c d) (r1 x y z t)) (r := max (r2 a b c d) (r2 x y z t)) (s := max (r3 a b c d) (r3 x y z t)) (by omega) (by omega) (by omega) (by omega)
      exact ⟨nf_r _ _ _ _, .inr (.inr ⟨l1, l2, by omega, by omega, by omega, by omega⟩)⟩
theorem has_h {a b c d x y z t px py : Int} (h : hasR a b c d px py = true ∨ hasR x y z t px py = true) : hasR (h0 a b c d x y z t) (h1 a b c d x y z t) (h2 a b c d x y z t) (h3 a b c d x y z t) px py = true := by
  obtain ⟨p, q, r, s, A, B, C, D, X, Y, Z, T, e0, e1, e2, e3, a0, a1, a2, a3, x0, x1, x2, x3, hA, hX, hp, h'⟩ := h_all a b c d x y z t
  obtain ⟨s0, s1, s2, s3⟩ := r_same hp
  rw [hasR_of a0 a1 a2 a3, hasR_of x0 x1 x2 x3] at h
  rw [e0, e1, e2, e3, hasR_of s0 s1 s2 s3]
  simp only [decide_eq_true_eq] at h ⊢
  unfold NF at hA hX hp
  omega
theorem eq4_comm_h (a b c d x y z t : Int) : eq4 (h0 a b c d x y z t) (h1 a b c d x y z t) (h2 a b c d x y z t) (h3 a b c d x y z t) (h0 x y z t a b c d) (h1 x y z t a b c d) (h2 x y z t a b c d) (h3 x y z t a b c d) = true := by
  obtain ⟨p, q, r, s, A, B, C, D, X, Y, Z, T, e0, e1, e2, e3, a0, a1, a2, a3, x0, x1, x2, x3, hA, hX, hp, h⟩ := h_all a b c d x y z t
  obtain ⟨p', q', r', s', A', B', C', D', X', Y', Z', T', e0', e1', e2', e3', a0', a1', a2', a3', x0', x1', x2', x3', hA', hX', hp', h'⟩ := h_all x y z t a b c d
  refine eq4_true ?_
  unfold NF at hA hX
  omega
theorem holds_of {a b c d x y z t p q r s X Y Z T : Int} (e0 : n0 a b c d x y z t = p) (e1 : n1 a b c d x y z t = q) (e2 : n2 a b c d x y z t = r) (e3 : n3 a b c d x y z t = s) (x0 : r0 x y z t = X) (x1 : r1 x y z t = Y) (x2 : r2 x y z t = Z) (x3 : r3 x y z t = T) :
    holdsR a b c d x y z t = true ↔ (p = X ∧ q = Y ∧ r = Z ∧ s = T) := by
  subst e0 e1 e2 e3 x0 x1 x2 x3
  exact eq4_iff ..
/-- One that holds another one has its pixels. -/
theorem holds_has {a b c d x y z t px py : Int} (h : holdsR a b c d x y z t = true) (hx : hasR x y z t px py = true) : hasR a b c d px py = true := by
  obtain ⟨p, q, r, s, A, B, C, D, X, Y, Z, T, e0, e1, e2, e3, a0, a1, a2, a3, x0, x1, x2, x3, hA, hX, hp, h'⟩ := n_all a b c d x y z t
  rw [holds_of e0 e1 e2 e3 x0 x1 x2 x3] at h
  rw [hasR_of x0 x1 x2 x3] at hx
  rw [hasR_of a0 a1 a2 a3]
  simp only [decide_eq_true_eq] at hx ⊢
  omega
/-- In numbers: one holds another one that lies within it, or that has no pixel. -/
theorem holds_mk {a b c d x y z t A B C D X Y Z T : Int} (a0 : r0 a b c d = A) (a1 : r1 a b c d = B) (a2 : r2 a b c d = C) (a3 : r3 a b c d = D) (x0 : r0 x y z t = X) (x1 : r1 x y z t = Y) (x2 : r2 x y z t = Z) (x3 : r3 x y z t = T)
    (h : (X = 0 ∧ Y = 0 ∧ Z = 0 ∧ T = 0) ∨ (A ≤ X ∧ Z ≤ C ∧ B ≤ Y ∧ T ≤ D)) : holdsR a b c d x y z t = true := by
  obtain ⟨p, q, r, s, A', B', C', D', X', Y', Z', T', e0, e1, e2, e3, a0', a1', a2', a3', x0', x1', x2', x3', hA, hX, hp, h'⟩ := n_all a b c d x y z t
  rw [holds_of e0 e1 e2 e3 x0' x1' x2' x3']
  unfold NF at hA hX hp
  omega
theorem hull_holds_l (a b c d x y z t : Int) : holdsR (h0 a b c d x y z t) (h1 a b c d x y z t) (h2 a b c d x y z t) (h3 a b c d x y z t) a b c d = true := by
  obtain ⟨p, q, r, s, A, B, C, D, X, Y, Z, T, e0, e1, e2, e3, a0, a1, a2, a3, x0, x1, x2, x3, hA, hX, hp, h⟩ := h_all a b c d x y z t
  obtain ⟨s0, s1, s2, s3⟩ := r_same hp
  rw [e0, e1, e2, e3]
  exact holds_mk s0 s1 s2 s3 a0 a1 a2 a3 (by unfold NF at hA hX; omega)
theorem hull_holds_r (a b c d x y z t : Int) : holdsR (h0 a b c d x y z t) (h1 a b c d x y z t) (h2 a b c d x y z t) (h3 a b c d x y z t) x y z t = true := by
  obtain ⟨p, q, r, s, A, B, C, D, X, Y, Z, T, e0, e1, e2, e3, a0, a1, a2, a3, x0, x1, x2, x3, hA, hX, hp, h⟩ := h_all a b c d x y z t
  obtain ⟨s0, s1, s2, s3⟩ := r_same hp
  rw [e0, e1, e2, e3]
  exact holds_mk s0 s1 s2 s3 x0 x1 x2 x3 (by unfold NF at hA hX; omega)
theorem holds_and_l (a b c d x y z t : Int) : holdsR a b c d (n0 a b c d x y z t) (n1 a b c d x y z t) (n2 a b c d x y z t) (n3 a b c d x y z t) = true := by
  obtain ⟨p, q, r, s, A, B, C, D, X, Y, Z, T, e0, e1, e2, e3, a0, a1, a2, a3, x0, x1, x2, x3, hA, hX, hp, h⟩ := n_all a b c d x y z t
  obtain ⟨s0, s1, s2, s3⟩ := r_same hp
  rw [e0, e1, e2, e3]
  exact holds_mk a0 a1 a2 a3 s0 s1 s2 s3 (by unfold NF at hA hX; omega)
theorem holds_and_r (a b c d x y z t : Int) : holdsR x y z t (n0 a b c d x y z t) (n1 a b c d x y z t) (n2 a b c d x y z t) (n3 a b c d x y z t) = true := by
  obtain ⟨p, q, r, s, A, B, C, D, X, Y, Z, T, e0, e1, e2, e3, a0, a1, a2, a3, x0, x1, x2, x3, hA, hX, hp, h⟩ := n_all a b c d x y z t
  obtain ⟨s0, s1, s2, s3⟩ := r_same hp
  rw [e0, e1, e2, e3]
  exact holds_mk x0 x1 x2 x3 s0 s1 s2 s3 (by unfold NF at hA hX; omega)
theorem holds_zero (a b c d : Int) : holdsR a b c d 0 0 0 0 = true :=
  holds_mk rfl rfl rfl rfl (r_same (by unfold NF; omega)).1 (r_same (by unfold NF; omega)).2.1 (r_same (by unfold NF; omega)).2.2.1 (r_same (by unfold NF; omega)).2.2.2 (.inl ⟨rfl, rfl, rfl, rfl⟩)
end Go.Proofs.Ytkpamofamcndnaa
