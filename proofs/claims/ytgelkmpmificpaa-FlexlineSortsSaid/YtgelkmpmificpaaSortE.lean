/- Merging in place, plain: what slices.symMergeCmpFunc does to places. -/
import Derived.Test.YtgelkmpmificpaaSortD
namespace Go.Proofs.Ytgelkmpmificpaa
set_option linter.unusedSimpArgs false
set_option linter.unusedVariables false

/-- The order of two items: by their numbers, then by their places. -/
def LTo (os : List Int) (x y : Nat) : Prop := os.getD x 0 < os.getD y 0 ∨ (os.getD x 0 = os.getD y 0 ∧ x < y)
theorem LTo.trans {os : List Int} {x y z : Nat} (h : LTo os x y) (k : LTo os y z) : LTo os x z := by
  unfold LTo at *; omega
theorem LTo.of_le {os : List Int} {x y : Nat} (h : ¬ os.getD y 0 < os.getD x 0) (k : x < y) : LTo os x y := by
  unfold LTo; omega
theorem LTo.of_lt {os : List Int} {x y : Nat} (h : os.getD x 0 < os.getD y 0) : LTo os x y := .inl h
/-- Sorted, from a on as far as b. -/
def UpT (os : List Int) (ys : List Nat) (a b : Nat) : Prop := ∀ p q, a ≤ p → p < q → q < b → LTo os (ys.getD p 0) (ys.getD q 0)
/-- All left of m are smaller places than those right of it. -/
def SepT (ys : List Nat) (a m b : Nat) : Prop := ∀ p q, a ≤ p → p < m → m ≤ q → q < b → ys.getD p 0 < ys.getD q 0
/-- Only a part changed, and holds the same items. -/
def SameT (ys zs : List Nat) (a b : Nat) : Prop := (∀ p, ¬ (a ≤ p ∧ p < b) → zs.getD p 0 = ys.getD p 0) ∧ (∀ p, a ≤ p → p < b → ∃ q, a ≤ q ∧ q < b ∧ zs.getD p 0 = ys.getD q 0) ∧ (∀ q, a ≤ q → q < b → ∃ p, a ≤ p ∧ p < b ∧ zs.getD p 0 = ys.getD q 0)
theorem SameT.refl (ys : List Nat) (a b : Nat) : SameT ys ys a b := ⟨fun _ _ => rfl, fun p h1 h2 => ⟨p, h1, h2, rfl⟩, fun p h1 h2 => ⟨p, h1, h2, rfl⟩⟩
theorem SameT.trans {xs ys zs : List Nat} {a b : Nat} (h : SameT xs ys a b) (k : SameT ys zs a b) : SameT xs zs a b := by
  refine ⟨fun p hp => (k.1 p hp).trans (h.1 p hp), fun p h1 h2 => ?_, fun q h1 h2 => ?_⟩
  · obtain ⟨q, q1, q2, e⟩ := k.2.1 p h1 h2
    obtain ⟨r, r1, r2, f⟩ := h.2.1 q q1 q2
    exact ⟨r, r1, r2, e.trans f⟩
  · obtain ⟨p, p1, p2, e⟩ := h.2.2 q h1 h2
    obtain ⟨r, r1, r2, f⟩ := k.2.2 p p1 p2
    exact ⟨r, r1, r2, f.trans e⟩
theorem SameT.wide {ys zs : List Nat} {a b a' b' : Nat} (h : SameT ys zs a b) (ha : a' ≤ a) (hb : b ≤ b') : SameT ys zs a' b' := by
  refine ⟨fun p hp => h.1 p (by omega), fun p h1 h2 => ?_, fun q h1 h2 => ?_⟩
  · by_cases c : a ≤ p ∧ p < b
    · obtain ⟨q, q1, q2, e⟩ := h.2.1 p c.1 c.2
      exact ⟨q, by omega, by omega, e⟩
    · exact ⟨p, h1, h2, h.1 p c⟩
  · by_cases c : a ≤ q ∧ q < b
    · obtain ⟨p, q1, q2, e⟩ := h.2.2 q c.1 c.2
      exact ⟨p, by omega, by omega, e⟩
    · exact ⟨q, h1, h2, h.1 q c⟩
theorem rot_same {ys zs : List Nat} {s m e : Nat} (h : ∀ p, zs.getD p 0 = rotG s m e ys p) (h1 : s ≤ m) (h2 : m ≤ e) : SameT ys zs s e := by
  refine ⟨fun p hp => by rw [h, rotG, if_neg hp], fun p p1 p2 => ?_, fun q q1 q2 => ?_⟩
  · rw [h, rotG, if_pos ⟨p1, p2⟩]
    by_cases c : p < s + (e - m)
    · rw [if_pos c]; exact ⟨p - s + m, by omega, by omega, rfl⟩
    · rw [if_neg c]; exact ⟨p - (e - m), by omega, by omega, rfl⟩
  · by_cases c : q < m
    · refine ⟨q + (e - m), by omega, by omega, ?_⟩
      rw [h, rotG, if_pos (by omega), if_neg (by omega)]
      exact congrArg (fun q => ys.getD q 0) (by omega)
    · refine ⟨q - m + s, by omega, by omega, ?_⟩
      rw [h, rotG, if_pos (by omega), if_pos (by omega)]
      exact congrArg (fun q => ys.getD q 0) (by omega)
/-- Two halves sorted one by one, where all of the first come ahead of all of the second. -/
theorem halves_up {os : List Int} {xs ys zs : List Nat} {a c b : Nat} (hac : a ≤ c) (hcb : c ≤ b) (h1 : SameT xs ys a c) (u1 : UpT os ys a c) (h2 : SameT ys zs c b) (u2 : UpT os zs c b)
    (hx : ∀ p q, a ≤ p → p < c → c ≤ q → q < b → LTo os (xs.getD p 0) (xs.getD q 0)) : SameT xs zs a b ∧ UpT os zs a b := by
  refine ⟨(h1.wide (Nat.le_refl _) hcb).trans (h2.wide hac (Nat.le_refl _)), fun p q p1 pq qb => ?_⟩
  rcases Nat.lt_or_ge q c with c1 | c1
  · rw [h2.1 p (by omega), h2.1 q (by omega)]; exact u1 p q p1 pq c1
  · rcases Nat.lt_or_ge p c with c2 | c2
    · obtain ⟨q', q1, q2, e⟩ := h2.2.1 q c1 qb
      obtain ⟨p', p2, p3, f⟩ := h1.2.1 p p1 c2
      rw [h2.1 p (by omega), e, f, h1.1 q' (by omega)]
      exact hx p' q' p2 p3 q1 q2
    · exact u2 p q c2 pq qb
/-- Where the first halves end behind the rotation. -/
theorem rot_parts {os : List Int} {xs ys : List Nat} {a m b s e c : Nat} (h : ∀ p, ys.getD p 0 = rotG s m e xs p) (has : a ≤ s) (hsm : s ≤ m) (hme : m ≤ e) (heb : e ≤ b) (hc : c = s + (e - m)) (u1 : UpT os xs a m) (u2 : UpT os xs m b) (hsep : SepT xs a m b)
    (d1 : a < s → e < b → LTo os (xs.getD (s - 1) 0) (xs.getD e 0)) (d2 : s < m → m < e → LTo os (xs.getD (e - 1) 0) (xs.getD s 0)) :
    UpT os ys a s ∧ UpT os ys s c ∧ SepT ys a s c ∧ UpT os ys c e ∧ UpT os ys e b ∧ SepT ys c e b ∧ ∀ p q, a ≤ p → p < c → c ≤ q → q < b → LTo os (ys.getD p 0) (ys.getD q 0) := by
  have f1 : ∀ p, p < s → ys.getD p 0 = xs.getD p 0 := fun p hp => by rw [h, rotG, if_neg (by omega)]
  have f2 : ∀ p, s ≤ p → p < c → ys.getD p 0 = xs.getD (p - s + m) 0 := fun p hp hq => by rw [h, rotG, if_pos (by omega), if_pos (by omega)]
  have f3 : ∀ p, c ≤ p → p < e → ys.getD p 0 = xs.getD (p - (e - m)) 0 := fun p hp hq => by rw [h, rotG, if_pos (by omega), if_neg (by omega)]
  have f4 : ∀ p, e ≤ p → ys.getD p 0 = xs.getD p 0 := fun p hp => by rw [h, rotG, if_neg (by omega)]
  refine ⟨fun p q p1 pq q1 => ?_, fun p q p1 pq q1 => ?_, fun p q p1 p2 q1 q2 => ?_, fun p q p1 pq q1 => ?_, fun p q p1 pq q1 => ?_, fun p q p1 p2 q1 q2 => ?_, fun p q p1 p2 q1 q2 => ?_⟩
  · rw [f1 p (by omega), f1 q q1]; exact u1 p q p1 pq (by omega)
  · rw [f2 p p1 (by omega), f2 q (by omega) q1]; exact u2 _ _ (by omega) (by omega) (by omega)
  · rw [f1 p p2, f2 q q1 q2]; exact hsep _ _ p1 (by omega) (by omega) (by omega)
  · rw [f3 p p1 (by omega), f3 q (by omega) q1]; exact u1 _ _ (by omega) (by omega) (by omega)
  · rw [f4 p p1, f4 q (by omega)]; exact u2 _ _ (by omega) pq q1
  · rw [f3 p p1 p2, f4 q q1]; exact hsep _ _ (by omega) (by omega) (by omega) q2
  · rcases Nat.lt_or_ge p s with c1 | c1 <;> rcases Nat.lt_or_ge q e with c2 | c2
    · rw [f1 p c1, f3 q q1 c2]; exact u1 _ _ p1 (by omega) (by omega)
    · rw [f1 p c1, f4 q c2]
      have g := d1 (by omega) (by omega)
      have g1 : LTo os (xs.getD p 0) (xs.getD e 0) := by
        by_cases k : p = s - 1
        · rw [k]; exact g
        · exact (u1 p (s - 1) p1 (by omega) (by omega)).trans g
      by_cases k : q = e
      · rw [k]; exact g1
      · exact g1.trans (u2 e q (by omega) (by omega) q2)
    · rw [f2 p c1 p2, f3 q q1 c2]
      have g := d2 (by omega) (by omega)
      have g1 : LTo os (xs.getD (p - s + m) 0) (xs.getD s 0) := by
        by_cases k : p - s + m = e - 1
        · rw [k]; exact g
        · exact (u2 (p - s + m) (e - 1) (by omega) (by omega) (by omega)).trans g
      by_cases k : q - (e - m) = s
      · rw [k]; exact g1
      · exact g1.trans (u1 s (q - (e - m)) (by omega) (by omega) (by omega))
    · rw [f2 p c1 p2, f4 q c2]; exact u2 _ _ (by omega) (by omega) q2
end Go.Proofs.Ytgelkmpmificpaa
