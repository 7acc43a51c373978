/- Whole numbers of any size: quotients, floors, numbers from digits: plain. -/
import Derived.Test.YtjcbphhemmdnjaaBig
namespace Go.Proofs.Ytjcbphhemmdnjaa
set_option linter.unusedSimpArgs false
set_option linter.unusedVariables false

/-- The quotient, as far as reckoned. -/
def DivAt (x b q r : Nat) : Prop := q * b + r = x ∧ r < b
theorem div_zero {b : Nat} (hb : 0 < b) : DivAt 0 b 0 0 := ⟨by simp, hb⟩
theorem div_at {x b q r : Nat} (h : DivAt x b q r) : q = x / b ∧ r = x % b := by
  obtain ⟨h1, h2⟩ := h
  have hb : 0 < b := by omega
  constructor
  · rw [← h1, Nat.mul_comm q b, Nat.add_comm, Nat.add_mul_div_left _ _ hb, Nat.div_eq_of_lt h2]; omega
  · rw [← h1, Nat.mul_comm q b, Nat.add_comm, Nat.add_mul_mod_self_left, Nat.mod_eq_of_lt h2]
theorem div_bit {x b q r bit : Nat} (hbit : bit < 2) (h : DivAt x b q r) : if b ≤ 2 * r + bit then DivAt (2 * x + bit) b (2 * q + 1) (2 * r + bit - b) else DivAt (2 * x + bit) b (2 * q) (2 * r + bit) := by
  obtain ⟨h1, h2⟩ := h
  have e : 2 * q * b = 2 * (q * b) := Nat.mul_assoc ..
  split
  · refine ⟨?_, by omega⟩
    rw [Nat.add_mul, e]; omega
  · refine ⟨?_, by omega⟩
    rw [e]; omega
/-- The digits so far and the bits of the next one. -/
def bitsAt (X d t : Nat) : Nat := X * 2 ^ t + d / 2 ^ (16 - t)
theorem bits_zero (X d : Nat) (hd : d < 65536) : bitsAt X d 0 = X := by
  unfold bitsAt
  rw [Nat.div_eq_of_lt (by simpa using hd)]; simp
theorem bits_end (X d : Nat) : bitsAt X d 16 = d + 65536 * X := by unfold bitsAt; simp; omega
theorem bits_next (X d : Nat) {t : Nat} (ht : t < 16) : bitsAt X d (t + 1) = 2 * bitsAt X d t + d / (32768 / 2 ^ t) % 2 := by
  have h : t = 0 ∨ t = 1 ∨ t = 2 ∨ t = 3 ∨ t = 4 ∨ t = 5 ∨ t = 6 ∨ t = 7 ∨ t = 8 ∨ t = 9 ∨ t = 10 ∨ t = 11 ∨ t = 12 ∨ t = 13 ∨ t = 14 ∨ t = 15 := by omega
  unfold bitsAt
  rcases h with rfl | rfl | rfl | rfl | rfl | rfl | rfl | rfl | rfl | rfl | rfl | rfl | rfl | rfl | rfl | rfl <;> (simp; omega)
/-- A floor, by the quotient of sizes. -/
theorem floor_pos {a b : Int} (ha : 0 ≤ a) (hb : 0 < b) : a / b = ((a.natAbs / b.natAbs : Nat) : Int) ∧ a % b = ((a.natAbs % b.natAbs : Nat) : Int) := by
  have e1 : a = (a.natAbs : Int) := by omega
  have e2 : b = (b.natAbs : Int) := by omega
  constructor
  · rw [Int.natCast_ediv, ← e1, ← e2]
  · rw [Int.natCast_emod, ← e1, ← e2]
theorem floor_neg {a b : Int} (ha : a < 0) (hb : 0 < b) : a / b = if a.natAbs % b.natAbs = 0 then -((a.natAbs / b.natAbs : Nat) : Int) else -((a.natAbs / b.natAbs : Nat) : Int) - 1 := by
  have e1 : a = -(a.natAbs : Int) := by omega
  have e2 : b = (b.natAbs : Int) := by omega
  have h := Nat.div_add_mod a.natAbs b.natAbs
  have h2 := Nat.mod_lt a.natAbs (show 0 < b.natAbs by omega)
  generalize a.natAbs / b.natAbs = q at *
  generalize a.natAbs % b.natAbs = r at *
  generalize a.natAbs = n at *
  generalize b.natAbs = m at *
  subst e1 e2
  have h3 : ((m * q + r : Nat) : Int) = n := by rw [h]
  rw [Int.natCast_add, Int.natCast_mul] at h3
  split
  · rename_i h0
    subst h0
    refine ((Int.ediv_emod_unique (by omega)).2 ⟨?_, ?_, ?_⟩ : -(n : Int) / m = -q ∧ -(n : Int) % m = 0).1
    · rw [Int.mul_neg]; omega
    · omega
    · omega
  · refine ((Int.ediv_emod_unique (by omega)).2 ⟨?_, ?_, ?_⟩ : -(n : Int) / m = -q - 1 ∧ -(n : Int) % m = m - r).1
    · rw [Int.mul_sub, Int.mul_neg, Int.mul_one]; omega
    · omega
    · omega
end Go.Proofs.Ytjcbphhemmdnjaa
