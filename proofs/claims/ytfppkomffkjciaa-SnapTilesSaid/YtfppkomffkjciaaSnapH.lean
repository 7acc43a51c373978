/- SnapTiles, plain. -/
import Derived.Test.YtfppkomffkjciaaSnapF
namespace Go.Proofs.Ytfppkomffkjciaa
open Go.RowKit
set_option linter.unusedSimpArgs false
set_option linter.unusedVariables false

/-- The edges of part k. -/
def lX (p0 p1 : Int) (k : Nat) : Int := if k % 2 = 0 then p0 else p1
def tY (q0 q1 : Int) (k : Nat) : Int := if k < 2 then q0 else q1
/-- Three edges each way, in order, within bounds. -/
def Edges (p0 p1 p2 q0 q1 q2 : Int) : Prop := (-1073741824 ≤ p0 ∧ p0 ≤ p1 ∧ p1 ≤ p2 ∧ p2 ≤ 1073741824) ∧ -1073741824 ≤ q0 ∧ q0 ≤ q1 ∧ q1 ≤ q2 ∧ q2 ≤ 1073741824
def n0F (p0 p1 p2 q0 q1 q2 : Int) (k : Nat) : Int := r0 (lX p0 p1 k) (tY q0 q1 k) (lX p1 p2 k) (tY q1 q2 k)
def n1F (p0 p1 p2 q0 q1 q2 : Int) (k : Nat) : Int := r1 (lX p0 p1 k) (tY q0 q1 k) (lX p1 p2 k) (tY q1 q2 k)
def n2F (p0 p1 p2 q0 q1 q2 : Int) (k : Nat) : Int := r2 (lX p0 p1 k) (tY q0 q1 k) (lX p1 p2 k) (tY q1 q2 k)
def n3F (p0 p1 p2 q0 q1 q2 : Int) (k : Nat) : Int := r3 (lX p0 p1 k) (tY q0 q1 k) (lX p1 p2 k) (tY q1 q2 k)
theorem tile_in {p0 p1 p2 q0 q1 q2 : Int} (h : Edges p0 p1 p2 q0 q1 q2) (k : Nat) :
    (lX p0 p1 k < lX p1 p2 k ∧ tY q0 q1 k < tY q1 q2 k ∧ n0F p0 p1 p2 q0 q1 q2 k = lX p0 p1 k ∧ n1F p0 p1 p2 q0 q1 q2 k = tY q0 q1 k ∧ n2F p0 p1 p2 q0 q1 q2 k = lX p1 p2 k ∧ n3F p0 p1 p2 q0 q1 q2 k = tY q1 q2 k) ∨
    ((lX p1 p2 k ≤ lX p0 p1 k ∨ tY q1 q2 k ≤ tY q0 q1 k) ∧ n0F p0 p1 p2 q0 q1 q2 k = 0 ∧ n1F p0 p1 p2 q0 q1 q2 k = 0 ∧ n2F p0 p1 p2 q0 q1 q2 k = 0 ∧ n3F p0 p1 p2 q0 q1 q2 k = 0) := by
  obtain ⟨⟨h1, h2, h3, h4⟩, h5, h6, h7, h8⟩ := h
  refine r_in ?_ ?_ ?_ ?_ <;> simp only [lX, tY] <;> split <;> omega
theorem tile_nf (p0 p1 p2 q0 q1 q2 : Int) (k : Nat) : NF (n0F p0 p1 p2 q0 q1 q2 k) (n1F p0 p1 p2 q0 q1 q2 k) (n2F p0 p1 p2 q0 q1 q2 k) (n3F p0 p1 p2 q0 q1 q2 k) := nf_r _ _ _ _
/-- A rectangle within another one. -/
theorem holds_nf {a b c d x y z t : Int} (h1 : NF a b c d) (h2 : NF x y z t) (h : z ≤ x ∨ (a ≤ x ∧ z ≤ c ∧ b ≤ y ∧ t ≤ d)) : holdsR a b c d x y z t = true := by
  obtain ⟨s0, s1, s2, s3⟩ := r_same h1
  obtain ⟨u0, u1, u2, u3⟩ := r_same h2
  unfold holdsR
  rw [s0, s1, s2, s3, u0, u1, u2, u3]
  unfold NF at h1 h2
  have q := r_in (a := max a x) (b := max b y) (c := min c z) (d := min d t) (by omega) (by omega) (by omega) (by omega)
  refine eq4_true ?_
  rcases h2 with ⟨h21, h22, h23, h24, h25 | ⟨h25, h26, h27, h28⟩⟩
  · rcases h with h | h
    · omega
    · rcases q with ⟨q1, q2, q3, q4, q5, q6⟩ | ⟨q1, q2⟩
      · omega
      · omega
  · subst h25 h26 h27 h28
    rcases q with ⟨q1, q2, q3, q4, q5, q6⟩ | ⟨q1, q2⟩
    · omega
    · omega
theorem tile_holds {p0 p1 p2 q0 q1 q2 : Int} (h : Edges p0 p1 p2 q0 q1 q2) {k : Nat} (hk : k < 4) : holdsR (r0 p0 q0 p2 q2) (r1 p0 q0 p2 q2) (r2 p0 q0 p2 q2) (r3 p0 q0 p2 q2) (n0F p0 p1 p2 q0 q1 q2 k) (n1F p0 p1 p2 q0 q1 q2 k) (n2F p0 p1 p2 q0 q1 q2 k) (n3F p0 p1 p2 q0 q1 q2 k) = true := by
  refine holds_nf (nf_r _ _ _ _) (tile_nf _ _ _ _ _ _ _) ?_
  have q := tile_in h k
  obtain ⟨⟨h1, h2, h3, h4⟩, h5, h6, h7, h8⟩ := h
  have w := r_in (a := p0) (b := q0) (c := p2) (d := q2) (by omega) (by omega) (by omega) (by omega)
  rcases q with ⟨a1, a2, a3, a4, a5, a6⟩ | ⟨a1, a3, a4, a5, a6⟩
  · right
    rw [a3, a4, a5, a6]
    have b1 : p0 ≤ lX p0 p1 k ∧ lX p1 p2 k ≤ p2 := by unfold lX; split <;> omega
    have b2 : q0 ≤ tY q0 q1 k ∧ tY q1 q2 k ≤ q2 := by unfold tY; split <;> omega
    omega
  · left; omega
theorem and_tile {p0 p1 p2 q0 q1 q2 : Int} (h : Edges p0 p1 p2 q0 q1 q2) {j k : Nat} (hjk : j < k) (hk : k < 4) : ∃ z0 z1 z2 z3 : Int, NF z0 z1 z2 z3 ∧ z2 ≤ z0 ∧
    ∀ w, Calls Try.prog 21 #[(.agg #[.int .i64 (n0F p0 p1 p2 q0 q1 q2 j), .int .i64 (n1F p0 p1 p2 q0 q1 q2 j), .int .i64 (n2F p0 p1 p2 q0 q1 q2 j), .int .i64 (n3F p0 p1 p2 q0 q1 q2 j)]), (.agg #[.int .i64 (n0F p0 p1 p2 q0 q1 q2 k), .int .i64 (n1F p0 p1 p2 q0 q1 q2 k), .int .i64 (n2F p0 p1 p2 q0 q1 q2 k), .int .i64 (n3F p0 p1 p2 q0 q1 q2 k)])] w fun e w' => e = .returned (.agg #[.int .i64 (z0), .int .i64 (z1), .int .i64 (z2), .int .i64 (z3)]) ∧ Below w.heap.size w w' := by
  have n1 := tile_nf p0 p1 p2 q0 q1 q2 j
  have n2 := tile_nf p0 p1 p2 q0 q1 q2 k
  have t1 := tile_in h j
  have t2 := tile_in h k
  have hand := and_any (n0F p0 p1 p2 q0 q1 q2 j) (n1F p0 p1 p2 q0 q1 q2 j) (n2F p0 p1 p2 q0 q1 q2 j) (n3F p0 p1 p2 q0 q1 q2 j) (n0F p0 p1 p2 q0 q1 q2 k) (n1F p0 p1 p2 q0 q1 q2 k) (n2F p0 p1 p2 q0 q1 q2 k) (n3F p0 p1 p2 q0 q1 q2 k)
  obtain ⟨s0, s1, s2, s3⟩ := r_same n1
  obtain ⟨u0, u1, u2, u3⟩ := r_same n2
  rw [s0, s1, s2, s3, u0, u1, u2, u3] at hand
  refine ⟨_, _, _, _, nf_r _ _ _ _, ?_, hand⟩
  clear hand s0 s1 s2 s3 u0 u1 u2 u3
  obtain ⟨⟨h1, h2, h3, h4⟩, h5, h6, h7, h8⟩ := h
  have ap : lX p1 p2 j ≤ lX p0 p1 k ∨ tY q1 q2 j ≤ tY q0 q1 k ∨ lX p1 p2 k ≤ lX p0 p1 j ∨ tY q1 q2 k ≤ tY q0 q1 j := by
    have : (j = 0 ∧ k = 1) ∨ (j = 0 ∧ k = 2) ∨ (j = 0 ∧ k = 3) ∨ (j = 1 ∧ k = 2) ∨ (j = 1 ∧ k = 3) ∨ (j = 2 ∧ k = 3) := by omega
    rcases this with ⟨rfl, rfl⟩ | ⟨rfl, rfl⟩ | ⟨rfl, rfl⟩ | ⟨rfl, rfl⟩ | ⟨rfl, rfl⟩ | ⟨rfl, rfl⟩ <;> simp [lX, tY]
  generalize lX p1 p2 j = e1 at *
  generalize lX p0 p1 j = e2 at *
  generalize lX p1 p2 k = e3 at *
  generalize lX p0 p1 k = e4 at *
  generalize tY q1 q2 j = f1 at *
  generalize tY q0 q1 j = f2 at *
  generalize tY q1 q2 k = f3 at *
  generalize tY q0 q1 k = f4 at *
  generalize n0F p0 p1 p2 q0 q1 q2 j = a at *
  generalize n1F p0 p1 p2 q0 q1 q2 j = b at *
  generalize n2F p0 p1 p2 q0 q1 q2 j = c at *
  generalize n3F p0 p1 p2 q0 q1 q2 j = d at *
  generalize n0F p0 p1 p2 q0 q1 q2 k = x at *
  generalize n1F p0 p1 p2 q0 q1 q2 k = y at *
  generalize n2F p0 p1 p2 q0 q1 q2 k = z at *
  generalize n3F p0 p1 p2 q0 q1 q2 k = t at *
  unfold NF at n1 n2
  have q := r_in (a := max a x) (b := max b y) (c := min c z) (d := min d t) (by omega) (by omega) (by omega) (by omega)
  rcases q with ⟨g1, g2, g3, g4, g5, g6⟩ | ⟨g1, g3, g4, g5, g6⟩
  · exfalso
    rcases t1 with ⟨a1, a2, a3, a4, a5, a6⟩ | ⟨a1, a3, a4, a5, a6⟩
    · rcases t2 with ⟨b1, b2, b3, b4, b5, b6⟩ | ⟨b1, b3, b4, b5, b6⟩
      · subst a3 a4 a5 a6 b3 b4 b5 b6; omega
      · subst b3 b4 b5 b6; omega
    · subst a3 a4 a5 a6; omega
  · omega
/-- How many pixels part k has. -/
def arF (p0 p1 p2 q0 q1 q2 : Int) (k : Nat) : Int := (lX p1 p2 k - lX p0 p1 k) * (tY q1 q2 k - tY q0 q1 k)
def sumF (p0 p1 p2 q0 q1 q2 : Int) : Nat → Int
  | 0 => 0
  | k + 1 => sumF p0 p1 p2 q0 q1 q2 k + arF p0 p1 p2 q0 q1 q2 k
theorem area_nf {p q r s : Int} (h : NF p q r s) (w : World) : Calls Try.prog 23 #[(.agg #[.int .i64 (p), .int .i64 (q), .int .i64 (r), .int .i64 (s)])] w fun e w' => e = .returned (.int .i64 ((r - p) * (s - q))) ∧ Below w.heap.size w w' := by
  have := area_any p q r s w
  obtain ⟨s0, s1, s2, s3⟩ := r_same h
  unfold areaR at this
  rw [s0, s1, s2, s3] at this
  exact this
theorem ar_in {p0 p1 p2 q0 q1 q2 : Int} (h : Edges p0 p1 p2 q0 q1 q2) (k : Nat) : 0 ≤ arF p0 p1 p2 q0 q1 q2 k ∧ arF p0 p1 p2 q0 q1 q2 k ≤ 4611686018427387904 := by
  obtain ⟨⟨h1, h2, h3, h4⟩, h5, h6, h7, h8⟩ := h
  unfold arF
  have hx : 0 ≤ lX p1 p2 k - lX p0 p1 k ∧ lX p1 p2 k - lX p0 p1 k ≤ 2147483648 := by unfold lX; split <;> omega
  have hy : 0 ≤ tY q1 q2 k - tY q0 q1 k ∧ tY q1 q2 k - tY q0 q1 k ≤ 2147483648 := by unfold tY; split <;> omega
  refine ⟨Int.mul_nonneg hx.1 hy.1, ?_⟩
  have := Int.mul_le_mul hx.2 hy.2 hy.1 (by omega)
  omega
theorem area_tile {p0 p1 p2 q0 q1 q2 : Int} (h : Edges p0 p1 p2 q0 q1 q2) (k : Nat) (w : World) : Calls Try.prog 23 #[(.agg #[.int .i64 (n0F p0 p1 p2 q0 q1 q2 k), .int .i64 (n1F p0 p1 p2 q0 q1 q2 k), .int .i64 (n2F p0 p1 p2 q0 q1 q2 k), .int .i64 (n3F p0 p1 p2 q0 q1 q2 k)])] w fun e w' => e = .returned (.int .i64 (arF p0 p1 p2 q0 q1 q2 k)) ∧ Below w.heap.size w w' :=
  (area_nf (tile_nf p0 p1 p2 q0 q1 q2 k) w).mono fun e w' ⟨he, hb⟩ => ⟨he.trans (ret_int (by
    have q := tile_in h k
    obtain ⟨⟨h1, h2, h3, h4⟩, h5, h6, h7, h8⟩ := h
    have hx : lX p0 p1 k ≤ lX p1 p2 k := by unfold lX; split <;> omega
    have hy : tY q0 q1 k ≤ tY q1 q2 k := by unfold tY; split <;> omega
    rcases q with ⟨a1, a2, a3, a4, a5, a6⟩ | ⟨a1, a3, a4, a5, a6⟩
    · rw [a3, a4, a5, a6]; rfl
    · rw [a3, a4, a5, a6]
      unfold arF
      rcases a1 with a1 | a1
      · rw [show lX p1 p2 k - lX p0 p1 k = 0 by omega]; simp
      · rw [show tY q1 q2 k - tY q0 q1 k = 0 by omega]; simp)), hb⟩
theorem sum_all (p0 p1 p2 q0 q1 q2 : Int) : sumF p0 p1 p2 q0 q1 q2 4 = (p2 - p0) * (q2 - q0) := by
  simp only [sumF, arF, lX, tY]
  simp only [show (0 : Nat) % 2 = 0 from rfl, show (1 : Nat) % 2 = 1 from rfl, show (2 : Nat) % 2 = 0 from rfl, show (3 : Nat) % 2 = 1 from rfl, if_true]
  simp
  have e1 : p2 - p0 = (p1 - p0) + (p2 - p1) := by omega
  have e2 : q2 - q0 = (q1 - q0) + (q2 - q1) := by omega
  rw [e1, e2, Int.add_mul, Int.mul_add, Int.mul_add]
  omega
theorem sum_in {p0 p1 p2 q0 q1 q2 : Int} (h : Edges p0 p1 p2 q0 q1 q2) {k : Nat} (hk : k ≤ 4) : 0 ≤ sumF p0 p1 p2 q0 q1 q2 k ∧ sumF p0 p1 p2 q0 q1 q2 k ≤ 4611686018427387904 := by
  have a0 := ar_in h 0; have a1 := ar_in h 1; have a2 := ar_in h 2; have a3 := ar_in h 3
  have e := sum_all p0 p1 p2 q0 q1 q2
  obtain ⟨⟨h1, h2, h3, h4⟩, h5, h6, h7, h8⟩ := h
  have hx : 0 ≤ p2 - p0 ∧ p2 - p0 ≤ 2147483648 := by omega
  have hy : 0 ≤ q2 - q0 ∧ q2 - q0 ≤ 2147483648 := by omega
  have := Int.mul_le_mul hx.2 hy.2 hy.1 (by omega)
  simp only [sumF] at e
  have : k = 0 ∨ k = 1 ∨ k = 2 ∨ k = 3 ∨ k = 4 := by omega
  rcases this with rfl | rfl | rfl | rfl | rfl <;> simp only [sumF] <;> omega
end Go.Proofs.Ytfppkomffkjciaa
