/- Small lemmas that all my texts use. -/
import Derived.WalkKit
import Derived.WalkSpells
import Derived.WalkLawsBesides
import Derived.Handy
import Derived.StillTailTactics
import Derived.Lib.Hide
import Derived.Deep.RegionHeld3
import Derived.Deep.RegionWith
import Derived.BigQuiet
import Derived.Test.YtjcbphhemmdnjaaOwn
import Derived.Test.YtjcbphhemmdnjaaRegion
namespace Go.Proofs.Ytjcbphhemmdnjaa
open Go.RowKit
set_option linter.unusedSimpArgs false
set_option linter.unusedVariables false

theorem run_max2 {P : Program} {w : World} (ts : Array TypeId) (t : TypeId) (k k' : IntKind) (x y : Int) : (Builtin.max_ ts t #[.int k x, .int k' y]).run P w = .ok (.int k (max x y)) w := by
  rw [run_max_int2]; congr 2; omega
theorem run_min2 {P : Program} {w : World} (ts : Array TypeId) (t : TypeId) (k k' : IntKind) (x y : Int) : (Builtin.min_ ts t #[.int k x, .int k' y]).run P w = .ok (.int k (min x y)) w := by
  rw [run_min_int2]; congr 2; omega

theorem stl {P : Program} {f : FuncId} {xs : Array Value} {w : World} {v : Value} (h : Calls P f xs w fun e w' => e = .returned v ∧ w = w') : Calls P f xs w fun e w' => e = .returned v ∧ w' = w := h.mono fun _ _ ⟨a, b⟩ => ⟨a, b.symm⟩
theorem region_tail {P : Program} {id : Nat} {Q : Exit → Act → World → Prop} {a : Act} {w : World} {l : List Oper} (n : Nat) (hm : P.follows .mixedOrders = true) (hB : Region.lexTailB .any l.toArray n = true)
    (h : wpStill P l.toArray w.drew (fun a' => wpList P l.toArray Q (l.drop n) a' w.drew) (l.take n) a) : (Code.region id l.toArray true).wp P Q a w := wp_region_still_tail n hm hB h
theorem bcell {W w1 : World} (hb : Below W.heap.size W w1) : (∀ b o, b < W.heap.size → w1.cell? ⟨b, o, none⟩ = W.cell? ⟨b, o, none⟩) ∧ (∀ b o, b < W.heap.size → w1.frozen? ⟨b, o, none⟩ = W.frozen? ⟨b, o, none⟩) :=
  ⟨fun b o h => hb.cell (p := ⟨b, o, none⟩) h, fun b o h => hb.frozen (p := ⟨b, o, none⟩) h⟩
/-- An own block behind a call that only makes memory. -/
theorem bk {W w1 : World} (hb : Below W.heap.size W w1) (n : Nat) (h : n < W.heap.size) : (∀ o, w1.cell? ⟨n, o, none⟩ = W.cell? ⟨n, o, none⟩) ∧ (∀ o, w1.frozen? ⟨n, o, none⟩ = W.frozen? ⟨n, o, none⟩) ∧ n < w1.heap.size :=
  ⟨fun o => hb.cell (p := ⟨n, o, none⟩) h, fun o => hb.frozen (p := ⟨n, o, none⟩) h, Nat.lt_of_lt_of_le h hb.size⟩
theorem below_via {B : Nat} {w W w1 : World} (h : Below B w W) (hb : Below W.heap.size W w1) (hB : B ≤ W.heap.size) : Below B w w1 := h.trans (hb.mono hB)
theorem below_drewN {B : Nat} {a w : World} (h : Below B a w) (n : Nat) : Below B a (w.drewN n) := ⟨h.os, h.tape, h.output, h.size, h.block⟩

/-- A number brought to the bounds of pixels. -/
def bnd (n : Int) : Int := min (max n (-1073741824)) 1073741824
theorem bnd_le (n : Int) : -1073741824 ≤ bnd n ∧ bnd n ≤ 1073741824 := by unfold bnd; omega
theorem bnd_in {n : Int} (h : -1073741824 ≤ n ∧ n ≤ 1073741824) : bnd n = n := by unfold bnd; omega
/-- The four numbers of a rectangle that is put right. -/
def okR (a b c d : Int) : Bool := decide (bnd a < bnd c) && decide (bnd b < bnd d)
def r0 (a b c d : Int) : Int := if okR a b c d = true then bnd a else 0
def r1 (a b c d : Int) : Int := if okR a b c d = true then bnd b else 0
def r2 (a b c d : Int) : Int := if okR a b c d = true then bnd c else 0
def r3 (a b c d : Int) : Int := if okR a b c d = true then bnd d else 0
theorem r_pos {a b c d : Int} (h : bnd a < bnd c ∧ bnd b < bnd d) : r0 a b c d = bnd a ∧ r1 a b c d = bnd b ∧ r2 a b c d = bnd c ∧ r3 a b c d = bnd d := by
  have e : okR a b c d = true := by simp [okR, h]
  simp [r0, r1, r2, r3, e]
theorem r_neg {a b c d : Int} (h : ¬ (bnd a < bnd c ∧ bnd b < bnd d)) : r0 a b c d = 0 ∧ r1 a b c d = 0 ∧ r2 a b c d = 0 ∧ r3 a b c d = 0 := by
  have e : okR a b c d = false := by
    cases e : okR a b c d with
    | false => rfl
    | true => simp [okR] at e; exact absurd e h
  simp [r0, r1, r2, r3, e]
/-- All that is known of them, for omega. -/
theorem r_all (a b c d : Int) : (bnd a < bnd c ∧ bnd b < bnd d ∧ r0 a b c d = bnd a ∧ r1 a b c d = bnd b ∧ r2 a b c d = bnd c ∧ r3 a b c d = bnd d) ∨ ((bnd c ≤ bnd a ∨ bnd d ≤ bnd b) ∧ r0 a b c d = 0 ∧ r1 a b c d = 0 ∧ r2 a b c d = 0 ∧ r3 a b c d = 0) := by
  by_cases h : bnd a < bnd c ∧ bnd b < bnd d
  · exact .inl ⟨h.1, h.2, r_pos h⟩
  · exact .inr ⟨by omega, r_neg h⟩
theorem r_bounds (a b c d : Int) : (-1073741824 ≤ r0 a b c d ∧ r0 a b c d ≤ 1073741824) ∧ (-1073741824 ≤ r1 a b c d ∧ r1 a b c d ≤ 1073741824) ∧ (-1073741824 ≤ r2 a b c d ∧ r2 a b c d ≤ 1073741824) ∧ (-1073741824 ≤ r3 a b c d ∧ r3 a b c d ≤ 1073741824) ∧ r0 a b c d ≤ r2 a b c d ∧ r1 a b c d ≤ r3 a b c d := by
  have := r_all a b c d
  have := bnd_le a; have := bnd_le b; have := bnd_le c; have := bnd_le d
  omega
def areaR (a b c d : Int) : Int := (r2 a b c d - r0 a b c d) * (r3 a b c d - r1 a b c d)
theorem area_in (a b c d : Int) : 0 ≤ areaR a b c d ∧ areaR a b c d ≤ 4611686018427387904 := by
  obtain ⟨⟨b1, b2⟩, ⟨b3, b4⟩, ⟨b5, b6⟩, ⟨b7, b8⟩, b9, b10⟩ := r_bounds a b c d
  unfold areaR
  have hx : 0 ≤ r2 a b c d - r0 a b c d ∧ r2 a b c d - r0 a b c d ≤ 2147483648 := by omega
  have hy : 0 ≤ r3 a b c d - r1 a b c d ∧ r3 a b c d - r1 a b c d ≤ 2147483648 := by omega
  refine ⟨Int.mul_nonneg hx.1 hy.1, ?_⟩
  have := Int.mul_le_mul hx.2 hy.2 hy.1 (by omega)
  omega
def hasR (a b c d x y : Int) : Bool := decide (r0 a b c d ≤ x ∧ x < r2 a b c d ∧ r1 a b c d ≤ y ∧ y < r3 a b c d)
theorem ret_bool {a b : Bool} (h : a = b) : Ending.returned (.bool a) = .returned (.bool b) := by rw [h]
theorem ret_int {k : IntKind} {a b : Int} (h : a = b) : Ending.returned (.int k a) = .returned (.int k b) := by rw [h]

/-- Are two rectangles the same? -/
def eq4 (a b c d x y z t : Int) : Bool := decide (a = x) && decide (b = y) && decide (c = z) && decide (d = t)
theorem eq4_true {a b c d x y z t : Int} (h : a = x ∧ b = y ∧ c = z ∧ d = t) : eq4 a b c d x y z t = true := by simp [eq4, h]
theorem eq4_iff (a b c d x y z t : Int) : eq4 a b c d x y z t = true ↔ (a = x ∧ b = y ∧ c = z ∧ d = t) := by simp [eq4, and_assoc]
theorem eq4_false {a b c d x y z t : Int} (h : ¬ (a = x ∧ b = y ∧ c = z ∧ d = t)) : eq4 a b c d x y z t = false := by
  cases e : eq4 a b c d x y z t with
  | false => rfl
  | true => exact absurd ((eq4_iff ..).1 e) h
theorem eq4_ok (a b c d : Int) : eq4 (r0 a b c d) (r1 a b c d) (r2 a b c d) (r3 a b c d) 0 0 0 0 = !okR a b c d := by
  cases e : okR a b c d with
  | false => simp [r0, r1, r2, r3, e, eq4]
  | true =>
    have h := e
    simp only [okR, Bool.and_eq_true, decide_eq_true_eq] at h
    simp only [r0, r1, r2, r3, e, if_true, Bool.not_true]
    exact eq4_false (by omega)
def holdsR (a b c d x y z t : Int) : Bool := eq4 (r0 (max (r0 a b c d) (r0 x y z t)) (max (r1 a b c d) (r1 x y z t)) (min (r2 a b c d) (r2 x y z t)) (min (r3 a b c d) (r3 x y z t))) (r1 (max (r0 a b c d) (r0 x y z t)) (max (r1 a b c d) (r1 x y z t)) (min (r2 a b c d) (r2 x y z t)) (min (r3 a b c d) (r3 x y z t))) (r2 (max (r0 a b c d) (r0 x y z t)) (max (r1 a b c d) (r1 x y z t)) (min (r2 a b c d) (r2 x y z t)) (min (r3 a b c d) (r3 x y z t))) (r3 (max (r0 a b c d) (r0 x y z t)) (max (r1 a b c d) (r1 x y z t)) (min (r2 a b c d) (r2 x y z t)) (min (r3 a b c d) (r3 x y z t))) (r0 x y z t) (r1 x y z t) (r2 x y z t) (r3 x y z t)
theorem eq4_ok' (a b c d : Int) : eq4 0 0 0 0 (r0 a b c d) (r1 a b c d) (r2 a b c d) (r3 a b c d) = !okR a b c d := by
  rw [← eq4_ok]; simp only [eq4, eq_comm]
/-- The hull. -/
def h0 (a b c d x y z t : Int) : Int := if okR a b c d = true then (if okR x y z t = true then r0 (min (r0 a b c d) (r0 x y z t)) (min (r1 a b c d) (r1 x y z t)) (max (r2 a b c d) (r2 x y z t)) (max (r3 a b c d) (r3 x y z t)) else r0 a b c d) else r0 x y z t
theorem h0_a {a b c d x y z t : Int} (h : okR a b c d = false) : h0 a b c d x y z t = r0 x y z t := by simp [h0, h]
theorem h0_b {a b c d x y z t : Int} (h : okR a b c d = true) (k : okR x y z t = false) : h0 a b c d x y z t = r0 a b c d := by simp [h0, h, k]
theorem h0_c {a b c d x y z t : Int} (h : okR a b c d = true) (k : okR x y z t = true) : h0 a b c d x y z t = r0 (min (r0 a b c d) (r0 x y z t)) (min (r1 a b c d) (r1 x y z t)) (max (r2 a b c d) (r2 x y z t)) (max (r3 a b c d) (r3 x y z t)) := by simp [h0, h, k]
def h1 (a b c d x y z t : Int) : Int := if okR a b c d = true then (if okR x y z t = true then r1 (min (r0 a b c d) (r0 x y z t)) (min (r1 a b c d) (r1 x y z t)) (max (r2 a b c d) (r2 x y z t)) (max (r3 a b c d) (r3 x y z t)) else r1 a b c d) else r1 x y z t
theorem h1_a {a b c d x y z t : Int} (h : okR a b c d = false) : h1 a b c d x y z t = r1 x y z t := by simp [h1, h]
theorem h1_b {a b c d x y z t : Int} (h : okR a b c d = true) (k : okR x y z t = false) : h1 a b c d x y z t = r1 a b c d := by simp [h1, h, k]
theorem h1_c {a b c d x y z t : Int} (h : okR a b c d = true) (k : okR x y z t = true) : h1 a b c d x y z t = r1 (min (r0 a b c d) (r0 x y z t)) (min (r1 a b c d) (r1 x y z t)) (max (r2 a b c d) (r2 x y z t)) (max (r3 a b c d) (r3 x y z t)) := by simp [h1, h, k]
def h2 (a b c d x y z t : Int) : Int := if okR a b c d = true then (if okR x y z t = true then r2 (min (r0 a b c d) (r0 x y z t)) (min (r1 a b c d) (r1 x y z t)) (max (r2 a b c d) (r2 x y z t)) (max (r3 a b c d) (r3 x y z t)) else r2 a b c d) else r2 x y z t
theorem h2_a {a b c d x y z t : Int} (h : okR a b c d = false) : h2 a b c d x y z t = r2 x y z t := by simp [h2, h]
theorem h2_b {a b c d x y z t : Int} (h : okR a b c d = true) (k : okR x y z t = false) : h2 a b c d x y z t = r2 a b c d := by simp [h2, h, k]
theorem h2_c {a b c d x y z t : Int} (h : okR a b c d = true) (k : okR x y z t = true) : h2 a b c d x y z t = r2 (min (r0 a b c d) (r0 x y z t)) (min (r1 a b c d) (r1 x y z t)) (max (r2 a b c d) (r2 x y z t)) (max (r3 a b c d) (r3 x y z t)) := by simp [h2, h, k]
def h3 (a b c d x y z t : Int) : Int := if okR a b c d = true then (if okR x y z t = true then r3 (min (r0 a b c d) (r0 x y z t)) (min (r1 a b c d) (r1 x y z t)) (max (r2 a b c d) (r2 x y z t)) (max (r3 a b c d) (r3 x y z t)) else r3 a b c d) else r3 x y z t
theorem h3_a {a b c d x y z t : Int} (h : okR a b c d = false) : h3 a b c d x y z t = r3 x y z t := by simp [h3, h]
theorem h3_b {a b c d x y z t : Int} (h : okR a b c d = true) (k : okR x y z t = false) : h3 a b c d x y z t = r3 a b c d := by simp [h3, h, k]
theorem h3_c {a b c d x y z t : Int} (h : okR a b c d = true) (k : okR x y z t = true) : h3 a b c d x y z t = r3 (min (r0 a b c d) (r0 x y z t)) (min (r1 a b c d) (r1 x y z t)) (max (r2 a b c d) (r2 x y z t)) (max (r3 a b c d) (r3 x y z t)) := by simp [h3, h, k]
end Go.Proofs.Ytjcbphhemmdnjaa
