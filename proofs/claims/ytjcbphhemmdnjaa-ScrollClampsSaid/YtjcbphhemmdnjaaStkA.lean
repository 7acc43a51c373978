/- law26 (stack): the world made, its data. -/
import Derived.Test.YtjcbphhemmdnjaaMt
import Derived.Test.YtjcbphhemmdnjaaFix
import Derived.Test.YtjcbphhemmdnjaaTree
import Derived.Deep.DeepCutAuto
namespace Go.Proofs.Ytjcbphhemmdnjaa
open Go Go.RowKit
set_option linter.unusedSimpArgs false
set_option linter.unusedVariables false
/-- A node of the statement. -/
structure N26 where
  p : Int
  pos : Int
  ov : Int
  z : Int
  au : Bool
  tx : Bool
def n26Z : N26 := ⟨0, 0, 0, 0, false, false⟩
def nd26 (l : List N26) (i : Nat) : N26 := l.getD i n26Z
def cnt26 (l : List N26) (most : Nat) : Nat := max 1 (min l.length most)
def tx26 (l : List N26) (i : Nat) : Bool := (nd26 l i).tx && decide (0 < i)
def upF26 (l : List N26) : Nat → Nat → Nat
  | 0, q => q
  | f + 1, q => if tx26 l q = true then upF26 l f ((nd26 l q).p % q).toNat else q
/-- The nearest node from q upwards that is no text. -/
def up26 (l : List N26) (q : Nat) : Nat := upF26 l (q + 1) q
def pa26 (l : List N26) (i : Nat) : Nat := if i = 0 then 0 else up26 l ((nd26 l i).p % i).toNat
theorem rem_lt {l : List N26} {q : Nat} (h : 0 < q) : ((nd26 l q).p % q).toNat < q := by
  have h1 := Int.emod_lt_of_pos (nd26 l q).p (show (0 : Int) < q by omega)
  have h2 := Int.emod_nonneg (nd26 l q).p (show (q : Int) ≠ 0 by omega)
  omega
theorem tx26_pos {l : List N26} {q : Nat} (h : tx26 l q = true) : 0 < q := by
  unfold tx26 at h; simp at h; exact h.2
theorem upF26_fuel (l : List N26) : ∀ (f g q : Nat), q < f → q < g → upF26 l f q = upF26 l g q
  | 0, _, q, h, _ => by omega
  | f + 1, 0, q, _, h => by omega
  | f + 1, g + 1, q, h1, h2 => by
    show (if _ then _ else _) = (if _ then _ else _)
    by_cases c : tx26 l q = true
    · have := rem_lt (l := l) (tx26_pos c)
      rw [if_pos c, if_pos c, upF26_fuel l f g _ (by omega) (by omega)]
    · rw [if_neg c, if_neg c]
theorem up26_no {l : List N26} {q : Nat} (h : tx26 l q = false) : up26 l q = q := by
  show (if tx26 l q = true then _ else q) = q
  rw [if_neg (by rw [h]; simp)]
theorem up26_yes {l : List N26} {q : Nat} (h : tx26 l q = true) : up26 l q = pa26 l q := by
  have hp := tx26_pos h
  have := rem_lt (l := l) hp
  show (if tx26 l q = true then _ else q) = _
  rw [if_pos h]
  unfold pa26 up26
  rw [if_neg (by omega)]
  exact upF26_fuel l _ _ _ (by omega) (by omega)
theorem up26_le (l : List N26) : ∀ q, up26 l q ≤ q := by
  intro q
  induction q using Nat.strongRecOn with
  | _ q ih =>
    cases c : tx26 l q with
    | false => rw [up26_no c]; exact Nat.le_refl _
    | true =>
      have hp := tx26_pos c
      have h1 := rem_lt (l := l) hp
      rw [up26_yes c]; unfold pa26; rw [if_neg (by omega)]
      have := ih _ h1
      omega
theorem up26_tx (l : List N26) : ∀ q, tx26 l (up26 l q) = false := by
  intro q
  induction q using Nat.strongRecOn with
  | _ q ih =>
    cases c : tx26 l q with
    | false => rw [up26_no c]; exact c
    | true =>
      have hp := tx26_pos c
      rw [up26_yes c]; unfold pa26; rw [if_neg (by omega)]
      exact ih _ (rem_lt hp)
theorem pa26_lt (l : List N26) {i : Nat} (h : 0 < i) : pa26 l i < i := by
  unfold pa26
  rw [if_neg (by omega)]
  exact Nat.lt_of_le_of_lt (up26_le l _) (rem_lt h)
theorem pa26_tx (l : List N26) (i : Nat) : tx26 l (pa26 l i) = false := by
  unfold pa26
  split
  · unfold tx26; simp
  · exact up26_tx l _
structure Ok26 (q : N26) : Prop where
  p : 0 ≤ q.p ∧ q.p ≤ 255
  pos : 0 ≤ q.pos ∧ q.pos ≤ 255
  ov : 0 ≤ q.ov ∧ q.ov ≤ 255
  z : -128 ≤ q.z ∧ q.z ≤ 127
def N26sAt (w : World) (a : Option Addr) (l : List N26) : Prop := 0 < l.length → ∃ b off, a = some ⟨b, off, none⟩ ∧ b < w.heap.size ∧ ∀ i, i < l.length → Ok26 (l.getD i n26Z) ∧ w.cell? ⟨b, off + i * 6, none⟩ = some (.int .u8 (l.getD i n26Z).p) ∧ w.cell? ⟨b, off + i * 6 + 1, none⟩ = some (.int .u8 (l.getD i n26Z).pos) ∧ w.cell? ⟨b, off + i * 6 + 2, none⟩ = some (.int .u8 (l.getD i n26Z).ov) ∧ w.cell? ⟨b, off + i * 6 + 3, none⟩ = some (.int .i8 (l.getD i n26Z).z) ∧
  w.cell? ⟨b, off + i * 6 + 4, none⟩ = some (.bool (l.getD i n26Z).au) ∧ w.cell? ⟨b, off + i * 6 + 5, none⟩ = some (.bool (l.getD i n26Z).tx)
theorem N26sAt.below {w w1 : World} {a : Option Addr} {l : List N26} (h : N26sAt w a l) (hb : Below w.heap.size w w1) : N26sAt w1 a l := fun h0 => by
  obtain ⟨b, off, ha, hl, hc⟩ := h h0
  have c : ∀ o, w1.cell? ⟨b, o, none⟩ = w.cell? ⟨b, o, none⟩ := fun o => hb.cell (p := ⟨b, o, none⟩) hl
  refine ⟨b, off, ha, Nat.lt_of_lt_of_le hl hb.size, fun i hi => ?_⟩
  obtain ⟨k0, k1, k2, k3, k4, k5, k6⟩ := hc i hi
  exact ⟨k0, (c _).trans k1, (c _).trans k2, (c _).trans k3, (c _).trans k4, (c _).trans k5, (c _).trans k6⟩
theorem ok26_nd {w : World} {a : Option Addr} {l : List N26} (h : N26sAt w a l) (i : Nat) : Ok26 (nd26 l i) := by
  by_cases c : i < l.length
  · obtain ⟨b, off, _, _, h3⟩ := h (by omega)
    exact (h3 i c).1
  · have : nd26 l i = n26Z := by unfold nd26; simp [List.getD_eq_getElem?_getD, show l.length ≤ i by omega]
    rw [this]
    exact ⟨by unfold n26Z; simp, by unfold n26Z; simp, by unfold n26Z; simp, by unfold n26Z; simp⟩
theorem rem26 {l : List N26} {i : Nat} (h : 0 < i) (hp : 0 ≤ (nd26 l i).p) : (nd26 l i).p.tmod (i : Int) = ((((nd26 l i).p % i).toNat : Nat) : Int) := by
  rw [Int.tmod_eq_emod_of_nonneg hp]
  have h2 := Int.emod_nonneg (nd26 l i).p (show (i : Int) ≠ 0 by omega)
  omega
/-- A style whose Z, Position, Overflow are given; with a colour (the program's), without (the document's). -/
def styC (z : Int) (au : Bool) (p o : Int) : List Value := [.int .i64 0, .int .i64 0, .int .i64 0, .int .i64 0, .int .i64 0, .int .i64 0, .int .i64 0, .int .i64 0, .int .i64 0, .int .i64 0, .int .i64 0, .int .i64 0, .int .i64 0, .int .i64 0, .int .i64 0, .int .i64 0, .int .i64 0, .int .i64 0, .int .i64 0, .int .i64 0, .int .i64 0, .int .i64 0, .int .i64 0, .int .i64 0, .int .i64 0, .int .i64 0, .int .i64 0, .int .i64 0, .int .i64 0, .int .i64 0, .int .i64 0, .int .i64 0, .int .i64 0, .int .i64 0, .int .i64 0, .int .i64 0, .int .i64 0, .int .i64 0, .int .i64 0, .int .i64 0, .int .i64 0, .int .i64 0, .int .i64 z, .int .i64 0, .int .i64 0, .int .i64 0, .int .i64 0, .int .i64 0, .bool au, .int .i64 0, .int .i64 p, .int .i64 o, .int .i64 0, .int .i64 0, .int .i64 0, .int .i64 0, .int .i64 0, .int .i64 0, .int .i64 0, .int .i64 0, .int .i64 0, .int .u8 0]
/-- A node of the document. -/
def nodeC (z : Int) (au : Bool) (p o : Int) (tx : Bool) (kv : Value) (par : Int) : List Value := [.int .i64 0, .int .i64 0, .int .i64 0, .int .i64 0, .int .i64 0, .int .i64 0, .int .i64 0, .int .i64 0, .int .i64 0, .int .i64 0, .int .i64 0, .int .i64 0, .int .i64 0, .int .i64 0, .int .i64 0, .int .i64 0, .int .i64 0, .int .i64 0, .int .i64 0, .int .i64 0, .int .i64 0, .int .i64 0, .int .i64 0, .int .i64 0, .int .i64 0, .int .i64 0, .int .i64 0, .int .i64 0, .int .i64 0, .int .i64 0, .int .i64 0, .int .i64 0, .int .i64 0, .int .i64 0, .int .i64 0, .int .i64 0, .int .i64 0, .int .i64 0, .int .i64 0, .int .i64 0, .int .i64 0, .int .i64 0, .int .i64 z, .int .i64 0, .int .i64 0, .int .i64 0, .int .i64 0, .int .i64 0, .bool au, .int .i64 0, .int .i64 p, .int .i64 o, .int .i64 0, .int .i64 0, .int .i64 0, .int .i64 0, .int .i64 0, .int .i64 0, .int .i64 0, .int .i64 0, .int .i64 0, .bool tx, .slice none 0 0, kv, .int .i64 par]
/-- A node of the program. -/
def layC (z : Int) (au : Bool) (p o : Int) (tx : Bool) : List Value := [.int .i64 0, .int .i64 0, .int .i64 0, .int .i64 0, .int .i64 0, .int .i64 0, .int .i64 0, .int .i64 0, .int .i64 0, .int .i64 0, .int .i64 0, .int .i64 0, .int .i64 0, .int .i64 0, .int .i64 0, .int .i64 0, .int .i64 0, .int .i64 0, .int .i64 0, .int .i64 0, .int .i64 0, .int .i64 0, .int .i64 0, .int .i64 0, .int .i64 0, .int .i64 0, .int .i64 0, .int .i64 0, .int .i64 0, .int .i64 0, .int .i64 0, .int .i64 0, .int .i64 0, .int .i64 0, .int .i64 0, .int .i64 0, .int .i64 0, .int .i64 0, .int .i64 0, .int .i64 0, .int .i64 0, .int .i64 0, .int .i64 z, .int .i64 0, .int .i64 0, .int .i64 0, .int .i64 0, .int .i64 0, .bool au, .int .i64 0, .int .i64 p, .int .i64 o, .int .i64 0, .int .i64 0, .int .i64 0, .int .i64 0, .int .i64 0, .int .i64 0, .int .i64 0, .int .i64 0, .int .i64 0, .int .u8 0, .bool tx, .slice none 0 0]
theorem nodeC_len (z : Int) (au : Bool) (p o : Int) (tx : Bool) (kv : Value) (par : Int) : (nodeC z au p o tx kv par).length = 65 := rfl
theorem nodeC_kid (z : Int) (au : Bool) (p o : Int) (tx : Bool) (kv v : Value) (par : Int) : (nodeC z au p o tx kv par).set 63 v = nodeC z au p o tx v par := rfl
theorem styC_s42 (z : Int) (au : Bool) (p : Int) (o : Int) (z' : Int) : (styC z au p o).toArray.setIfInBounds 42 (.int .i64 z') = (styC z' au p o).toArray := rfl
theorem styC_g42 (z : Int) (au : Bool) (p : Int) (o : Int) : (styC z au p o).toArray[42]? = some (.int .i64 z) := rfl
theorem styC_s48 (z : Int) (au : Bool) (p : Int) (o : Int) (au' : Bool) : (styC z au p o).toArray.setIfInBounds 48 (.bool au') = (styC z au' p o).toArray := rfl
theorem styC_g48 (z : Int) (au : Bool) (p : Int) (o : Int) : (styC z au p o).toArray[48]? = some (.bool au) := rfl
theorem styC_s50 (z : Int) (au : Bool) (p : Int) (o : Int) (p' : Int) : (styC z au p o).toArray.setIfInBounds 50 (.int .i64 p') = (styC z au p' o).toArray := rfl
theorem styC_g50 (z : Int) (au : Bool) (p : Int) (o : Int) : (styC z au p o).toArray[50]? = some (.int .i64 p) := rfl
theorem styC_s51 (z : Int) (au : Bool) (p : Int) (o : Int) (o' : Int) : (styC z au p o).toArray.setIfInBounds 51 (.int .i64 o') = (styC z au p o').toArray := rfl
theorem styC_g51 (z : Int) (au : Bool) (p : Int) (o : Int) : (styC z au p o).toArray[51]? = some (.int .i64 o) := rfl
theorem nodeC_s42 (z : Int) (au : Bool) (p : Int) (o : Int) (tx : Bool) (kv : Value) (par : Int) (z' : Int) : (nodeC z au p o tx kv par).toArray.setIfInBounds 42 (.int .i64 z') = (nodeC z' au p o tx kv par).toArray := rfl
theorem nodeC_g42 (z : Int) (au : Bool) (p : Int) (o : Int) (tx : Bool) (kv : Value) (par : Int) : (nodeC z au p o tx kv par).toArray[42]? = some (.int .i64 z) := rfl
theorem nodeC_s48 (z : Int) (au : Bool) (p : Int) (o : Int) (tx : Bool) (kv : Value) (par : Int) (au' : Bool) : (nodeC z au p o tx kv par).toArray.setIfInBounds 48 (.bool au') = (nodeC z au' p o tx kv par).toArray := rfl
theorem nodeC_g48 (z : Int) (au : Bool) (p : Int) (o : Int) (tx : Bool) (kv : Value) (par : Int) : (nodeC z au p o tx kv par).toArray[48]? = some (.bool au) := rfl
theorem nodeC_s50 (z : Int) (au : Bool) (p : Int) (o : Int) (tx : Bool) (kv : Value) (par : Int) (p' : Int) : (nodeC z au p o tx kv par).toArray.setIfInBounds 50 (.int .i64 p') = (nodeC z au p' o tx kv par).toArray := rfl
theorem nodeC_g50 (z : Int) (au : Bool) (p : Int) (o : Int) (tx : Bool) (kv : Value) (par : Int) : (nodeC z au p o tx kv par).toArray[50]? = some (.int .i64 p) := rfl
theorem nodeC_s51 (z : Int) (au : Bool) (p : Int) (o : Int) (tx : Bool) (kv : Value) (par : Int) (o' : Int) : (nodeC z au p o tx kv par).toArray.setIfInBounds 51 (.int .i64 o') = (nodeC z au p o' tx kv par).toArray := rfl
theorem nodeC_g51 (z : Int) (au : Bool) (p : Int) (o : Int) (tx : Bool) (kv : Value) (par : Int) : (nodeC z au p o tx kv par).toArray[51]? = some (.int .i64 o) := rfl
theorem nodeC_s61 (z : Int) (au : Bool) (p : Int) (o : Int) (tx : Bool) (kv : Value) (par : Int) (tx' : Bool) : (nodeC z au p o tx kv par).toArray.setIfInBounds 61 (.bool tx') = (nodeC z au p o tx' kv par).toArray := rfl
theorem nodeC_g61 (z : Int) (au : Bool) (p : Int) (o : Int) (tx : Bool) (kv : Value) (par : Int) : (nodeC z au p o tx kv par).toArray[61]? = some (.bool tx) := rfl
theorem nodeC_s63 (z : Int) (au : Bool) (p : Int) (o : Int) (tx : Bool) (kv : Value) (par : Int) (kv' : Value) : (nodeC z au p o tx kv par).toArray.setIfInBounds 63 (kv') = (nodeC z au p o tx kv' par).toArray := rfl
theorem nodeC_g63 (z : Int) (au : Bool) (p : Int) (o : Int) (tx : Bool) (kv : Value) (par : Int) : (nodeC z au p o tx kv par).toArray[63]? = some (kv) := rfl
theorem nodeC_s64 (z : Int) (au : Bool) (p : Int) (o : Int) (tx : Bool) (kv : Value) (par : Int) (par' : Int) : (nodeC z au p o tx kv par).toArray.setIfInBounds 64 (.int .i64 par') = (nodeC z au p o tx kv par').toArray := rfl
theorem nodeC_g64 (z : Int) (au : Bool) (p : Int) (o : Int) (tx : Bool) (kv : Value) (par : Int) : (nodeC z au p o tx kv par).toArray[64]? = some (.int .i64 par) := rfl
theorem styC_t42 (z : Int) (au : Bool) (p : Int) (o : Int) (z' : Int) : (styC z au p o).set 42 (.int .i64 z') = styC z' au p o := rfl
theorem styC_h42 (z : Int) (au : Bool) (p : Int) (o : Int) : (styC z au p o)[42]? = some (.int .i64 z) := rfl
theorem styC_t48 (z : Int) (au : Bool) (p : Int) (o : Int) (au' : Bool) : (styC z au p o).set 48 (.bool au') = styC z au' p o := rfl
theorem styC_h48 (z : Int) (au : Bool) (p : Int) (o : Int) : (styC z au p o)[48]? = some (.bool au) := rfl
theorem styC_t50 (z : Int) (au : Bool) (p : Int) (o : Int) (p' : Int) : (styC z au p o).set 50 (.int .i64 p') = styC z au p' o := rfl
theorem styC_h50 (z : Int) (au : Bool) (p : Int) (o : Int) : (styC z au p o)[50]? = some (.int .i64 p) := rfl
theorem styC_t51 (z : Int) (au : Bool) (p : Int) (o : Int) (o' : Int) : (styC z au p o).set 51 (.int .i64 o') = styC z au p o' := rfl
theorem styC_h51 (z : Int) (au : Bool) (p : Int) (o : Int) : (styC z au p o)[51]? = some (.int .i64 o) := rfl
theorem nodeC_t42 (z : Int) (au : Bool) (p : Int) (o : Int) (tx : Bool) (kv : Value) (par : Int) (z' : Int) : (nodeC z au p o tx kv par).set 42 (.int .i64 z') = nodeC z' au p o tx kv par := rfl
theorem nodeC_h42 (z : Int) (au : Bool) (p : Int) (o : Int) (tx : Bool) (kv : Value) (par : Int) : (nodeC z au p o tx kv par)[42]? = some (.int .i64 z) := rfl
theorem nodeC_t48 (z : Int) (au : Bool) (p : Int) (o : Int) (tx : Bool) (kv : Value) (par : Int) (au' : Bool) : (nodeC z au p o tx kv par).set 48 (.bool au') = nodeC z au' p o tx kv par := rfl
theorem nodeC_h48 (z : Int) (au : Bool) (p : Int) (o : Int) (tx : Bool) (kv : Value) (par : Int) : (nodeC z au p o tx kv par)[48]? = some (.bool au) := rfl
theorem nodeC_t50 (z : Int) (au : Bool) (p : Int) (o : Int) (tx : Bool) (kv : Value) (par : Int) (p' : Int) : (nodeC z au p o tx kv par).set 50 (.int .i64 p') = nodeC z au p' o tx kv par := rfl
theorem nodeC_h50 (z : Int) (au : Bool) (p : Int) (o : Int) (tx : Bool) (kv : Value) (par : Int) : (nodeC z au p o tx kv par)[50]? = some (.int .i64 p) := rfl
theorem nodeC_t51 (z : Int) (au : Bool) (p : Int) (o : Int) (tx : Bool) (kv : Value) (par : Int) (o' : Int) : (nodeC z au p o tx kv par).set 51 (.int .i64 o') = nodeC z au p o' tx kv par := rfl
theorem nodeC_h51 (z : Int) (au : Bool) (p : Int) (o : Int) (tx : Bool) (kv : Value) (par : Int) : (nodeC z au p o tx kv par)[51]? = some (.int .i64 o) := rfl
theorem nodeC_t61 (z : Int) (au : Bool) (p : Int) (o : Int) (tx : Bool) (kv : Value) (par : Int) (tx' : Bool) : (nodeC z au p o tx kv par).set 61 (.bool tx') = nodeC z au p o tx' kv par := rfl
theorem nodeC_h61 (z : Int) (au : Bool) (p : Int) (o : Int) (tx : Bool) (kv : Value) (par : Int) : (nodeC z au p o tx kv par)[61]? = some (.bool tx) := rfl
theorem nodeC_t63 (z : Int) (au : Bool) (p : Int) (o : Int) (tx : Bool) (kv : Value) (par : Int) (kv' : Value) : (nodeC z au p o tx kv par).set 63 (kv') = nodeC z au p o tx kv' par := rfl
theorem nodeC_h63 (z : Int) (au : Bool) (p : Int) (o : Int) (tx : Bool) (kv : Value) (par : Int) : (nodeC z au p o tx kv par)[63]? = some (kv) := rfl
theorem nodeC_t64 (z : Int) (au : Bool) (p : Int) (o : Int) (tx : Bool) (kv : Value) (par : Int) (par' : Int) : (nodeC z au p o tx kv par).set 64 (.int .i64 par') = nodeC z au p o tx kv par' := rfl
theorem nodeC_h64 (z : Int) (au : Bool) (p : Int) (o : Int) (tx : Bool) (kv : Value) (par : Int) : (nodeC z au p o tx kv par)[64]? = some (.int .i64 par) := rfl
def c26 (q : N26) (tx : Bool) : Array Value := #[.int .u8 q.p, .int .u8 q.pos, .int .u8 q.ov, .int .i8 q.z, .bool q.au, .bool tx]
/-- How the document's node i reads. -/
def V26 (l : List N26) (i : Nat) (kv : Value) : List Value := nodeC (nd26 l i).z (nd26 l i).au (1 + (nd26 l i).pos % 3) (1 + (nd26 l i).ov % 3) (tx26 l i) kv (pa26 l i)
def lay26 (l : List N26) (i : Nat) : Value := .agg (layC (nd26 l i).z (nd26 l i).au (1 + (nd26 l i).pos % 3) (1 + (nd26 l i).ov % 3) (tx26 l i)).toArray
def m26 (l : List N26) (i : Nat) : Int → Option Value := fun k => if 0 ≤ k ∧ k < i then some (lay26 l k.toNat) else none
def W26 (aL : Option Addr) (i cL : Nat) : Array Value := #[.slice aL i cL, .int .i64 0, .int .i64 0]
/-- Where the maker stands. -/
def M26 (l : List N26) (w0 w : World) (pt bm m : Nat) (B : Nat → BlkT) (bn g nk j n0 : Nat) (aL : Option Addr) (cL : Nat) (R : Rows) (f : Nat → RowT) (O : Nat → Prop) : Prop :=
  Mt (V26 l) (pa26 l) 1 w0 w pt bm m B 1 (fun _ => ⟨bn, m26 l g⟩) nk j n0 aL cL R f O
def b26 (p6 p10 : Nat) (aL : Option Addr) (i cL : Nat) : Nat → BlkT := blkL [⟨p6, W26 none 0 0, 29⟩, ⟨p10, W26 aL i cL, 29⟩]
theorem m26_start {l : List N26} {w u : World} {pt bm : Nat} (ht : TreeAt u pt bm (fun b => (w.alloc (.cells (W26 none 0 0) 29)).heap.size ≤ b) [(0, 0)] 1) (h1 : (w.alloc (.cells (W26 none 0 0) 29)).heap.size ≤ pt) (h2 : (w.alloc (.cells (W26 none 0 0) 29)).heap.size ≤ bm) (hb : Below (w.alloc (.cells (W26 none 0 0) 29)).heap.size (w.alloc (.cells (W26 none 0 0) 29)) u) :
    ∃ f O, M26 l w ((u.alloc (.map #[] 0)).alloc (.cells (W26 none 0 0) 29)) pt bm 2 (b26 w.heap.size (u.heap.size + 1) none 0 0) u.heap.size 0 0 0 0 none 0 [(0, 0)] f O := by
  rw [World.size_alloc] at h1 h2
  have hs : w.heap.size + 1 ≤ u.heap.size := by have := hb.size; rw [World.size_alloc] at this; exact this
  have hp : Has u w.heap.size (W26 none 0 0) 29 := has_below hb (has_new rfl)
  have H0 := Wd.begin2 (w0 := w) (T := 29) (cs := W26 none 0 0) ht (by simp) hp h1 h2 (((Below.refl w.heap.size w).alloc (Nat.le_refl _) _).trans (hb.mono (by simp))) (fun _ => ⟨0, 0, .slice none 0 0, 0, []⟩) (fun _ => ⟨0, fun _ => none⟩)
  have H1 := H0.newMap
  have H3 := H1.alloc (W26 none 0 0) 29
  have H4 := H3.blks (m' := 2) (B' := b26 w.heap.size (u.heap.size + 1) none 0 0) (fun q hq => by
    rcases q with _ | _ | q
    · rfl
    · show _ = (⟨(u.alloc (.map #[] 0)).heap.size, _, _⟩ : BlkT)
      rw [World.size_alloc]; rfl
    · omega) (Nat.le_refl _)
  have H5 := H4.maps (M' := fun _ => ⟨u.heap.size, m26 l 0⟩) (fun q hq => by
    rcases q with _ | q
    · exact ⟨rfl, fun x => by show m26 l 0 x = none; unfold m26; rw [if_neg (by omega)]⟩
    · omega)
  have H6 := H5.row 68 65
  exact ⟨_, _, H6, Pt.one _, Nat.le_refl _, fun i v => nodeC_len _ _ _ _ _ _ _, rfl, fun k hk => by omega⟩
/-- What made answers. -/
def Made26 (l : List N26) (most : Nat) (w : World) (e : Ending) (w' : World) : Prop := ∃ pt bm bn aL cL R f O, e = .returned (.tuple #[.pointer (some ⟨pt, 0, none⟩), .map (some bn), .agg (W26 aL (cnt26 l most) cL), .bool true]) ∧ M26 l w w' pt bm 0 (blkL []) bn (cnt26 l most) (cnt26 l most) (cnt26 l most) (cnt26 l most) aL cL R f O
end Go.Proofs.Ytjcbphhemmdnjaa
