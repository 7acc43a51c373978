/- slices.IndexFunc, slices.DeleteFunc with tree.without's closure; tree.without. -/
import Derived.Test.YtjcbphhemmdnjaaTreeC
import Derived.Laws.CopyOwn
namespace Go.Proofs.Ytjcbphhemmdnjaa
open Go.RowKit
set_option linter.unusedSimpArgs false
set_option linter.unusedVariables false
-- below_from_drew
-- SOFT
attribute [local go_sem] ov_cell_same ov_cell_other ov_frozen_same ov_frozen_other ov_size ov_setCell_same ov_setCell_other cell_alloc_old frozen_alloc_old setCell_alloc_old old_alloc old_ov old_drew old_drewN old_setCell
attribute [local go_sem ↓] run_max2 run_min2

/-- All but one number. -/
def outL (n : Int) : List Int → List Int
  | [] => []
  | x :: l => if x = n then outL n l else x :: outL n l
theorem outL_append (n : Int) : ∀ a b, outL n (a ++ b) = outL n a ++ outL n b
  | [], b => rfl
  | x :: a, b => by
    show (if x = n then outL n (a ++ b) else x :: outL n (a ++ b)) = (if x = n then outL n a else x :: outL n a) ++ outL n b
    rw [outL_append n a b]; split <;> rfl
theorem outL_none {n : Int} : ∀ {l : List Int}, n ∉ l → outL n l = l
  | [], _ => rfl
  | x :: l, h => by
    simp only [List.mem_cons, not_or] at h
    show (if x = n then _ else _) = _
    rw [if_neg (Ne.symm h.1), outL_none h.2]
theorem outL_len (n : Int) : ∀ l, (outL n l).length ≤ l.length
  | [] => Nat.le_refl _
  | x :: l => by
    show (if x = n then outL n l else x :: outL n l).length ≤ l.length + 1
    have := outL_len n l
    split <;> simp <;> omega
theorem outL_snoc (n x : Int) (l : List Int) : outL n (l ++ [x]) = if x = n then outL n l else outL n l ++ [x] := by
  rw [outL_append]
  show outL n l ++ (if x = n then [] else [x]) = _
  split <;> simp
theorem take_snoc {l : List Int} {j : Nat} (h : j < l.length) : l.take (j + 1) = l.take j ++ [l.getD j 0] := by
  rw [List.take_succ_eq_append_getElem h]
  simp [List.getD_eq_getElem?_getD, h]
theorem setCells_ov {u : World} {b : Nat} {T : TypeId} : ∀ (vs : List Value) (o : Nat) (cs : Array Value), ∃ cs' : Array Value, (ov u b cs T).setCells b o vs = ov u b cs' T ∧ cs'.size = cs.size ∧ ∀ j, j < o → cs'[j]? = cs[j]?
  | [], o, cs => ⟨cs, rfl, rfl, fun _ _ => rfl⟩
  | v :: vs, o, cs => by
    obtain ⟨cs', h1, h2, h3⟩ := setCells_ov (u := u) (b := b) (T := T) vs (o + 1) (cs.setIfInBounds o v)
    refine ⟨cs', ?_, by rw [h2]; simp, fun j hj => ?_⟩
    · rw [← h1, ← ov_setCell_same]; rfl
    · rw [h3 j (by omega), Array.getElem?_setIfInBounds_ne (by omega)]
theorem setCell_ov {u : World} {b o : Nat} {cs : Array Value} {T : TypeId} {v : Value} : (ov u b cs T).setCell ⟨b, o, none⟩ v = ov u b (cs.setIfInBounds o v) T := ov_setCell_same
/-- The first place of a number. -/
def FirstAt (n : Int) (ys : List Int) (r : Int) : Prop := (r = -1 ∧ n ∉ ys) ∨ ∃ i : Nat, r = (i : Int) ∧ i < ys.length ∧ ys.getD i 0 = n ∧ ∀ j, j < i → ys.getD j 0 ≠ n
/-- The loop that moves what stays to the front. -/
def DelI (n : Int) (ys : List Int) (u : World) (g : Nat) (sz : Nat) (iv jv : Value) (wr : World) : Prop :=
  ∃ (j : Nat) (cs : Array Value), j ≤ ys.length ∧ jv = .int .i64 (j : Int) ∧ iv = .int .i64 (((outL n (ys.take j)).length : Nat) : Int) ∧ (outL n (ys.take j)).length < j ∧ cs.size = sz ∧ (∀ t, t < (outL n (ys.take j)).length → cs[t]? = some (.int .i64 ((outL n (ys.take j)).getD t 0))) ∧ (∀ t, j ≤ t → t < ys.length → cs[t]? = some (.int .i64 (ys.getD t 0))) ∧ wr = ov u g cs 3
theorem zero_int (w : World) : (zeroValue 3).run Try.prog w = .ok (.int .i64 0) w := by kernel_rfl
/-- An owned row, its cells written out. -/
theorem row_cells {w : World} {base n cap : Nat} {T : TypeId} {a : Option Addr} {xs : List Int} (h : w.ownsRow base T 1 (.slice a n cap) n (intVals xs)) : (a = none ∧ n = 0 ∧ cap = 0 ∧ xs = []) ∨ ∃ g cur, a = some ⟨g, 0, none⟩ ∧ base ≤ g ∧ Has w g cur T ∧ n ≤ cap ∧ cap ≤ 9223372036854775807 ∧ cur.size = cap ∧ xs.length = n ∧ ∀ j, j < n → cur[j]? = some (.int .i64 (xs.getD j 0)) := by
  have hl : xs.length = n := by have := h.1; simpa [intVals] using this
  rcases h.2 with ⟨h1, h2⟩ | ⟨g, cap', cur, h1, h2, h3, h4, h5, h6, h7⟩
  · cases h1
    exact .inl ⟨rfl, rfl, rfl, List.eq_nil_of_length_eq_zero hl⟩
  · cases h1
    refine .inr ⟨g, cur, rfl, h2, h3, h4, by simpa [maxLen] using h5, by simpa using h6, hl, fun j hj => ?_⟩
    have hj2 := intVals_get (xs := xs) (i := j) (by omega)
    rw [← h7, List.getElem?_take_of_lt (by omega), Array.getElem?_toList] at hj2
    exact hj2
end Go.Proofs.Ytjcbphhemmdnjaa
