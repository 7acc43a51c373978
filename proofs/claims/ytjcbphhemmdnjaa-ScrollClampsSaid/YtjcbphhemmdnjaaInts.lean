/- A slice of ints that reads as a list. -/
import Derived.Test.YtjcbphhemmdnjaaMap
import Derived.Test.YtjcbphhemmdnjaaArr
namespace Go.Proofs.Ytjcbphhemmdnjaa
open Go Go.RowKit
set_option linter.unusedSimpArgs false
set_option linter.unusedVariables false

/-- What a slice at a holds. -/
def IntsAt (w : World) (a : Option Addr) (xs : List Int) : Prop := 0 < xs.length → ∃ b off, a = some ⟨b, off, none⟩ ∧ b < w.heap.size ∧ ∀ i, i < xs.length → w.cell? ⟨b, off + i, none⟩ = some (.int .i64 (xs.getD i 0))
theorem IntsAt.below {w w1 : World} {a : Option Addr} {xs : List Int} (h : IntsAt w a xs) (hb : Below w.heap.size w w1) : IntsAt w1 a xs := fun h0 => by
  obtain ⟨b, off, h1, h2, h4⟩ := h h0
  exact ⟨b, off, h1, Nat.lt_of_lt_of_le h2 hb.size, fun i hi => (hb.cell (p := ⟨b, off + i, none⟩) h2).trans (h4 i hi)⟩
theorem intsAt_nil (w : World) (a : Option Addr) : IntsAt w a [] := fun h => by simp at h
theorem IntsAt.take {w : World} {a : Option Addr} {xs : List Int} (h : IntsAt w a xs) (m : Nat) : IntsAt w a (xs.take m) := fun h0 => by
  have hl : (xs.take m).length ≤ xs.length := by simp; omega
  obtain ⟨b, off, h1, h2, h4⟩ := h (by omega)
  refine ⟨b, off, h1, h2, fun i hi => ?_⟩
  rw [h4 i (by omega)]
  have hm : i < m := by simp at hi; omega
  simp [List.getD_eq_getElem?_getD, hm]
theorem intsAt_row {w : World} {a : Option Addr} {xs : List Int} (h : RowIn .i64 w a xs) : IntsAt w a xs := fun h0 => by
  obtain ⟨b, off, h1, h2, h3⟩ := h.2.2 h0
  exact ⟨b, off, h1, h2, h3⟩
theorem intsAt_has {w : World} {g : Nat} {cs : Array Value} {T : TypeId} {xs : List Int} (h : Has w g cs T) (hc : ∀ i, i < xs.length → cs[i]? = some (.int .i64 (xs.getD i 0))) : IntsAt w (some ⟨g, 0, none⟩) xs := fun _ =>
  ⟨g, 0, rfl, h.lt, fun i hi => by rw [Nat.zero_add, h.cells]; exact hc i hi⟩
theorem rowv_out {u : World} {b base size n : Nat} {cs : Array Value} {T e : TypeId} {v : Value} {xs : List Value} (h : (ov u b cs T).ownsRow base e size v n xs) (hb : b < base) : u.ownsRow base e size v n xs := by
  refine ⟨h.1, ?_⟩
  rcases h.2 with hn | ⟨g, cap, cur, rfl, hg, hgg, rest⟩
  · exact .inl hn
  · refine .inr ⟨g, cap, cur, rfl, hg, ?_, rest⟩
    rw [← hgg]
    exact (Array.getElem?_setIfInBounds_ne (by omega)).symm
theorem rowv_in {u : World} {b base size n : Nat} {cs : Array Value} {T e : TypeId} {v : Value} {xs : List Value} (h : u.ownsRow base e size v n xs) (hb : b < base) : (ov u b cs T).ownsRow base e size v n xs := by
  refine ⟨h.1, ?_⟩
  rcases h.2 with hn | ⟨g, cap, cur, rfl, hg, hgg, rest⟩
  · exact .inl hn
  · refine .inr ⟨g, cap, cur, rfl, hg, ?_, rest⟩
    rw [← hgg]
    exact Array.getElem?_setIfInBounds_ne (by omega)
theorem newi_at {w : World} {b : Nat} {cs : List Value} {T : TypeId} (h : w.heap.size = b) : ∀ j u, cs[j]? = some u → (w.alloc (.cells cs.toArray T)).cell? ((⟨b, 0, none⟩ : Addr).add j) = some u := by
  subst h; exact news_new
/-- Ints as values. -/
def intVals (xs : List Int) : List Value := xs.map (Value.int .i64)
theorem intVals_snoc (xs : List Int) (x : Int) : intVals (xs ++ [x]) = intVals xs ++ [.int .i64 x] := by simp [intVals]
theorem intVals_get {xs : List Int} {i : Nat} (h : i < xs.length) : (intVals xs)[i]? = some (.int .i64 (xs.getD i 0)) := by unfold intVals; simp [h]
theorem intsAt_owned {w : World} {base cap n : Nat} {a : Option Addr} {T : TypeId} {xs : List Int} (h : w.ownsRow base T 1 (.slice a n cap) n (intVals xs)) (hn : xs.length = n) : IntsAt w a xs := fun h0 => by
  obtain ⟨a', cap', e, _, _, hr⟩ := row_reads h
  cases e
  obtain ⟨g, rfl, hg, hl, hc⟩ := hr (by omega)
  exact ⟨g, 0, rfl, hl, fun i hi => by rw [Nat.zero_add]; exact hc i _ (intVals_get hi)⟩
end Go.Proofs.Ytjcbphhemmdnjaa
