/- Places that a slice reads as. -/
import Derived.Test.YtbjmncgfbdkidaaBlockO
namespace Go.Proofs.Ytbjmncgfbdkidaa
open Go.RowKit
set_option linter.unusedSimpArgs false
set_option linter.unusedVariables false

/-- Places that a slice reads as. -/
def YsIn (w : World) (a : Option Addr) (zs : List Int) : Prop := 0 < zs.length → ∃ g, a = some ⟨g, 0, none⟩ ∧ g < w.heap.size ∧ ∀ i, i < zs.length → w.cell? ⟨g, i, none⟩ = some (.int .i64 (zs.getD i 0))
theorem ys_row {w : World} {base cap : Nat} {e : TypeId} {a : Option Addr} {zs : List Int} (h : w.ownsRow base e 1 (.slice a zs.length cap) zs.length (ints zs)) : YsIn w a zs := by
  intro h0
  obtain ⟨a', c', hv, _, _, hr⟩ := row_reads h
  cases hv
  obtain ⟨g, ha, _, hg, hcs⟩ := hr (by omega)
  exact ⟨g, ha, hg, fun i hi => hcs i _ (by simp [ints, hi])⟩
theorem row_in_ne {u : World} {b base size n : Nat} {cs : Array Value} {T e : TypeId} {v : Value} {xs : List Value} (h : u.ownsRow base e size v n xs) (hne : v.ownBlock ≠ some b) : (ov u b cs T).ownsRow base e size v n xs := by
  refine ⟨h.1, ?_⟩
  rcases h.2 with h1 | ⟨g, cap, cur, h1, h2, h3, h4⟩
  · exact .inl h1
  · refine .inr ⟨g, cap, cur, h1, h2, ?_, h4⟩
    have : g ≠ b := fun e => hne (by rw [h1, e]; rfl)
    exact (Array.getElem?_setIfInBounds_ne (Ne.symm this)).trans h3
end Go.Proofs.Ytbjmncgfbdkidaa
