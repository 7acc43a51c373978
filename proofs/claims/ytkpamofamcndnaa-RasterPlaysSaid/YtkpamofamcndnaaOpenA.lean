/- A slice of arrays of four integers that came in, opened. -/
import Derived.Test.YtkpamofamcndnaaArr
import Derived.Test.YtkpamofamcndnaaRegL
import Derived.Deep.Slices
import Derived.Deep.Fields
import Derived.ChangeSame
namespace Go.Proofs.Ytkpamofamcndnaa
open Go Go.ChangeShapes Go.WideShapes Go.ChangeAt Go.RowKit Go.Deep
set_option linter.unusedSimpArgs false
set_option linter.unusedVariables false
section
variable {H : Type} {enc : TypeId × Value → H} {P : Program} {w : World} {base : Nat} {spare : Nat → Bool} {held : Bool}
theorem quad_plain {a : Addr} {v : Value} (h : w.cell? (a.add 0) = some v) : a = ⟨a.block, a.off, none⟩ := by
  obtain ⟨b, off, spot⟩ := a
  have hspot : spot = none := by simpa [Addr.add] using World.cell?_spot h
  subst hspot; rfl
theorem quad_list {α : Type} {p : Nat → α → Prop} (d : α) : ∀ n, (∀ i, i < n → ∃ x, p i x) → ∃ l : List α, l.length = n ∧ ∀ i, i < n → p i (l.getD i d)
  | 0, _ => ⟨[], rfl, fun i hi => by omega⟩
  | n + 1, h => by
    obtain ⟨l, h1, h2⟩ := quad_list d n (fun i hi => h i (by omega))
    obtain ⟨x, hx⟩ := h n (by omega)
    refine ⟨l ++ [x], by simp [h1], fun i hi => ?_⟩
    by_cases e : i = n
    · subst e; simp [List.getD_eq_getElem?_getD, ← h1, hx]; rw [h1]; exact hx
    · have := h2 i (by omega)
      simp only [List.getD_eq_getElem?_getD] at this ⊢
      rwa [List.getElem?_append_left (by omega)]
theorem open_quads {r : Reach} {b0 : Nat} {t e f : TypeId} {v : Value} {d : DataW H} {p : List MemPlace} (ht : P.underlying t = some (.slice e)) (he : P.underlying e = some (.array 4 f)) (hf : P.underlying f = some (.int .i64)) (hC : P.cellsOf e = 4) (hce : P.cellsOf f = 1)
    (hv : Value.okWide P w r b0 t v) (h : DataW.Trod enc P w base spare held t v d p) :
    ∃ (a : Option Addr) (n cap : Nat) (l : List RectQ), v = .slice a n cap ∧ l.length = n ∧ n ≤ cap ∧ cap ≤ 9223372036854775807 ∧ RectsAt w a l := by
  obtain ⟨a, len, cap, rfl⟩ := okWide_slice ht hv
  obtain ⟨fuel, hx⟩ := h
  rcases open_slice ht hx with ⟨hcs, _⟩ | ⟨x, l, c, m, n, D, Pl, hcs, hb, hl, hm, hmm, _, hi⟩
  · simp [Value.cells] at hcs
    obtain ⟨rfl, rfl, rfl⟩ := hcs
    exact ⟨none, 0, 0, [], rfl, rfl, Nat.le_refl _, by omega, fun h => by simp at h⟩
  · simp [Value.cells] at hcs
    obtain ⟨rfl, rfl, rfl⟩ := hcs
    obtain ⟨xs, hxl, hxs⟩ := quad_list (p := fun i (q : RectQ) => w.cell? (x.add (i * 4 + 0)) = some (.int .i64 q.1) ∧ w.cell? (x.add (i * 4 + 1)) = some (.int .i64 q.2.1) ∧ w.cell? (x.add (i * 4 + 2)) = some (.int .i64 q.2.2.1) ∧ w.cell? (x.add (i * 4 + 3)) = some (.int .i64 q.2.2.2)) q0Z len (fun i him => by
      obtain ⟨cs', hc, ht'⟩ := hi i (by rw [hmm]; split <;> omega)
      rw [hC] at hc
      obtain ⟨_, hcl, hat⟩ := World.cells?_some hc
      obtain ⟨c0, c1, c2, c3, rfl⟩ := list4 cs' hcl
      obtain ⟨y0, y1, y2, y3, k, hxx, hy0, hy1, hy2, hy3⟩ := trod_array4 he hce ht'
      obtain ⟨x0, e0, rfl, w0⟩ := DataW.trod_int hf hy0
      obtain ⟨x1, e1, rfl, w1⟩ := DataW.trod_int hf hy1
      obtain ⟨x2, e2, rfl, w2⟩ := DataW.trod_int hf hy2
      obtain ⟨x3, e3, rfl, w3⟩ := DataW.trod_int hf hy3
      simp at e0 e1 e2 e3
      subst e0 e1 e2 e3
      have q0 := hat 0 (by omega); have q1 := hat 1 (by omega); have q2 := hat 2 (by omega); have q3 := hat 3 (by omega)
      rw [Go.Deep.add_add] at q0 q1 q2 q3
      exact ⟨(x0, x1, x2, x3), q0, q1, q2, q3⟩)
    refine ⟨some x, len, cap, xs, rfl, hxl, hl, by simpa [maxLen] using hm, fun h0 => ?_⟩
    rw [hxl] at h0
    have hp := quad_plain (by simpa using (hxs 0 h0).1)
    refine ⟨x.block, x.off, by rw [← hp], cell_lt (hxs 0 h0).1, fun i hi => ?_⟩
    rw [hxl] at hi
    obtain ⟨k0, k1, k2, k3⟩ := hxs i hi
    rw [hp] at k0 k1 k2 k3
    rw [add_plain] at k0 k1 k2 k3
    exact ⟨k0, k1, k2, k3⟩
end
end Go.Proofs.Ytkpamofamcndnaa
