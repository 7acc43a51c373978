/- A slice of structs that came in, opened. -/
import Derived.Test.YtbjmncgfbdkidaaWrap
import Derived.Test.YtbjmncgfbdkidaaBlockO
import Derived.Deep.Slices
import Derived.Deep.Fields
import Derived.ChangeSame
namespace Go.Proofs.Ytbjmncgfbdkidaa
open Go Go.ChangeShapes Go.WideShapes Go.ChangeAt Go.RowKit Go.Deep
set_option linter.unusedSimpArgs false
set_option linter.unusedVariables false
section
variable {H : Type} {enc : TypeId × Value → H} {P : Program} {w : World} {base : Nat} {spare : Nat → Bool} {held : Bool}
/-- A slice of structs of one-cell fields: each cell, and its own reading. -/
theorem open_rows {t e : TypeId} {fs : Array Field} {fuel : Nat} {cs : List Value} {x : DataW H × List MemPlace} (ht : P.underlying t = some (.slice e)) (he : P.underlying e = some (.struct fs))
    (hone : oneCellFields P fs = true) (hC : P.cellsOf e = fs.size) (h : DataW.trod enc P w base spare held fuel t cs = some x) :
    (cs = [.slice none 0 0]) ∨
    ∃ (a : Addr) (len cap : Nat), cs = [.slice (some a) len cap] ∧ len ≤ cap ∧ cap ≤ maxLen ∧
      ∀ i, i < len → ∃ (n : Nat), ∀ (j : Nat) (f : Field), fs[j]? = some f → ∃ (v : Value) (y : DataW H × List MemPlace), w.cell? (a.add (i * fs.size + j)) = some v ∧ DataW.trod enc P w base spare held n f.type [v] = some y := by
  rcases open_slice ht h with ⟨h0, _⟩ | ⟨a, len, cap, m, n, D, Pl, hcs, hb, hl, hm, hmm, hx, hi⟩
  · exact .inl h0
  · refine .inr ⟨a, len, cap, hcs, hl, hm, fun i him => ?_⟩
    obtain ⟨cs', hc, ht'⟩ := hi i (by rw [hmm]; split <;> omega)
    rw [hC] at hc
    obtain ⟨ys, n', hn', hy, hlen, hyl, hf⟩ := DataW.trod_struct he ht'
    obtain ⟨_, hcl, hat⟩ := World.cells?_some hc
    refine ⟨n', fun j f hj => ?_⟩
    obtain ⟨ho, hk⟩ := hone_of hone j f hj
    have hjl : j < fs.size := (Array.getElem?_eq_some_iff.1 hj).1
    have hcell := hat j hjl
    have hv : cs'[j]? = some (cs'[j]'(by omega)) := List.getElem?_eq_getElem (by omega)
    have h1 := hf j f hj
    rw [ho, hk] at h1
    have hone' : (cs'.drop j).take 1 = [cs'[j]'(by omega)] := by
      rw [List.drop_eq_getElem_cons (by omega)]
      rfl
    rw [hone'] at h1
    have hys : ys[j]? = some (ys[j]'(by omega)) := List.getElem?_eq_getElem (by omega)
    refine ⟨_, _, ?_, h1.trans hys⟩
    rw [← Go.Deep.add_add, hcell, hv]
/-- An element's address, plainly. -/
theorem rows_plain {a : Addr} {v : Value} (h : w.cell? (a.add 0) = some v) : a = ⟨a.block, a.off, none⟩ := by
  obtain ⟨b, off, spot⟩ := a
  have hspot : spot = none := by simpa [Addr.add] using World.cell?_spot h
  subst hspot; rfl
theorem list_of_fn {α : Type} {p : Nat → α → Prop} (d : α) : ∀ n, (∀ i, i < n → ∃ x, p i x) → ∃ l : List α, l.length = n ∧ ∀ i, i < n → p i (l.getD i d)
  | 0, _ => ⟨[], rfl, fun i hi => by omega⟩
  | n + 1, h => by
    obtain ⟨l, h1, h2⟩ := list_of_fn d n (fun i hi => h i (by omega))
    obtain ⟨x, hx⟩ := h n (by omega)
    refine ⟨l ++ [x], by simp [h1], fun i hi => ?_⟩
    by_cases e : i = n
    · subst e; simp [List.getD_eq_getElem?_getD, ← h1, hx]; rw [h1]; exact hx
    · have := h2 i (by omega)
      simp only [List.getD_eq_getElem?_getD] at this ⊢
      rwa [List.getElem?_append_left (by omega)]
theorem wf_u16 {x : Int} (h : (Lit.int .u16 x).wf = true) : 0 ≤ x ∧ x ≤ 65535 := by
  simpa [Lit.wf, IntKind.min, IntKind.max, IntKind.bits, IntKind.signed] using h
theorem open_small {r : Reach} {b0 : Nat} {t e : TypeId} {fs : Array Field} {v : Value} {d : DataW H} {p : List MemPlace} (ht : P.underlying t = some (.slice e)) (he : P.underlying e = some (.struct fs)) (hone : oneCellFields P fs = true) (hC : P.cellsOf e = fs.size) (hn : fs.size = 4)
    (g0 : ∃ f, fs[0]? = some f ∧ P.underlying f.type = some (.int .u16)) (g1 : ∃ f, fs[1]? = some f ∧ P.underlying f.type = some (.int .u16)) (g2 : ∃ f, fs[2]? = some f ∧ P.underlying f.type = some (.int .u16)) (g3 : ∃ f, fs[3]? = some f ∧ P.underlying f.type = some .bool)
    (hv : Value.okWide P w r b0 t v) (h : DataW.Trod enc P w base spare held t v d p) :
    ∃ (a : Option Addr) (cap : Nat) (xs : List SmallZ), v = .slice a xs.length cap ∧ SmallIn w a xs := by
  obtain ⟨a, len, cap, rfl⟩ := okWide_slice ht hv
  obtain ⟨fuel, hf⟩ := h
  rcases open_rows ht he hone hC hf with hcs | ⟨x, l, c, hcs, hl, hm, hel⟩
  · simp [Value.cells] at hcs
    obtain ⟨rfl, rfl, rfl⟩ := hcs
    exact ⟨none, 0, [], rfl, by simp, by simp, by simp⟩
  · simp [Value.cells] at hcs
    obtain ⟨rfl, rfl, rfl⟩ := hcs
    obtain ⟨f0, k0, u0⟩ := g0
    obtain ⟨f1, k1, u1⟩ := g1
    obtain ⟨f2, k2, u2⟩ := g2
    obtain ⟨f3, k3, u3⟩ := g3
    obtain ⟨xs, hxl, hxs⟩ := list_of_fn (p := fun i (q : SmallZ) => ((0 ≤ q.b ∧ q.b ≤ 65535) ∧ (0 ≤ q.a ∧ q.a ≤ 65535) ∧ (0 ≤ q.h ∧ q.h ≤ 65535)) ∧ w.cell? (x.add (i * 4 + 0)) = some (.int .u16 q.b) ∧ w.cell? (x.add (i * 4 + 1)) = some (.int .u16 q.a) ∧ w.cell? (x.add (i * 4 + 2)) = some (.int .u16 q.h) ∧ w.cell? (x.add (i * 4 + 3)) = some (.bool q.t)) s0 len (fun i hi => by
      obtain ⟨n, hq⟩ := hel i hi
      obtain ⟨v0, y0, c0, e0⟩ := hq 0 f0 k0
      obtain ⟨v1, y1, c1, e1⟩ := hq 1 f1 k1
      obtain ⟨v2, y2, c2, e2⟩ := hq 2 f2 k2
      obtain ⟨v3, y3, c3, e3⟩ := hq 3 f3 k3
      obtain ⟨x0, z0, _, w0⟩ := DataW.trod_int u0 e0
      obtain ⟨x1, z1, _, w1⟩ := DataW.trod_int u1 e1
      obtain ⟨x2, z2, _, w2⟩ := DataW.trod_int u2 e2
      obtain ⟨x3, z3, _⟩ := DataW.trod_bool u3 e3
      simp at z0 z1 z2 z3
      subst z0 z1 z2 z3
      rw [hn] at c0 c1 c2 c3
      exact ⟨⟨x0, x1, x2, x3⟩, ⟨wf_u16 w0, wf_u16 w1, wf_u16 w2⟩, c0, c1, c2, c3⟩)
    refine ⟨some x, cap, xs, by rw [hxl], by rw [hxl]; exact Nat.le_trans hl (by simpa [maxLen] using hm), fun q hq => ?_, fun h0 => ?_⟩
    · obtain ⟨i, hi, rfl⟩ := List.mem_iff_getElem.1 hq
      have := (hxs i (by omega)).1
      simpa [List.getD_eq_getElem?_getD, hi] using this
    · rw [hxl] at h0 ⊢
      have hp := rows_plain (by simpa using (hxs 0 h0).2.1)
      refine ⟨x.block, x.off, by rw [← hp], ?_, fun i hi => ?_⟩
      · have := cell_lt (hxs 0 h0).2.1
        simpa [block_add] using this
      · obtain ⟨_, c0, c1, c2, c3⟩ := hxs i hi
        rw [hp] at c0 c1 c2 c3
        simp only [add_plain] at c0 c1 c2 c3
        exact ⟨c0, c1, c2, c3⟩
end
end Go.Proofs.Ytbjmncgfbdkidaa
