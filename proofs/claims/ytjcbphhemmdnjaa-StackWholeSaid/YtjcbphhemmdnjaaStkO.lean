/- A slice of law26.Node that comes in. -/
import Derived.Test.YtjcbphhemmdnjaaStkA
import Derived.Test.YtjcbphhemmdnjaaArr
import Derived.Deep.Slices
import Derived.Deep.Fields
import Derived.ChangeSame
namespace Go.Proofs.Ytjcbphhemmdnjaa
open Go Go.ChangeShapes Go.WideShapes Go.ChangeAt Go.RowKit Go.Deep
set_option linter.unusedSimpArgs false
set_option linter.unusedVariables false
section
variable {H : Type} {enc : TypeId × Value → H} {P : Program} {w : World} {base : Nat} {spare : Nat → Bool} {held : Bool}
theorem n26_plain {a : Addr} {v : Value} (h : w.cell? (a.add 0) = some v) : a = ⟨a.block, a.off, none⟩ := by
  obtain ⟨b, off, spot⟩ := a
  have hspot : spot = none := by simpa [Addr.add] using World.cell?_spot h
  subst hspot; rfl
theorem n26_list {α : Type} {p : Nat → α → Prop} (d : α) : ∀ n, (∀ i, i < n → ∃ x, p i x) → ∃ l : List α, l.length = n ∧ ∀ i, i < n → p i (l.getD i d)
  | 0, _ => ⟨[], rfl, fun i hi => by omega⟩
  | n + 1, h => by
    obtain ⟨l, h1, h2⟩ := n26_list d n (fun i hi => h i (by omega))
    obtain ⟨x, hx⟩ := h n (by omega)
    refine ⟨l ++ [x], by simp [h1], fun i hi => ?_⟩
    by_cases e : i = n
    · subst e; simp [List.getD_eq_getElem?_getD, ← h1, hx]; rw [h1]; exact hx
    · have := h2 i (by omega)
      simp only [List.getD_eq_getElem?_getD] at this ⊢
      rwa [List.getElem?_append_left (by omega)]
theorem wf_u8s {x : Int} (h : (Lit.int .u8 x).wf = true) : 0 ≤ x ∧ x ≤ 255 := by
  simpa [Lit.wf, IntKind.min, IntKind.max, IntKind.bits, IntKind.signed] using h
theorem wf_i8s {x : Int} (h : (Lit.int .i8 x).wf = true) : -128 ≤ x ∧ x ≤ 127 := by
  simpa [Lit.wf, IntKind.min, IntKind.max, IntKind.bits, IntKind.signed] using h
theorem open_n26s {r : Reach} {b0 : Nat} {t e : TypeId} {fs : Array Field} {v : Value} {d : DataW H} {p : List MemPlace} (ht : P.underlying t = some (.slice e)) (he : P.underlying e = some (.struct fs)) (hC : P.cellsOf e = 6) (hn : fs.size = 6)
    (g0 : ∃ d, fs[0]? = some d ∧ d.offset = 0 ∧ P.cellsOf d.type = 1 ∧ P.underlying d.type = some (.int .u8))
    (g1 : ∃ d, fs[1]? = some d ∧ d.offset = 1 ∧ P.cellsOf d.type = 1 ∧ P.underlying d.type = some (.int .u8))
    (g2 : ∃ d, fs[2]? = some d ∧ d.offset = 2 ∧ P.cellsOf d.type = 1 ∧ P.underlying d.type = some (.int .u8))
    (g3 : ∃ d, fs[3]? = some d ∧ d.offset = 3 ∧ P.cellsOf d.type = 1 ∧ P.underlying d.type = some (.int .i8))
    (g4 : ∃ d, fs[4]? = some d ∧ d.offset = 4 ∧ P.cellsOf d.type = 1 ∧ P.underlying d.type = some .bool)
    (g5 : ∃ d, fs[5]? = some d ∧ d.offset = 5 ∧ P.cellsOf d.type = 1 ∧ P.underlying d.type = some .bool)
    (hv : Value.okWide P w r b0 t v) (h : DataW.Trod enc P w base spare held t v d p) :
    ∃ (a : Option Addr) (n cap : Nat) (l : List N26), v = .slice a n cap ∧ l.length = n ∧ n ≤ cap ∧ cap ≤ 9223372036854775807 ∧ N26sAt w a l := by
  obtain ⟨a, len, cap, rfl⟩ := okWide_slice ht hv
  obtain ⟨fuel, hx⟩ := h
  rcases open_slice ht hx with ⟨hcs, _⟩ | ⟨x, l, c, m, n, D, Pl, hcs, hb, hl, hm', hmm, _, hi⟩
  · simp [Value.cells] at hcs
    obtain ⟨rfl, rfl, rfl⟩ := hcs
    exact ⟨none, 0, 0, [], rfl, rfl, Nat.le_refl _, by omega, fun h => by simp at h⟩
  · simp [Value.cells] at hcs
    obtain ⟨rfl, rfl, rfl⟩ := hcs
    obtain ⟨xs, hxl, hxs⟩ := n26_list (p := fun i (q : N26) => Ok26 q ∧ w.cell? (x.add (i * 6 + 0)) = some (.int .u8 q.p) ∧ w.cell? (x.add (i * 6 + 1)) = some (.int .u8 q.pos) ∧ w.cell? (x.add (i * 6 + 2)) = some (.int .u8 q.ov) ∧ w.cell? (x.add (i * 6 + 3)) = some (.int .i8 q.z) ∧ w.cell? (x.add (i * 6 + 4)) = some (.bool q.au) ∧ w.cell? (x.add (i * 6 + 5)) = some (.bool q.tx)) n26Z len (fun i him => by
      obtain ⟨cs', hc, ht'⟩ := hi i (by rw [hmm]; split <;> omega)
      rw [hC] at hc
      obtain ⟨_, hcl, hat⟩ := World.cells?_some hc
      obtain ⟨ys, n', _, hy, _, hlen, hg⟩ := DataW.trod_struct he ht'
      match cs', hcl with
      | [c0, c1, c2, c3, c4, c5], _ =>
        match ys, hlen.trans hn with
        | [y0, y1, y2, y3, y4, y5], _ =>
          obtain ⟨f0, k0, o0, z0, u0⟩ := g0
          obtain ⟨f1, k1, o1, z1, u1⟩ := g1
          obtain ⟨f2, k2, o2, z2, u2⟩ := g2
          obtain ⟨f3, k3, o3, z3, u3⟩ := g3
          obtain ⟨f4, k4, o4, z4, u4⟩ := g4
          obtain ⟨f5, k5, o5, z5, u5⟩ := g5
          have e0 : DataW.trod enc P w base spare held n' f0.type [c0] = some y0 := by simpa [o0, z0] using hg 0 f0 k0
          have e1 : DataW.trod enc P w base spare held n' f1.type [c1] = some y1 := by simpa [o1, z1] using hg 1 f1 k1
          have e2 : DataW.trod enc P w base spare held n' f2.type [c2] = some y2 := by simpa [o2, z2] using hg 2 f2 k2
          have e3 : DataW.trod enc P w base spare held n' f3.type [c3] = some y3 := by simpa [o3, z3] using hg 3 f3 k3
          have e4 : DataW.trod enc P w base spare held n' f4.type [c4] = some y4 := by simpa [o4, z4] using hg 4 f4 k4
          have e5 : DataW.trod enc P w base spare held n' f5.type [c5] = some y5 := by simpa [o5, z5] using hg 5 f5 k5
          obtain ⟨x0, a0, _, w0⟩ := DataW.trod_int u0 e0
          obtain ⟨x1, a1, _, w1⟩ := DataW.trod_int u1 e1
          obtain ⟨x2, a2, _, w2⟩ := DataW.trod_int u2 e2
          obtain ⟨x3, a3, _, w3⟩ := DataW.trod_int u3 e3
          obtain ⟨x4, a4, _⟩ := DataW.trod_bool u4 e4
          obtain ⟨x5, a5, _⟩ := DataW.trod_bool u5 e5
          simp at a0 a1 a2 a3 a4 a5
          subst a0 a1 a2 a3 a4 a5
          have r0 := hat 0 (by omega); have r1 := hat 1 (by omega); have r2 := hat 2 (by omega); have r3 := hat 3 (by omega); have r4 := hat 4 (by omega); have r5 := hat 5 (by omega)
          rw [Go.Deep.add_add] at r0 r1 r2 r3 r4 r5
          exact ⟨⟨x0, x1, x2, x3, x4, x5⟩, ⟨wf_u8s w0, wf_u8s w1, wf_u8s w2, wf_i8s w3⟩, r0, r1, r2, r3, r4, r5⟩)
    refine ⟨some x, len, cap, xs, rfl, hxl, hl, by simpa [maxLen] using hm', fun h0 => ?_⟩
    rw [hxl] at h0
    have hp := n26_plain (by simpa using (hxs 0 h0).2.1)
    refine ⟨x.block, x.off, by rw [← hp], cell_lt (hxs 0 h0).2.1, fun i hi => ?_⟩
    rw [hxl] at hi
    obtain ⟨k0, k1, k2, k3, k4, k5, k6⟩ := hxs i hi
    rw [hp] at k1 k2 k3 k4 k5 k6
    rw [add_plain] at k1 k2 k3 k4 k5 k6
    exact ⟨k0, k1, k2, k3, k4, k5, k6⟩
end
end Go.Proofs.Ytjcbphhemmdnjaa
