/- law10's acts: a slice of structs of four ints that came in, opened. -/
import Derived.Test.YtcpehmlkhmfmhaaRowsS
namespace Go.Proofs.Ytcpehmlkhmfmhaa
open Go Go.ChangeShapes Go.WideShapes Go.ChangeAt Go.RowKit Go.Deep
set_option linter.unusedSimpArgs false
set_option linter.unusedVariables false
structure ActZ where
  (k n q t : Int)
def a0Z : ActZ := ⟨0, 0, 0, 0⟩
def in64 (x : Int) : Prop := -9223372036854775808 ≤ x ∧ x ≤ 9223372036854775807
def ActsIn (w : World) (a : Option Addr) (xs : List ActZ) : Prop := (∀ q ∈ xs, in64 q.k ∧ in64 q.n ∧ in64 q.q ∧ in64 q.t) ∧ (0 < xs.length → ∃ b off, a = some ⟨b, off, none⟩ ∧ b < w.heap.size ∧ ∀ i, i < xs.length → w.cell? ⟨b, off + i * 4, none⟩ = some (.int .i64 (xs.getD i a0Z).k) ∧ w.cell? ⟨b, off + i * 4 + 1, none⟩ = some (.int .i64 (xs.getD i a0Z).n) ∧ w.cell? ⟨b, off + i * 4 + 2, none⟩ = some (.int .i64 (xs.getD i a0Z).q) ∧ w.cell? ⟨b, off + i * 4 + 3, none⟩ = some (.int .i64 (xs.getD i a0Z).t))
theorem ActsIn.below {w w' : World} {a : Option Addr} {xs : List ActZ} (h : ActsIn w a xs) (hb : Below w.heap.size w w') : ActsIn w' a xs := ⟨h.1, fun h0 => by
  obtain ⟨b, off, h1, h2, h3⟩ := h.2 h0
  refine ⟨b, off, h1, Nat.lt_of_lt_of_le h2 hb.size, fun i hi => ?_⟩
  obtain ⟨k0, k1, k2, k3⟩ := h3 i hi
  exact ⟨(hb.cell (p := ⟨b, _, none⟩) h2).trans k0, (hb.cell (p := ⟨b, _, none⟩) h2).trans k1, (hb.cell (p := ⟨b, _, none⟩) h2).trans k2, (hb.cell (p := ⟨b, _, none⟩) h2).trans k3⟩⟩
section
variable {H : Type} {enc : TypeId × Value → H} {P : Program} {w : World} {base : Nat} {spare : Nat → Bool} {held : Bool}
theorem wf_i64 {x : Int} (h : (Lit.int .i64 x).wf = true) : in64 x := by
  have : (-9223372036854775808 ≤ x ∧ x ≤ 9223372036854775807) := by simpa [Lit.wf, IntKind.min, IntKind.max, IntKind.bits, IntKind.signed] using h
  exact this
theorem open_acts {r : Reach} {b0 : Nat} {t e : TypeId} {fs : Array Field} {v : Value} {d : DataW H} {p : List MemPlace} (ht : P.underlying t = some (.slice e)) (he : P.underlying e = some (.struct fs)) (hone : oneCellFields P fs = true) (hC : P.cellsOf e = fs.size) (hn : fs.size = 4)
    (g0 : ∃ f, fs[0]? = some f ∧ P.underlying f.type = some (.int .i64)) (g1 : ∃ f, fs[1]? = some f ∧ P.underlying f.type = some (.int .i64)) (g2 : ∃ f, fs[2]? = some f ∧ P.underlying f.type = some (.int .i64)) (g3 : ∃ f, fs[3]? = some f ∧ P.underlying f.type = some (.int .i64))
    (hv : Value.okWide P w r b0 t v) (h : DataW.Trod enc P w base spare held t v d p) :
    ∃ (a : Option Addr) (cap : Nat) (xs : List ActZ), v = .slice a xs.length cap ∧ xs.length ≤ cap ∧ ActsIn w a xs := by
  obtain ⟨a, len, cap, rfl⟩ := okWide_slice ht hv
  obtain ⟨fuel, hf⟩ := h
  rcases open_rows ht he hone hC hf with hcs | ⟨x, l, c, hcs, hl, hm, hel⟩
  · simp [Value.cells] at hcs
    obtain ⟨rfl, rfl, rfl⟩ := hcs
    exact ⟨none, 0, [], rfl, Nat.le_refl _, by simp, by simp⟩
  · simp [Value.cells] at hcs
    obtain ⟨rfl, rfl, rfl⟩ := hcs
    obtain ⟨f0, k0, u0⟩ := g0
    obtain ⟨f1, k1, u1⟩ := g1
    obtain ⟨f2, k2, u2⟩ := g2
    obtain ⟨f3, k3, u3⟩ := g3
    obtain ⟨xs, hxl, hxs⟩ := list_of_fn (p := fun i (q : ActZ) => (in64 q.k ∧ in64 q.n ∧ in64 q.q ∧ in64 q.t) ∧ w.cell? (x.add (i * 4 + 0)) = some (.int .i64 q.k) ∧ w.cell? (x.add (i * 4 + 1)) = some (.int .i64 q.n) ∧ w.cell? (x.add (i * 4 + 2)) = some (.int .i64 q.q) ∧ w.cell? (x.add (i * 4 + 3)) = some (.int .i64 q.t)) a0Z len (fun i hi => by
      obtain ⟨n, hq⟩ := hel i hi
      obtain ⟨v0, y0, c0, e0⟩ := hq 0 f0 k0
      obtain ⟨v1, y1, c1, e1⟩ := hq 1 f1 k1
      obtain ⟨v2, y2, c2, e2⟩ := hq 2 f2 k2
      obtain ⟨v3, y3, c3, e3⟩ := hq 3 f3 k3
      obtain ⟨x0, z0, _, w0⟩ := DataW.trod_int u0 e0
      obtain ⟨x1, z1, _, w1⟩ := DataW.trod_int u1 e1
      obtain ⟨x2, z2, _, w2⟩ := DataW.trod_int u2 e2
      obtain ⟨x3, z3, _, w3⟩ := DataW.trod_int u3 e3
      simp at z0 z1 z2 z3
      subst z0 z1 z2 z3
      rw [hn] at c0 c1 c2 c3
      exact ⟨⟨x0, x1, x2, x3⟩, ⟨wf_i64 w0, wf_i64 w1, wf_i64 w2, wf_i64 w3⟩, c0, c1, c2, c3⟩)
    refine ⟨some x, cap, xs, by rw [hxl], by rw [hxl]; exact hl, fun q hq => ?_, fun h0 => ?_⟩
    · obtain ⟨i, hi, rfl⟩ := List.mem_iff_getElem.1 hq
      have := (hxs i (by omega)).1
      simpa [List.getD_eq_getElem?_getD, hi] using this
    · rw [hxl] at h0 ⊢
      have hp := rows_plain (by simpa using (hxs 0 h0).2.1)
      refine ⟨x.block, x.off, by rw [← hp], ?_, fun i hi => ?_⟩
      · have := cell_lt (hxs 0 h0).2.1
        simpa [block_add] using this
      · obtain ⟨_, c0, c1, c2, c3⟩ := hxs i hi
        rw [hp] at c0 c1 c2 c3
        simp only [add_plain] at c0 c1 c2 c3
        exact ⟨c0, c1, c2, c3⟩
end
end Go.Proofs.Ytcpehmlkhmfmhaa
