/- The argument of SnapBands, opened. -/
import Derived.Test.YtbjmncgfbdkidaaWrap
import Derived.Lib.SmallJoins
import Derived.Deep.Fields
namespace Go.Proofs.Ytbjmncgfbdkidaa
open Go Go.ChangeShapes Go.WideShapes Go.ChangeAt Go.RowKit
set_option linter.unusedSimpArgs false
set_option linter.unusedVariables false
section
variable {H : Type} {enc : TypeId × Value → H} {P : Program} {w : World} {base : Nat} {spare : Nat → Bool} {held : Bool}
theorem open_banded {r : Reach} {b0 : Nat} {t e : TypeId} {fs : Array Field} {v : Value} {d : DataW H} {p : List MemPlace} (hs : P.underlying t = some (.struct fs)) (hn : fs.size = 5) (hC : P.cellsOf t = 8)
    (g0 : ∃ f, fs[0]? = some f ∧ f.offset = 0 ∧ P.cellsOf f.type = 1 ∧ P.underlying f.type = some (.int .i16)) (g1 : ∃ f, fs[1]? = some f ∧ f.offset = 1 ∧ P.cellsOf f.type = 1 ∧ P.underlying f.type = some (.int .i16)) (g2 : ∃ f, fs[2]? = some f ∧ f.offset = 2 ∧ P.cellsOf f.type = 1 ∧ P.underlying f.type = some (.int .u8)) (g3 : ∃ f, fs[3]? = some f ∧ f.offset = 3 ∧ P.cellsOf f.type = 1 ∧ P.underlying f.type = some (.int .u8))
    (g4 : ∃ f, fs[4]? = some f ∧ f.offset = 4 ∧ P.cellsOf f.type = 4 ∧ P.underlying f.type = some (.array 4 e)) (he : P.underlying e = some (.int .i32)) (hce : P.cellsOf e = 1)
    (hv : Value.okWide P w r b0 t v) (h : DataW.Trod enc P w base spare held t v d p) :
    ∃ (x0 x1 x2 x3 x4 x5 x6 x7 : Int), v = .agg #[.int .i16 x0, .int .i16 x1, .int .u8 x2, .int .u8 x3, .int .i32 x4, .int .i32 x5, .int .i32 x6, .int .i32 x7] ∧ (Lit.int .i16 x0).wf = true ∧ (Lit.int .i16 x1).wf = true ∧ (Lit.int .u8 x2).wf = true ∧ (Lit.int .u8 x3).wf = true ∧ (Lit.int .i32 x4).wf = true ∧ (Lit.int .i32 x5).wf = true ∧ (Lit.int .i32 x6).wf = true ∧ (Lit.int .i32 x7).wf = true := by
  obtain ⟨cs, rfl, hsz⟩ := okWide_struct hs hv
  obtain ⟨l⟩ := cs
  match l, hsz.trans hC with
  | [c0, c1, c2, c3, c4, c5, c6, c7], _ =>
    obtain ⟨fuel, hf⟩ := h
    obtain ⟨xs, n, _, hx, _, hlen, hg⟩ := DataW.trod_struct hs hf
    match xs, hlen.trans hn with
    | [y0, y1, y2, y3, y4], _ =>
      obtain ⟨f0, k0, o0, q0, u0⟩ := g0
      obtain ⟨f1, k1, o1, q1, u1⟩ := g1
      obtain ⟨f2, k2, o2, q2, u2⟩ := g2
      obtain ⟨f3, k3, o3, q3, u3⟩ := g3
      obtain ⟨f4, k4, o4, q4, u4⟩ := g4
      have e0 : DataW.trod enc P w base spare held n f0.type [c0] = some y0 := by simpa [Value.cells, o0, q0] using hg 0 f0 k0
      have e1 : DataW.trod enc P w base spare held n f1.type [c1] = some y1 := by simpa [Value.cells, o1, q1] using hg 1 f1 k1
      have e2 : DataW.trod enc P w base spare held n f2.type [c2] = some y2 := by simpa [Value.cells, o2, q2] using hg 2 f2 k2
      have e3 : DataW.trod enc P w base spare held n f3.type [c3] = some y3 := by simpa [Value.cells, o3, q3] using hg 3 f3 k3
      have e4 : DataW.trod enc P w base spare held n f4.type [c4, c5, c6, c7] = some y4 := by simpa [Value.cells, o4, q4] using hg 4 f4 k4
      obtain ⟨x0, z0, _, w0⟩ := DataW.trod_int u0 e0
      obtain ⟨x1, z1, _, w1⟩ := DataW.trod_int u1 e1
      obtain ⟨x2, z2, _, w2⟩ := DataW.trod_int u2 e2
      obtain ⟨x3, z3, _, w3⟩ := DataW.trod_int u3 e3
      obtain ⟨t0, t1, t2, t3, m, _, j0, j1, j2, j3⟩ := trod_array4 u4 hce e4
      obtain ⟨x4, z4, _, w4⟩ := DataW.trod_int he j0
      obtain ⟨x5, z5, _, w5⟩ := DataW.trod_int he j1
      obtain ⟨x6, z6, _, w6⟩ := DataW.trod_int he j2
      obtain ⟨x7, z7, _, w7⟩ := DataW.trod_int he j3
      simp at z0 z1 z2 z3 z4 z5 z6 z7
      subst z0 z1 z2 z3 z4 z5 z6 z7
      exact ⟨x0, x1, x2, x3, x4, x5, x6, x7, rfl, w0, w1, w2, w3, w4, w5, w6, w7⟩
end
end Go.Proofs.Ytbjmncgfbdkidaa
