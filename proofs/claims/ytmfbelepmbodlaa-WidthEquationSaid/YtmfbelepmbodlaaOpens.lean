/- Struct arguments opened. -/
import Derived.Test.YtmfbelepmbodlaaWrap
import Derived.Lib.SmallJoins
import Derived.Deep.Fields
namespace Go.Proofs.Ytmfbelepmbodlaa
open Go Go.ChangeShapes Go.WideShapes Go.ChangeAt Go.RowKit
set_option linter.unusedSimpArgs false
set_option linter.unusedVariables false
section
variable {H : Type} {enc : TypeId × Value → H} {P : Program} {w : World} {base : Nat} {spare : Nat → Bool} {held : Bool}
theorem open_iibiibbiiib {r : Reach} {b0 : Nat} {t : TypeId} {fs : Array Field} {v : Value} {d : DataW H} {p : List MemPlace} (hs : P.underlying t = some (.struct fs)) (hone : Go.Deep.oneCellFields P fs = true) (hn : fs.size = 11) (hC : P.cellsOf t = 11)
    (g0 : ∃ f, fs[0]? = some f ∧ P.underlying f.type = some (.int .i64)) (g1 : ∃ f, fs[1]? = some f ∧ P.underlying f.type = some (.int .i64)) (g2 : ∃ f, fs[2]? = some f ∧ P.underlying f.type = some .bool) (g3 : ∃ f, fs[3]? = some f ∧ P.underlying f.type = some (.int .i64)) (g4 : ∃ f, fs[4]? = some f ∧ P.underlying f.type = some (.int .i64)) (g5 : ∃ f, fs[5]? = some f ∧ P.underlying f.type = some .bool) (g6 : ∃ f, fs[6]? = some f ∧ P.underlying f.type = some .bool) (g7 : ∃ f, fs[7]? = some f ∧ P.underlying f.type = some (.int .i64)) (g8 : ∃ f, fs[8]? = some f ∧ P.underlying f.type = some (.int .i64)) (g9 : ∃ f, fs[9]? = some f ∧ P.underlying f.type = some (.int .i64)) (g10 : ∃ f, fs[10]? = some f ∧ P.underlying f.type = some .bool)
    (hv : Value.okWide P w r b0 t v) (h : DataW.Trod enc P w base spare held t v d p) :
    ∃ (x0 : Int) (x1 : Int) (x2 : Bool) (x3 : Int) (x4 : Int) (x5 : Bool) (x6 : Bool) (x7 : Int) (x8 : Int) (x9 : Int) (x10 : Bool), v = .agg #[.int .i64 x0, .int .i64 x1, .bool x2, .int .i64 x3, .int .i64 x4, .bool x5, .bool x6, .int .i64 x7, .int .i64 x8, .int .i64 x9, .bool x10] ∧ (Lit.int .i64 x0).wf = true ∧ (Lit.int .i64 x1).wf = true ∧ (Lit.int .i64 x3).wf = true ∧ (Lit.int .i64 x4).wf = true ∧ (Lit.int .i64 x7).wf = true ∧ (Lit.int .i64 x8).wf = true ∧ (Lit.int .i64 x9).wf = true := by
  obtain ⟨cs, rfl, hsz⟩ := okWide_struct hs hv
  obtain ⟨l⟩ := cs
  match l, hsz.trans hC with
  | [c0, c1, c2, c3, c4, c5, c6, c7, c8, c9, c10], _ =>
    obtain ⟨fuel, hf⟩ := h
    obtain ⟨xs, n, _, hx, _, hlen, hg⟩ := DataW.trod_struct hs hf
    match xs, hlen.trans hn with
    | [y0, y1, y2, y3, y4, y5, y6, y7, y8, y9, y10], _ =>
      obtain ⟨f0, k0, u0⟩ := g0
      obtain ⟨o0, q0⟩ := Go.Deep.hone_of hone 0 f0 k0
      have e0 : DataW.trod enc P w base spare held n f0.type [c0] = some y0 := by simpa [Value.cells, o0, q0] using hg 0 f0 k0
      obtain ⟨x0, z0, _, w0⟩ := DataW.trod_int u0 e0
      simp at z0
      subst z0
      obtain ⟨f1, k1, u1⟩ := g1
      obtain ⟨o1, q1⟩ := Go.Deep.hone_of hone 1 f1 k1
      have e1 : DataW.trod enc P w base spare held n f1.type [c1] = some y1 := by simpa [Value.cells, o1, q1] using hg 1 f1 k1
      obtain ⟨x1, z1, _, w1⟩ := DataW.trod_int u1 e1
      simp at z1
      subst z1
      obtain ⟨f2, k2, u2⟩ := g2
      obtain ⟨o2, q2⟩ := Go.Deep.hone_of hone 2 f2 k2
      have e2 : DataW.trod enc P w base spare held n f2.type [c2] = some y2 := by simpa [Value.cells, o2, q2] using hg 2 f2 k2
      obtain ⟨x2, z2, _⟩ := DataW.trod_bool u2 e2
      simp at z2
      subst z2
      obtain ⟨f3, k3, u3⟩ := g3
      obtain ⟨o3, q3⟩ := Go.Deep.hone_of hone 3 f3 k3
      have e3 : DataW.trod enc P w base spare held n f3.type [c3] = some y3 := by simpa [Value.cells, o3, q3] using hg 3 f3 k3
      obtain ⟨x3, z3, _, w3⟩ := DataW.trod_int u3 e3
      simp at z3
      subst z3
      obtain ⟨f4, k4, u4⟩ := g4
      obtain ⟨o4, q4⟩ := Go.Deep.hone_of hone 4 f4 k4
      have e4 : DataW.trod enc P w base spare held n f4.type [c4] = some y4 := by simpa [Value.cells, o4, q4] using hg 4 f4 k4
      obtain ⟨x4, z4, _, w4⟩ := DataW.trod_int u4 e4
      simp at z4
      subst z4
      obtain ⟨f5, k5, u5⟩ := g5
      obtain ⟨o5, q5⟩ := Go.Deep.hone_of hone 5 f5 k5
      have e5 : DataW.trod enc P w base spare held n f5.type [c5] = some y5 := by simpa [Value.cells, o5, q5] using hg 5 f5 k5
      obtain ⟨x5, z5, _⟩ := DataW.trod_bool u5 e5
      simp at z5
      subst z5
      obtain ⟨f6, k6, u6⟩ := g6
      obtain ⟨o6, q6⟩ := Go.Deep.hone_of hone 6 f6 k6
      have e6 : DataW.trod enc P w base spare held n f6.type [c6] = some y6 := by simpa [Value.cells, o6, q6] using hg 6 f6 k6
      obtain ⟨x6, z6, _⟩ := DataW.trod_bool u6 e6
      simp at z6
      subst z6
      obtain ⟨f7, k7, u7⟩ := g7
      obtain ⟨o7, q7⟩ := Go.Deep.hone_of hone 7 f7 k7
      have e7 : DataW.trod enc P w base spare held n f7.type [c7] = some y7 := by simpa [Value.cells, o7, q7] using hg 7 f7 k7
      obtain ⟨x7, z7, _, w7⟩ := DataW.trod_int u7 e7
      simp at z7
      subst z7
      obtain ⟨f8, k8, u8⟩ := g8
      obtain ⟨o8, q8⟩ := Go.Deep.hone_of hone 8 f8 k8
      have e8 : DataW.trod enc P w base spare held n f8.type [c8] = some y8 := by simpa [Value.cells, o8, q8] using hg 8 f8 k8
      obtain ⟨x8, z8, _, w8⟩ := DataW.trod_int u8 e8
      simp at z8
      subst z8
      obtain ⟨f9, k9, u9⟩ := g9
      obtain ⟨o9, q9⟩ := Go.Deep.hone_of hone 9 f9 k9
      have e9 : DataW.trod enc P w base spare held n f9.type [c9] = some y9 := by simpa [Value.cells, o9, q9] using hg 9 f9 k9
      obtain ⟨x9, z9, _, w9⟩ := DataW.trod_int u9 e9
      simp at z9
      subst z9
      obtain ⟨f10, k10, u10⟩ := g10
      obtain ⟨o10, q10⟩ := Go.Deep.hone_of hone 10 f10 k10
      have e10 : DataW.trod enc P w base spare held n f10.type [c10] = some y10 := by simpa [Value.cells, o10, q10] using hg 10 f10 k10
      obtain ⟨x10, z10, _⟩ := DataW.trod_bool u10 e10
      simp at z10
      subst z10
      exact ⟨x0, x1, x2, x3, x4, x5, x6, x7, x8, x9, x10, rfl, w0, w1, w3, w4, w7, w8, w9⟩
end
end Go.Proofs.Ytmfbelepmbodlaa
