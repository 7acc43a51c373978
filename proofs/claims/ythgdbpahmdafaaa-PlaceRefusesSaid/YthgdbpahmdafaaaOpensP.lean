/- A struct argument of package place, opened. -/
import Derived.Test.YthgdbpahmdafaaaWrap
import Derived.Lib.SmallJoins
import Derived.Deep.Fields
namespace Go.Proofs.Ythgdbpahmdafaaa
open Go Go.ChangeShapes Go.WideShapes Go.ChangeAt Go.RowKit
set_option linter.unusedSimpArgs false
set_option linter.unusedVariables false
section
variable {H : Type} {enc : TypeId × Value → H} {P : Program} {w : World} {base : Nat} {spare : Nat → Bool} {held : Bool}
theorem open_iiiibbbiibbiiiiiib {r : Reach} {b0 : Nat} {t : TypeId} {fs : Array Field} {v : Value} {d : DataW H} {p : List MemPlace} (hs : P.underlying t = some (.struct fs)) (hone : Go.Deep.oneCellFields P fs = true) (hn : fs.size = 18) (hC : P.cellsOf t = 18)
    (g0 : ∃ f, fs[0]? = some f ∧ P.underlying f.type = some (.int .i64)) (g1 : ∃ f, fs[1]? = some f ∧ P.underlying f.type = some (.int .i64)) (g2 : ∃ f, fs[2]? = some f ∧ P.underlying f.type = some (.int .i64)) (g3 : ∃ f, fs[3]? = some f ∧ P.underlying f.type = some (.int .i64)) (g4 : ∃ f, fs[4]? = some f ∧ P.underlying f.type = some .bool) (g5 : ∃ f, fs[5]? = some f ∧ P.underlying f.type = some .bool) (g6 : ∃ f, fs[6]? = some f ∧ P.underlying f.type = some .bool) (g7 : ∃ f, fs[7]? = some f ∧ P.underlying f.type = some (.int .i64)) (g8 : ∃ f, fs[8]? = some f ∧ P.underlying f.type = some (.int .i64)) (g9 : ∃ f, fs[9]? = some f ∧ P.underlying f.type = some .bool) (g10 : ∃ f, fs[10]? = some f ∧ P.underlying f.type = some .bool) (g11 : ∃ f, fs[11]? = some f ∧ P.underlying f.type = some (.int .i64)) (g12 : ∃ f, fs[12]? = some f ∧ P.underlying f.type = some (.int .i64)) (g13 : ∃ f, fs[13]? = some f ∧ P.underlying f.type = some (.int .i64)) (g14 : ∃ f, fs[14]? = some f ∧ P.underlying f.type = some (.int .i64)) (g15 : ∃ f, fs[15]? = some f ∧ P.underlying f.type = some (.int .i64)) (g16 : ∃ f, fs[16]? = some f ∧ P.underlying f.type = some (.int .i64)) (g17 : ∃ f, fs[17]? = some f ∧ P.underlying f.type = some .bool)
    (hv : Value.okWide P w r b0 t v) (h : DataW.Trod enc P w base spare held t v d p) :
    ∃ (x0 : Int) (x1 : Int) (x2 : Int) (x3 : Int) (x4 : Bool) (x5 : Bool) (x6 : Bool) (x7 : Int) (x8 : Int) (x9 : Bool) (x10 : Bool) (x11 : Int) (x12 : Int) (x13 : Int) (x14 : Int) (x15 : Int) (x16 : Int) (x17 : Bool), v = .agg #[.int .i64 x0, .int .i64 x1, .int .i64 x2, .int .i64 x3, .bool x4, .bool x5, .bool x6, .int .i64 x7, .int .i64 x8, .bool x9, .bool x10, .int .i64 x11, .int .i64 x12, .int .i64 x13, .int .i64 x14, .int .i64 x15, .int .i64 x16, .bool x17] ∧ (Lit.int .i64 x0).wf = true ∧ (Lit.int .i64 x1).wf = true ∧ (Lit.int .i64 x2).wf = true ∧ (Lit.int .i64 x3).wf = true ∧ (Lit.int .i64 x7).wf = true ∧ (Lit.int .i64 x8).wf = true ∧ (Lit.int .i64 x11).wf = true ∧ (Lit.int .i64 x12).wf = true ∧ (Lit.int .i64 x13).wf = true ∧ (Lit.int .i64 x14).wf = true ∧ (Lit.int .i64 x15).wf = true ∧ (Lit.int .i64 x16).wf = true := by
  obtain ⟨cs, rfl, hsz⟩ := okWide_struct hs hv
  obtain ⟨l⟩ := cs
  match l, hsz.trans hC with
  | [c0, c1, c2, c3, c4, c5, c6, c7, c8, c9, c10, c11, c12, c13, c14, c15, c16, c17], _ =>
    obtain ⟨fuel, hf⟩ := h
    obtain ⟨xs, n, _, hx, _, hlen, hg⟩ := DataW.trod_struct hs hf
    match xs, hlen.trans hn with
    | [y0, y1, y2, y3, y4, y5, y6, y7, y8, y9, y10, y11, y12, y13, y14, y15, y16, y17], _ =>
      obtain ⟨f0, k0, u0⟩ := g0
      obtain ⟨o0, q0⟩ := Go.Deep.hone_of hone 0 f0 k0
      have e0 : DataW.trod enc P w base spare held n f0.type [c0] = some y0 := by simpa [Value.cells, o0, q0] using hg 0 f0 k0
      obtain ⟨x0, z0, _, w0⟩ := DataW.trod_int u0 e0
      simp at z0
      subst z0
      obtain ⟨f1, k1, u1⟩ := g1
      obtain ⟨o1, q1⟩ := Go.Deep.hone_of hone 1 f1 k1
      have e1 : DataW.trod enc P w base spare held n f1.type [c1] = some y1 := by simpa [Value.cells, o1, q1] using hg 1 f1 k1
      obtain ⟨x1, z1, _, w1⟩ := DataW.trod_int u1 e1
      simp at z1
      subst z1
      obtain ⟨f2, k2, u2⟩ := g2
      obtain ⟨o2, q2⟩ := Go.Deep.hone_of hone 2 f2 k2
      have e2 : DataW.trod enc P w base spare held n f2.type [c2] = some y2 := by simpa [Value.cells, o2, q2] using hg 2 f2 k2
      obtain ⟨x2, z2, _, w2⟩ := DataW.trod_int u2 e2
      simp at z2
      subst z2
      obtain ⟨f3, k3, u3⟩ := g3
      obtain ⟨o3, q3⟩ := Go.Deep.hone_of hone 3 f3 k3
      have e3 : DataW.trod enc P w base spare held n f3.type [c3] = some y3 := by simpa [Value.cells, o3, q3] using hg 3 f3 k3
      obtain ⟨x3, z3, _, w3⟩ := DataW.trod_int u3 e3
      simp at z3
      subst z3
      obtain ⟨f4, k4, u4⟩ := g4
      obtain ⟨o4, q4⟩ := Go.Deep.hone_of hone 4 f4 k4
      have e4 : DataW.trod enc P w base spare held n f4.type [c4] = some y4 := by simpa [Value.cells, o4, q4] using hg 4 f4 k4
      obtain ⟨x4, z4, _⟩ := DataW.trod_bool u4 e4
      simp at z4
      subst z4
      obtain ⟨f5, k5, u5⟩ := g5
      obtain ⟨o5, q5⟩ := Go.Deep.hone_of hone 5 f5 k5
      have e5 : DataW.trod enc P w base spare held n f5.type [c5] = some y5 := by simpa [Value.cells, o5, q5] using hg 5 f5 k5
      obtain ⟨x5, z5, _⟩ := DataW.trod_bool u5 e5
      simp at z5
      subst z5
      obtain ⟨f6, k6, u6⟩ := g6
      obtain ⟨o6, q6⟩ := Go.Deep.hone_of hone 6 f6 k6
      have e6 : DataW.trod enc P w base spare held n f6.type [c6] = some y6 := by simpa [Value.cells, o6, q6] using hg 6 f6 k6
      obtain ⟨x6, z6, _⟩ := DataW.trod_bool u6 e6
      simp at z6
      subst z6
      obtain ⟨f7, k7, u7⟩ := g7
      obtain ⟨o7, q7⟩ := Go.Deep.hone_of hone 7 f7 k7
      have e7 : DataW.trod enc P w base spare held n f7.type [c7] = some y7 := by simpa [Value.cells, o7, q7] using hg 7 f7 k7
      obtain ⟨x7, z7, _, w7⟩ := DataW.trod_int u7 e7
      simp at z7
      subst z7
      obtain ⟨f8, k8, u8⟩ := g8
      obtain ⟨o8, q8⟩ := Go.Deep.hone_of hone 8 f8 k8
      have e8 : DataW.trod enc P w base spare held n f8.type [c8] = some y8 := by simpa [Value.cells, o8, q8] using hg 8 f8 k8
      obtain ⟨x8, z8, _, w8⟩ := DataW.trod_int u8 e8
      simp at z8
      subst z8
      obtain ⟨f9, k9, u9⟩ := g9
      obtain ⟨o9, q9⟩ := Go.Deep.hone_of hone 9 f9 k9
      have e9 : DataW.trod enc P w base spare held n f9.type [c9] = some y9 := by simpa [Value.cells, o9, q9] using hg 9 f9 k9
      obtain ⟨x9, z9, _⟩ := DataW.trod_bool u9 e9
      simp at z9
      subst z9
      obtain ⟨f10, k10, u10⟩ := g10
      obtain ⟨o10, q10⟩ := Go.Deep.hone_of hone 10 f10 k10
      have e10 : DataW.trod enc P w base spare held n f10.type [c10] = some y10 := by simpa [Value.cells, o10, q10] using hg 10 f10 k10
      obtain ⟨x10, z10, _⟩ := DataW.trod_bool u10 e10
      simp at z10
      subst z10
      obtain ⟨f11, k11, u11⟩ := g11
      obtain ⟨o11, q11⟩ := Go.Deep.hone_of hone 11 f11 k11
      have e11 : DataW.trod enc P w base spare held n f11.type [c11] = some y11 := by simpa [Value.cells, o11, q11] using hg 11 f11 k11
      obtain ⟨x11, z11, _, w11⟩ := DataW.trod_int u11 e11
      simp at z11
      subst z11
      obtain ⟨f12, k12, u12⟩ := g12
      obtain ⟨o12, q12⟩ := Go.Deep.hone_of hone 12 f12 k12
      have e12 : DataW.trod enc P w base spare held n f12.type [c12] = some y12 := by simpa [Value.cells, o12, q12] using hg 12 f12 k12
      obtain ⟨x12, z12, _, w12⟩ := DataW.trod_int u12 e12
      simp at z12
      subst z12
      obtain ⟨f13, k13, u13⟩ := g13
      obtain ⟨o13, q13⟩ := Go.Deep.hone_of hone 13 f13 k13
      have e13 : DataW.trod enc P w base spare held n f13.type [c13] = some y13 := by simpa [Value.cells, o13, q13] using hg 13 f13 k13
      obtain ⟨x13, z13, _, w13⟩ := DataW.trod_int u13 e13
      simp at z13
      subst z13
      obtain ⟨f14, k14, u14⟩ := g14
      obtain ⟨o14, q14⟩ := Go.Deep.hone_of hone 14 f14 k14
      have e14 : DataW.trod enc P w base spare held n f14.type [c14] = some y14 := by simpa [Value.cells, o14, q14] using hg 14 f14 k14
      obtain ⟨x14, z14, _, w14⟩ := DataW.trod_int u14 e14
      simp at z14
      subst z14
      obtain ⟨f15, k15, u15⟩ := g15
      obtain ⟨o15, q15⟩ := Go.Deep.hone_of hone 15 f15 k15
      have e15 : DataW.trod enc P w base spare held n f15.type [c15] = some y15 := by simpa [Value.cells, o15, q15] using hg 15 f15 k15
      obtain ⟨x15, z15, _, w15⟩ := DataW.trod_int u15 e15
      simp at z15
      subst z15
      obtain ⟨f16, k16, u16⟩ := g16
      obtain ⟨o16, q16⟩ := Go.Deep.hone_of hone 16 f16 k16
      have e16 : DataW.trod enc P w base spare held n f16.type [c16] = some y16 := by simpa [Value.cells, o16, q16] using hg 16 f16 k16
      obtain ⟨x16, z16, _, w16⟩ := DataW.trod_int u16 e16
      simp at z16
      subst z16
      obtain ⟨f17, k17, u17⟩ := g17
      obtain ⟨o17, q17⟩ := Go.Deep.hone_of hone 17 f17 k17
      have e17 : DataW.trod enc P w base spare held n f17.type [c17] = some y17 := by simpa [Value.cells, o17, q17] using hg 17 f17 k17
      obtain ⟨x17, z17, _⟩ := DataW.trod_bool u17 e17
      simp at z17
      subst z17
      exact ⟨x0, x1, x2, x3, x4, x5, x6, x7, x8, x9, x10, x11, x12, x13, x14, x15, x16, x17, rfl, w0, w1, w2, w3, w7, w8, w11, w12, w13, w14, w15, w16⟩
end
end Go.Proofs.Ythgdbpahmdafaaa
