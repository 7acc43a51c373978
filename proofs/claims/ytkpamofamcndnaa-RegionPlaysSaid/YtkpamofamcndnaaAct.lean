/- Acts of law07: as data; a slice of them that came in, opened. -/
import Derived.Test.YtkpamofamcndnaaOpenA
namespace Go.Proofs.Ytkpamofamcndnaa
open Go Go.ChangeShapes Go.WideShapes Go.ChangeAt Go.RowKit Go.Deep
set_option linter.unusedSimpArgs false
set_option linter.unusedVariables false
/-- An act: its kind, a place, how wide, how high. -/
structure ActZ where
  (k x y ww h : Int)
def act0 : ActZ := ⟨0, 0, 0, 0, 0⟩
def ActOk (q : ActZ) : Prop := (0 ≤ q.k ∧ q.k ≤ 255) ∧ (0 ≤ q.x ∧ q.x ≤ 255) ∧ (0 ≤ q.y ∧ q.y ≤ 255) ∧ (0 ≤ q.ww ∧ q.ww ≤ 255) ∧ (0 ≤ q.h ∧ q.h ≤ 255)
def ActsAt (w : World) (a : Option Addr) (l : List ActZ) : Prop := 0 < l.length → ∃ b off, a = some ⟨b, off, none⟩ ∧ b < w.heap.size ∧ ∀ i, i < l.length → ActOk (l.getD i act0) ∧ w.cell? ⟨b, off + i * 5, none⟩ = some (.int .u8 (l.getD i act0).k) ∧ w.cell? ⟨b, off + i * 5 + 1, none⟩ = some (.int .u8 (l.getD i act0).x) ∧ w.cell? ⟨b, off + i * 5 + 2, none⟩ = some (.int .u8 (l.getD i act0).y) ∧ w.cell? ⟨b, off + i * 5 + 3, none⟩ = some (.int .u8 (l.getD i act0).ww) ∧ w.cell? ⟨b, off + i * 5 + 4, none⟩ = some (.int .u8 (l.getD i act0).h)
theorem wf_u8' {x : Int} (h : (Lit.int .u8 x).wf = true) : 0 ≤ x ∧ x ≤ 255 := by
  simpa [Lit.wf, IntKind.min, IntKind.max, IntKind.bits, IntKind.signed] using h
section
variable {H : Type} {enc : TypeId × Value → H} {P : Program} {w : World} {base : Nat} {spare : Nat → Bool} {held : Bool}
theorem open_acts {r : Reach} {b0 : Nat} {t e : TypeId} {fs gs : Array Field} {v : Value} {d : DataW H} {p : List MemPlace} (ht : P.underlying t = some (.slice e)) (he : P.underlying e = some (.struct fs)) (hC : P.cellsOf e = 5) (hn : fs.size = 2)
    (g0 : ∃ f, fs[0]? = some f ∧ f.offset = 0 ∧ P.cellsOf f.type = 1 ∧ P.underlying f.type = some (.int .u8))
    (g1 : ∃ f, fs[1]? = some f ∧ f.offset = 1 ∧ P.cellsOf f.type = 4 ∧ P.underlying f.type = some (.struct gs)) (hm : gs.size = 4)
    (q0 : ∃ f, gs[0]? = some f ∧ f.offset = 0 ∧ P.cellsOf f.type = 1 ∧ P.underlying f.type = some (.int .u8)) (q1 : ∃ f, gs[1]? = some f ∧ f.offset = 1 ∧ P.cellsOf f.type = 1 ∧ P.underlying f.type = some (.int .u8))
    (q2 : ∃ f, gs[2]? = some f ∧ f.offset = 2 ∧ P.cellsOf f.type = 1 ∧ P.underlying f.type = some (.int .u8)) (q3 : ∃ f, gs[3]? = some f ∧ f.offset = 3 ∧ P.cellsOf f.type = 1 ∧ P.underlying f.type = some (.int .u8))
    (hv : Value.okWide P w r b0 t v) (h : DataW.Trod enc P w base spare held t v d p) :
    ∃ (a : Option Addr) (n cap : Nat) (l : List ActZ), v = .slice a n cap ∧ l.length = n ∧ n ≤ cap ∧ cap ≤ 9223372036854775807 ∧ ActsAt w a l := by
  obtain ⟨a, len, cap, rfl⟩ := okWide_slice ht hv
  obtain ⟨fuel, hx⟩ := h
  rcases open_slice ht hx with ⟨hcs, _⟩ | ⟨x, l, c, m, n, D, Pl, hcs, hb, hl, hm', hmm, _, hi⟩
  · simp [Value.cells] at hcs
    obtain ⟨rfl, rfl, rfl⟩ := hcs
    exact ⟨none, 0, 0, [], rfl, rfl, Nat.le_refl _, by omega, fun h => by simp at h⟩
  · simp [Value.cells] at hcs
    obtain ⟨rfl, rfl, rfl⟩ := hcs
    obtain ⟨xs, hxl, hxs⟩ := quad_list (p := fun i (q : ActZ) => ActOk q ∧ w.cell? (x.add (i * 5 + 0)) = some (.int .u8 q.k) ∧ w.cell? (x.add (i * 5 + 1)) = some (.int .u8 q.x) ∧ w.cell? (x.add (i * 5 + 2)) = some (.int .u8 q.y) ∧ w.cell? (x.add (i * 5 + 3)) = some (.int .u8 q.ww) ∧ w.cell? (x.add (i * 5 + 4)) = some (.int .u8 q.h)) act0 len (fun i him => by
      obtain ⟨cs', hc, ht'⟩ := hi i (by rw [hmm]; split <;> omega)
      rw [hC] at hc
      obtain ⟨_, hcl, hat⟩ := World.cells?_some hc
      obtain ⟨ys, n', _, hy, _, hlen, hg⟩ := DataW.trod_struct he ht'
      match cs', hcl with
      | [c0, c1, c2, c3, c4], _ =>
        match ys, hlen.trans hn with
        | [y0, y1], _ =>
          obtain ⟨f0, k0, o0, z0, u0⟩ := g0
          obtain ⟨f1, k1, o1, z1, u1⟩ := g1
          have e0 : DataW.trod enc P w base spare held n' f0.type [c0] = some y0 := by simpa [o0, z0] using hg 0 f0 k0
          have e1 : DataW.trod enc P w base spare held n' f1.type [c1, c2, c3, c4] = some y1 := by simpa [o1, z1] using hg 1 f1 k1
          obtain ⟨ys2, n2, _, hy2, _, hlen2, hg2⟩ := DataW.trod_struct u1 e1
          match ys2, hlen2.trans hm with
          | [t0, t1, t2, t3], _ =>
            obtain ⟨a0, l0, p0, s0, v0⟩ := q0
            obtain ⟨a1, l1, p1, s1, v1⟩ := q1
            obtain ⟨a2, l2, p2, s2, v2⟩ := q2
            obtain ⟨a3, l3, p3, s3, v3⟩ := q3
            have j0 : DataW.trod enc P w base spare held n2 a0.type [c1] = some t0 := by simpa [p0, s0] using hg2 0 a0 l0
            have j1 : DataW.trod enc P w base spare held n2 a1.type [c2] = some t1 := by simpa [p1, s1] using hg2 1 a1 l1
            have j2 : DataW.trod enc P w base spare held n2 a2.type [c3] = some t2 := by simpa [p2, s2] using hg2 2 a2 l2
            have j3 : DataW.trod enc P w base spare held n2 a3.type [c4] = some t3 := by simpa [p3, s3] using hg2 3 a3 l3
            obtain ⟨x0, b0', _, w0⟩ := DataW.trod_int u0 e0
            obtain ⟨x1, b1', _, w1⟩ := DataW.trod_int v0 j0
            obtain ⟨x2, b2', _, w2⟩ := DataW.trod_int v1 j1
            obtain ⟨x3, b3', _, w3⟩ := DataW.trod_int v2 j2
            obtain ⟨x4, b4', _, w4⟩ := DataW.trod_int v3 j3
            simp at b0' b1' b2' b3' b4'
            subst b0' b1' b2' b3' b4'
            have r0 := hat 0 (by omega); have r1 := hat 1 (by omega); have r2 := hat 2 (by omega); have r3 := hat 3 (by omega); have r4 := hat 4 (by omega)
            rw [Go.Deep.add_add] at r0 r1 r2 r3 r4
            exact ⟨⟨x0, x1, x2, x3, x4⟩, ⟨wf_u8' w0, wf_u8' w1, wf_u8' w2, wf_u8' w3, wf_u8' w4⟩, r0, r1, r2, r3, r4⟩)
    refine ⟨some x, len, cap, xs, rfl, hxl, hl, by simpa [maxLen] using hm', fun h0 => ?_⟩
    rw [hxl] at h0
    have hp := quad_plain (by simpa using (hxs 0 h0).2.1)
    refine ⟨x.block, x.off, by rw [← hp], cell_lt (hxs 0 h0).2.1, fun i hi => ?_⟩
    rw [hxl] at hi
    obtain ⟨k0, k1, k2, k3, k4, k5⟩ := hxs i hi
    rw [hp] at k1 k2 k3 k4 k5
    rw [add_plain] at k1 k2 k3 k4 k5
    exact ⟨k0, k1, k2, k3, k4, k5⟩
end
end Go.Proofs.Ytkpamofamcndnaa
