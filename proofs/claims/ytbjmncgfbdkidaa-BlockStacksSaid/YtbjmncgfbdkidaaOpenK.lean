/- A slice of kids that came in, opened. -/
import Derived.Test.YtbjmncgfbdkidaaOpenS
import Derived.Test.YtbjmncgfbdkidaaBlockK
namespace Go.Proofs.Ytbjmncgfbdkidaa
open Go Go.ChangeShapes Go.WideShapes Go.ChangeAt Go.RowKit Go.Deep
set_option linter.unusedSimpArgs false
set_option linter.unusedVariables false
section
variable {H : Type} {enc : TypeId × Value → H} {P : Program} {w : World} {base : Nat} {spare : Nat → Bool} {held : Bool}
theorem open_kids {r : Reach} {b0 : Nat} {t e : TypeId} {fs : Array Field} {v : Value} {d : DataW H} {p : List MemPlace} (ht : P.underlying t = some (.slice e)) (he : P.underlying e = some (.struct fs)) (hone : oneCellFields P fs = true) (hC : P.cellsOf e = fs.size) (hn : fs.size = 6)
    (g0 : ∃ f, fs[0]? = some f ∧ P.underlying f.type = some (.int .i64)) (g1 : ∃ f, fs[1]? = some f ∧ P.underlying f.type = some (.int .i64)) (g2 : ∃ f, fs[2]? = some f ∧ P.underlying f.type = some (.int .i64)) (g3 : ∃ f, fs[3]? = some f ∧ P.underlying f.type = some (.int .i64)) (g4 : ∃ f, fs[4]? = some f ∧ P.underlying f.type = some (.int .i64)) (g5 : ∃ f, fs[5]? = some f ∧ P.underlying f.type = some .bool)
    (hv : Value.okWide P w r b0 t v) (h : DataW.Trod enc P w base spare held t v d p) :
    ∃ (a : Option Addr) (cap : Nat) (xs : List KidZ), v = .slice a xs.length cap ∧ LKidsIn w a xs := by
  obtain ⟨a, len, cap, rfl⟩ := okWide_slice ht hv
  obtain ⟨fuel, hf⟩ := h
  rcases open_rows ht he hone hC hf with hcs | ⟨x, l, c, hcs, hl, hm, hel⟩
  · simp [Value.cells] at hcs
    obtain ⟨rfl, rfl, rfl⟩ := hcs
    exact ⟨none, 0, [], rfl, by simp, by simp⟩
  · simp [Value.cells] at hcs
    obtain ⟨rfl, rfl, rfl⟩ := hcs
    obtain ⟨f0, kf0, u0⟩ := g0
    obtain ⟨f1, kf1, u1⟩ := g1
    obtain ⟨f2, kf2, u2⟩ := g2
    obtain ⟨f3, kf3, u3⟩ := g3
    obtain ⟨f4, kf4, u4⟩ := g4
    obtain ⟨f5, kf5, u5⟩ := g5
    obtain ⟨xs, hxl, hxs⟩ := list_of_fn (p := fun i (q : KidZ) => w.cell? (x.add (i * 6 + 0)) = some (.int .i64 q.u) ∧ w.cell? (x.add (i * 6 + 1)) = some (.int .i64 q.d) ∧ w.cell? (x.add (i * 6 + 2)) = some (.int .i64 q.au) ∧ w.cell? (x.add (i * 6 + 3)) = some (.int .i64 q.ad) ∧ w.cell? (x.add (i * 6 + 4)) = some (.int .i64 q.h) ∧ w.cell? (x.add (i * 6 + 5)) = some (.bool q.t)) k0 len (fun i hi => by
      obtain ⟨n, hq⟩ := hel i hi
      obtain ⟨v0, y0, c0, e0⟩ := hq 0 f0 kf0
      obtain ⟨v1, y1, c1, e1⟩ := hq 1 f1 kf1
      obtain ⟨v2, y2, c2, e2⟩ := hq 2 f2 kf2
      obtain ⟨v3, y3, c3, e3⟩ := hq 3 f3 kf3
      obtain ⟨v4, y4, c4, e4⟩ := hq 4 f4 kf4
      obtain ⟨v5, y5, c5, e5⟩ := hq 5 f5 kf5
      obtain ⟨x0, z0, _, w0⟩ := DataW.trod_int u0 e0
      obtain ⟨x1, z1, _, w1⟩ := DataW.trod_int u1 e1
      obtain ⟨x2, z2, _, w2⟩ := DataW.trod_int u2 e2
      obtain ⟨x3, z3, _, w3⟩ := DataW.trod_int u3 e3
      obtain ⟨x4, z4, _, w4⟩ := DataW.trod_int u4 e4
      obtain ⟨x5, z5, _⟩ := DataW.trod_bool u5 e5
      simp at z0 z1 z2 z3 z4 z5
      subst z0 z1 z2 z3 z4 z5
      rw [hn] at c0 c1 c2 c3 c4 c5
      exact ⟨⟨x0, x1, x2, x3, x4, x5⟩, c0, c1, c2, c3, c4, c5⟩)
    refine ⟨some x, cap, xs, by rw [hxl], by rw [hxl]; exact Nat.le_trans hl (by simpa [maxLen] using hm), fun h0 => ?_⟩
    rw [hxl] at h0 ⊢
    have hp := rows_plain (by simpa using (hxs 0 h0).1)
    refine ⟨x.block, x.off, by rw [← hp], ?_, fun i hi => ?_⟩
    · have := cell_lt (hxs 0 h0).1
      simpa [block_add] using this
    · obtain ⟨c0, c1, c2, c3, c4, c5⟩ := hxs i hi
      rw [hp] at c0 c1 c2 c3 c4 c5
      simp only [add_plain] at c0 c1 c2 c3 c4 c5
      exact ⟨c0, c1, c2, c3, c4, c5⟩
end
end Go.Proofs.Ytbjmncgfbdkidaa
