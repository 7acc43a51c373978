/- A slice of law23.Node that comes in; a slice of pairs. -/
import Derived.Test.YtjcbphhemmdnjaaScrA
import Derived.Test.YtjcbphhemmdnjaaArr
import Derived.Deep.Slices
import Derived.Deep.Fields
import Derived.ChangeSame
namespace Go.Proofs.Ytjcbphhemmdnjaa
open Go Go.ChangeShapes Go.WideShapes Go.ChangeAt Go.RowKit Go.Deep
set_option linter.unusedSimpArgs false
set_option linter.unusedVariables false
section
variable {H : Type} {enc : TypeId × Value → H} {P : Program} {w : World} {base : Nat} {spare : Nat → Bool} {held : Bool}
theorem n23_plain {a : Addr} {v : Value} (h : w.cell? (a.add 0) = some v) : a = ⟨a.block, a.off, none⟩ := by
  obtain ⟨b, off, spot⟩ := a
  have hspot : spot = none := by simpa [Addr.add] using World.cell?_spot h
  subst hspot; rfl
theorem n23_list {α : Type} {p : Nat → α → Prop} (d : α) : ∀ n, (∀ i, i < n → ∃ x, p i x) → ∃ l : List α, l.length = n ∧ ∀ i, i < n → p i (l.getD i d)
  | 0, _ => ⟨[], rfl, fun i hi => by omega⟩
  | n + 1, h => by
    obtain ⟨l, h1, h2⟩ := n23_list d n (fun i hi => h i (by omega))
    obtain ⟨x, hx⟩ := h n (by omega)
    refine ⟨l ++ [x], by simp [h1], fun i hi => ?_⟩
    by_cases e : i = n
    · subst e; simp [List.getD_eq_getElem?_getD, ← h1, hx]; rw [h1]; exact hx
    · have := h2 i (by omega)
      simp only [List.getD_eq_getElem?_getD] at this ⊢
      rwa [List.getElem?_append_left (by omega)]
theorem wf_u8t {x : Int} (h : (Lit.int .u8 x).wf = true) : 0 ≤ x ∧ x ≤ 255 := by
  simpa [Lit.wf, IntKind.min, IntKind.max, IntKind.bits, IntKind.signed] using h
theorem wf_u16t {x : Int} (h : (Lit.int .u16 x).wf = true) : 0 ≤ x ∧ x ≤ 65535 := by
  simpa [Lit.wf, IntKind.min, IntKind.max, IntKind.bits, IntKind.signed] using h
theorem wf_i16t {x : Int} (h : (Lit.int .i16 x).wf = true) : -32768 ≤ x ∧ x ≤ 32767 := by
  simpa [Lit.wf, IntKind.min, IntKind.max, IntKind.bits, IntKind.signed] using h
theorem open_n23s {r : Reach} {b0 : Nat} {t e : TypeId} {fs : Array Field} {v : Value} {d : DataW H} {p : List MemPlace} (ht : P.underlying t = some (.slice e)) (he : P.underlying e = some (.struct fs)) (hC : P.cellsOf e = 9) (hn : fs.size = 9)
    (g0 : ∃ d, fs[0]? = some d ∧ d.offset = 0 ∧ P.cellsOf d.type = 1 ∧ P.underlying d.type = some (.int .u8))
    (g1 : ∃ d, fs[1]? = some d ∧ d.offset = 1 ∧ P.cellsOf d.type = 1 ∧ P.underlying d.type = some (.int .i16))
    (g2 : ∃ d, fs[2]? = some d ∧ d.offset = 2 ∧ P.cellsOf d.type = 1 ∧ P.underlying d.type = some (.int .i16))
    (g3 : ∃ d, fs[3]? = some d ∧ d.offset = 3 ∧ P.cellsOf d.type = 1 ∧ P.underlying d.type = some (.int .u16))
    (g4 : ∃ d, fs[4]? = some d ∧ d.offset = 4 ∧ P.cellsOf d.type = 1 ∧ P.underlying d.type = some (.int .u16))
    (g5 : ∃ d, fs[5]? = some d ∧ d.offset = 5 ∧ P.cellsOf d.type = 1 ∧ P.underlying d.type = some (.int .u16))
    (g6 : ∃ d, fs[6]? = some d ∧ d.offset = 6 ∧ P.cellsOf d.type = 1 ∧ P.underlying d.type = some (.int .u8))
    (g7 : ∃ d, fs[7]? = some d ∧ d.offset = 7 ∧ P.cellsOf d.type = 1 ∧ P.underlying d.type = some .bool)
    (g8 : ∃ d, fs[8]? = some d ∧ d.offset = 8 ∧ P.cellsOf d.type = 1 ∧ P.underlying d.type = some .bool)
    (hv : Value.okWide P w r b0 t v) (h : DataW.Trod enc P w base spare held t v d p) :
    ∃ (a : Option Addr) (n cap : Nat) (l : List N23), v = .slice a n cap ∧ l.length = n ∧ n ≤ cap ∧ cap ≤ 9223372036854775807 ∧ N23sAt w a l := by
  obtain ⟨a, len, cap, rfl⟩ := okWide_slice ht hv
  obtain ⟨fuel, hx⟩ := h
  rcases open_slice ht hx with ⟨hcs, _⟩ | ⟨x, l, c, m, n, D, Pl, hcs, hb, hl, hm', hmm, _, hi⟩
  · simp [Value.cells] at hcs
    obtain ⟨rfl, rfl, rfl⟩ := hcs
    exact ⟨none, 0, 0, [], rfl, rfl, Nat.le_refl _, by omega, fun h => by simp at h⟩
  · simp [Value.cells] at hcs
    obtain ⟨rfl, rfl, rfl⟩ := hcs
    obtain ⟨xs, hxl, hxs⟩ := n23_list (p := fun i (q : N23) => Ok23 q ∧ w.cell? (x.add (i * 9 + 0)) = some (.int .u8 q.p) ∧ w.cell? (x.add (i * 9 + 1)) = some (.int .i16 q.x) ∧ w.cell? (x.add (i * 9 + 2)) = some (.int .i16 q.y) ∧ w.cell? (x.add (i * 9 + 3)) = some (.int .u16 q.w) ∧ w.cell? (x.add (i * 9 + 4)) = some (.int .u16 q.h) ∧ w.cell? (x.add (i * 9 + 5)) = some (.int .u16 q.bd) ∧ w.cell? (x.add (i * 9 + 6)) = some (.int .u8 q.ov) ∧ w.cell? (x.add (i * 9 + 7)) = some (.bool q.tx) ∧ w.cell? (x.add (i * 9 + 8)) = some (.bool q.hid)) n23Z len (fun i him => by
      obtain ⟨cs', hc, ht'⟩ := hi i (by rw [hmm]; split <;> omega)
      rw [hC] at hc
      obtain ⟨_, hcl, hat⟩ := World.cells?_some hc
      obtain ⟨ys, n', _, hy, _, hlen, hg⟩ := DataW.trod_struct he ht'
      match cs', hcl with
      | [c0, c1, c2, c3, c4, c5, c6, c7, c8], _ =>
        match ys, hlen.trans hn with
        | [y0, y1, y2, y3, y4, y5, y6, y7, y8], _ =>
          obtain ⟨f0, k0, o0, z0, u0⟩ := g0
          obtain ⟨f1, k1, o1, z1, u1⟩ := g1
          obtain ⟨f2, k2, o2, z2, u2⟩ := g2
          obtain ⟨f3, k3, o3, z3, u3⟩ := g3
          obtain ⟨f4, k4, o4, z4, u4⟩ := g4
          obtain ⟨f5, k5, o5, z5, u5⟩ := g5
          obtain ⟨f6, k6, o6, z6, u6⟩ := g6
          obtain ⟨f7, k7, o7, z7, u7⟩ := g7
          obtain ⟨f8, k8, o8, z8, u8⟩ := g8
          have e0 : DataW.trod enc P w base spare held n' f0.type [c0] = some y0 := by simpa [o0, z0] using hg 0 f0 k0
          have e1 : DataW.trod enc P w base spare held n' f1.type [c1] = some y1 := by simpa [o1, z1] using hg 1 f1 k1
          have e2 : DataW.trod enc P w base spare held n' f2.type [c2] = some y2 := by simpa [o2, z2] using hg 2 f2 k2
          have e3 : DataW.trod enc P w base spare held n' f3.type [c3] = some y3 := by simpa [o3, z3] using hg 3 f3 k3
          have e4 : DataW.trod enc P w base spare held n' f4.type [c4] = some y4 := by simpa [o4, z4] using hg 4 f4 k4
          have e5 : DataW.trod enc P w base spare held n' f5.type [c5] = some y5 := by simpa [o5, z5] using hg 5 f5 k5
          have e6 : DataW.trod enc P w base spare held n' f6.type [c6] = some y6 := by simpa [o6, z6] using hg 6 f6 k6
          have e7 : DataW.trod enc P w base spare held n' f7.type [c7] = some y7 := by simpa [o7, z7] using hg 7 f7 k7
          have e8 : DataW.trod enc P w base spare held n' f8.type [c8] = some y8 := by simpa [o8, z8] using hg 8 f8 k8
          obtain ⟨x0, a0, _, w0⟩ := DataW.trod_int u0 e0
          obtain ⟨x1, a1, _, w1⟩ := DataW.trod_int u1 e1
          obtain ⟨x2, a2, _, w2⟩ := DataW.trod_int u2 e2
          obtain ⟨x3, a3, _, w3⟩ := DataW.trod_int u3 e3
          obtain ⟨x4, a4, _, w4⟩ := DataW.trod_int u4 e4
          obtain ⟨x5, a5, _, w5⟩ := DataW.trod_int u5 e5
          obtain ⟨x6, a6, _, w6⟩ := DataW.trod_int u6 e6
          obtain ⟨x7, a7, _⟩ := DataW.trod_bool u7 e7
          obtain ⟨x8, a8, _⟩ := DataW.trod_bool u8 e8
          simp at a0 a1 a2 a3 a4 a5 a6 a7 a8
          subst a0 a1 a2 a3 a4 a5 a6 a7 a8
          have r0 := hat 0 (by omega); have r1 := hat 1 (by omega); have r2 := hat 2 (by omega); have r3 := hat 3 (by omega); have r4 := hat 4 (by omega); have r5 := hat 5 (by omega); have r6 := hat 6 (by omega); have r7 := hat 7 (by omega); have r8 := hat 8 (by omega)
          rw [Go.Deep.add_add] at r0 r1 r2 r3 r4 r5 r6 r7 r8
          exact ⟨⟨x0, x1, x2, x3, x4, x5, x6, x7, x8⟩, ⟨wf_u8t w0, wf_i16t w1, wf_i16t w2, wf_u16t w3, wf_u16t w4, wf_u16t w5, wf_u8t w6⟩, r0, r1, r2, r3, r4, r5, r6, r7, r8⟩)
    refine ⟨some x, len, cap, xs, rfl, hxl, hl, by simpa [maxLen] using hm', fun h0 => ?_⟩
    rw [hxl] at h0
    have hp := n23_plain (by simpa using (hxs 0 h0).2.1)
    refine ⟨x.block, x.off, by rw [← hp], cell_lt (hxs 0 h0).2.1, fun i hi => ?_⟩
    rw [hxl] at hi
    obtain ⟨k0, k1, k2, k3, k4, k5, k6, k7, k8, k9⟩ := hxs i hi
    rw [hp] at k1 k2 k3 k4 k5 k6 k7 k8 k9
    rw [add_plain] at k1 k2 k3 k4 k5 k6 k7 k8 k9
    exact ⟨k0, k1, k2, k3, k4, k5, k6, k7, k8, k9⟩
def PairsAt (w : World) (a : Option Addr) (l : List (Int × Int)) : Prop := 0 < l.length → ∃ b off, a = some ⟨b, off, none⟩ ∧ b < w.heap.size ∧ ∀ i, i < l.length → w.cell? ⟨b, off + i * 2, none⟩ = some (.int .i64 (l.getD i (0, 0)).1) ∧ w.cell? ⟨b, off + i * 2 + 1, none⟩ = some (.int .i64 (l.getD i (0, 0)).2)
theorem PairsAt.below {w w1 : World} {a : Option Addr} {l : List (Int × Int)} (h : PairsAt w a l) (hb : Below w.heap.size w w1) : PairsAt w1 a l := fun h0 => by
  obtain ⟨b, off, ha, hl, hc⟩ := h h0
  have c : ∀ o, w1.cell? ⟨b, o, none⟩ = w.cell? ⟨b, o, none⟩ := fun o => hb.cell (p := ⟨b, o, none⟩) hl
  exact ⟨b, off, ha, Nat.lt_of_lt_of_le hl hb.size, fun i hi => ⟨(c _).trans (hc i hi).1, (c _).trans (hc i hi).2⟩⟩
theorem open_pairs {r : Reach} {b0 : Nat} {t e f : TypeId} {v : Value} {d : DataW H} {p : List MemPlace} (ht : P.underlying t = some (.slice e)) (he : P.underlying e = some (.array 2 f)) (hf : P.underlying f = some (.int .i64)) (hC : P.cellsOf e = 2) (hce : P.cellsOf f = 1)
    (hv : Value.okWide P w r b0 t v) (h : DataW.Trod enc P w base spare held t v d p) :
    ∃ (a : Option Addr) (n cap : Nat) (l : List (Int × Int)), v = .slice a n cap ∧ l.length = n ∧ n ≤ cap ∧ cap ≤ 9223372036854775807 ∧ PairsAt w a l := by
  obtain ⟨a, len, cap, rfl⟩ := okWide_slice ht hv
  obtain ⟨fuel, hx⟩ := h
  rcases open_slice ht hx with ⟨hcs, _⟩ | ⟨x, l, c, m, n, D, Pl, hcs, hb, hl, hm, hmm, _, hi⟩
  · simp [Value.cells] at hcs
    obtain ⟨rfl, rfl, rfl⟩ := hcs
    exact ⟨none, 0, 0, [], rfl, rfl, Nat.le_refl _, by omega, fun h => by simp at h⟩
  · simp [Value.cells] at hcs
    obtain ⟨rfl, rfl, rfl⟩ := hcs
    obtain ⟨xs, hxl, hxs⟩ := n23_list (p := fun i (q : Int × Int) => w.cell? (x.add (i * 2 + 0)) = some (.int .i64 q.1) ∧ w.cell? (x.add (i * 2 + 1)) = some (.int .i64 q.2)) (0, 0) len (fun i him => by
      obtain ⟨cs', hc, ht'⟩ := hi i (by rw [hmm]; split <;> omega)
      rw [hC] at hc
      obtain ⟨_, hcl, hat⟩ := World.cells?_some hc
      match cs', hcl with
      | [c0, c1], _ =>
        obtain ⟨y0, y1, k, hxx, hy0, hy1⟩ := trod_array2 he hce ht'
        obtain ⟨x0, e0, rfl, w0⟩ := DataW.trod_int hf hy0
        obtain ⟨x1, e1, rfl, w1⟩ := DataW.trod_int hf hy1
        simp at e0 e1
        subst e0 e1
        have q0 := hat 0 (by omega); have q1 := hat 1 (by omega)
        rw [Go.Deep.add_add] at q0 q1
        exact ⟨(x0, x1), q0, q1⟩)
    refine ⟨some x, len, cap, xs, rfl, hxl, hl, by simpa [maxLen] using hm, fun h0 => ?_⟩
    rw [hxl] at h0
    have hp := n23_plain (by simpa using (hxs 0 h0).1)
    refine ⟨x.block, x.off, by rw [← hp], cell_lt (hxs 0 h0).1, fun i hi => ?_⟩
    rw [hxl] at hi
    obtain ⟨k0, k1⟩ := hxs i hi
    rw [hp] at k0 k1
    rw [add_plain] at k0 k1
    exact ⟨k0, k1⟩
end
end Go.Proofs.Ytjcbphhemmdnjaa
