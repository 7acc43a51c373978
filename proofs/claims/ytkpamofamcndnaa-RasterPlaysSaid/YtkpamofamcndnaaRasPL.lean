/- Images, plainly: what is painted and moved is what the document says. Acts of law28: as data; a slice of them that came in, opened. Items and rectangles being appended (for RasterPlays). -/
import Derived.Test.YtkpamofamcndnaaRasWW
import Derived.Test.YtkpamofamcndnaaOpenA
import Derived.Test.YtkpamofamcndnaaRegZ
import Derived.Test.YtkpamofamcndnaaTree
namespace Go.Proofs.Ytkpamofamcndnaa
open Go.RowKit Go.Shelf
set_option linter.unusedSimpArgs false
set_option linter.unusedVariables false
theorem items_at {W H : Nat} {r : RectQ} (hr : InQ W H r) (l : List ItemZ) (f : Nat → Nat → Int) (i j : Nat) :
    itemsR r l f i j = if hasQ r j i = true then l.foldl (fun o q => if hasQ q.r j i then q.c else o) (f i j) else f i j := by
  induction l generalizing f with
  | nil => simp [itemsR]
  | cons x l ih =>
    show itemsR r l (fillF (andQ x.r r) x.c f) i j = _
    rw [ih]
    have e : fillF (andQ x.r r) x.c f i j = if (hasQ x.r j i && hasQ r j i) = true then x.c else f i j := by
      unfold fillF
      rw [inR'_nf (hr.and).2, and_has]
    rw [e]
    cases hasQ r j i <;> simp
theorem paintR_at {W H : Nat} (hs : W ≤ 1024 ∧ H ≤ 1024) (l : List ItemZ) (q : RectQ) (f : Nat → Nat → Int) {i j : Nat} (hi : i < H) (hj : j < W) :
    paintR W H l q f i j = if hasQ q j i = true then colF l j i else f i j := by
  have hin : InQ W H (andQ q (wholeQ W H)) := (inQ_whole hs).and
  have hh : hasQ (andQ q (wholeQ W H)) j i = hasQ q j i := by
    rw [and_has, whole_has hs.1 hs.2, decide_eq_true (by omega), Bool.and_true]
  unfold paintR
  rw [items_at hin, hh]
  have e : fillF (andQ q (wholeQ W H)) 0 f i j = if hasQ q j i = true then 0 else f i j := by
    unfold fillF
    rw [inR'_nf hin.2, hh]
  rw [e]
  cases hasQ q j i <;> simp [colF]
theorem paintF_at {W H : Nat} (hs : W ≤ 1024 ∧ H ≤ 1024) (l : List ItemZ) : ∀ (R : List RectQ) (f : Nat → Nat → Int) {i j : Nat} (hi : i < H) (hj : j < W),
    paintF W H l R f i j = if R.any (fun q => hasQ q j i) = true then colF l j i else f i j
  | [], f, i, j, hi, hj => rfl
  | q :: R, f, i, j, hi, hj => by
    show paintF W H l R (paintR W H l q f) i j = _
    rw [paintF_at hs l R _ hi hj, paintR_at hs l q f hi hj, List.any_cons]
    cases hasQ q j i <;> cases R.any (fun q => hasQ q j i) <;> simp
theorem paint_doc {W H : Nat} (hs : W ≤ 1024 ∧ H ≤ 1024) (l : List ItemZ) (P : List RectQ) (f g : Nat → Nat → Int) (h : ∀ i j, i < H → j < W → f i j = g i j) {i j : Nat} (hi : i < H) (hj : j < W) :
    paintF W H l (rectsZ (ofL P)) f i j = partsF P l g i j := by
  rw [paintF_at hs l _ f hi hj, (ofL_ok P).any, ofL_has]
  unfold partsF
  rw [h i j hi hj]
theorem mv_has' {C : RectQ} (h : nfQ C) (b0 : -5000 ≤ C.1) (b1 : -5000 ≤ C.2.1) (b2 : C.2.2.1 ≤ 5000) (b3 : C.2.2.2 ≤ 5000) {dx dy : Int} (hx : -5000 ≤ dx ∧ dx ≤ 5000) (hy : -5000 ≤ dy ∧ dy ≤ 5000) (x y : Int) :
    hasQ (mvQ dx dy C) x y = hasQ C (x - dx) (y - dy) := by
  by_cases hc : C.1 < C.2.2.1
  · rw [← inR'_nf (mv_nf dx dy C), ← inR'_nf h, mv_exact h hc b0 b1 b2 b3 hx.1 hx.2 hy.1 hy.2]
    unfold inR'
    congr 1
    apply propext
    simp only
    omega
  · have hz : C = (0, 0, 0, 0) := by
      obtain ⟨a, b, d, e⟩ := C
      unfold nfQ NF at h
      simp only at h hc
      have : a = 0 ∧ b = 0 ∧ d = 0 ∧ e = 0 := by omega
      rw [this.1, this.2.1, this.2.2.1, this.2.2.2]
    subst hz
    rw [mv_zero]
    have hn : NF 0 0 0 0 := by unfold NF; omega
    rw [← inR'_nf (q := (0, 0, 0, 0)) hn, ← inR'_nf (q := (0, 0, 0, 0)) hn]
    unfold inR'
    congr 1
    apply propext
    simp only
    omega
theorem move_doc {W H : Nat} (hs : W ≤ 1024 ∧ H ≤ 1024) (q : RectQ) {dx dy : Int} (hx : -5000 ≤ dx ∧ dx ≤ 5000) (hy : -5000 ≤ dy ∧ dy ≤ 5000) (f g : Nat → Nat → Int) (h : ∀ i j, i < H → j < W → f i j = g i j) {i j : Nat} (hi : i < H) (hj : j < W) :
    moveF W H q dx dy f i j = rmoveF W H q dx dy g i j := by
  obtain ⟨hw, hwn⟩ := (inQ_whole hs).and (p := q)
  unfold Within at hw
  have e : hasQ (toQ W H q dx dy) j i = (hasQ q j i && (hasQ q ((j : Int) - dx) ((i : Int) - dy) && decide (0 ≤ (j : Int) - dx ∧ (j : Int) - dx < W ∧ 0 ≤ (i : Int) - dy ∧ (i : Int) - dy < H))) := by
    unfold toQ cutQ
    rw [and_has, mv_has' hwn (by omega) (by omega) (by omega) (by omega) hx hy, and_has, and_has, whole_has hs.1 hs.2, whole_has hs.1 hs.2, decide_eq_true (show 0 ≤ (j : Int) ∧ (j : Int) < W ∧ 0 ≤ (i : Int) ∧ (i : Int) < H by omega), Bool.and_true]
    cases hasQ q j i <;> simp
  unfold moveF rmoveF
  rw [e]
  by_cases c : (hasQ q j i && (hasQ q ((j : Int) - dx) ((i : Int) - dy) && decide (0 ≤ (j : Int) - dx ∧ (j : Int) - dx < W ∧ 0 ≤ (i : Int) - dy ∧ (i : Int) - dy < H))) = true
  · rw [if_pos c, if_pos c]
    simp only [Bool.and_eq_true, decide_eq_true_eq] at c
    unfold atF
    rw [if_pos c.2.2]
    exact h _ _ (by omega) (by omega)
  · rw [if_neg c, if_neg c]
    exact h i j hi hj
end Go.Proofs.Ytkpamofamcndnaa
namespace Go.Proofs.Ytkpamofamcndnaa
open Go Go.ChangeShapes Go.WideShapes Go.ChangeAt Go.RowKit Go.Deep
set_option linter.unusedSimpArgs false
set_option linter.unusedVariables false
/-- An act on an image: its kind, items, where, by how much. -/
structure ActR where
  k : Int
  ia : Option Addr
  nI : Nat
  cI : Nat
  I : List ItemZ
  wa : Option Addr
  nW : Nat
  cW : Nat
  P : List RectQ
  dx : Int
  dy : Int
def actR0 : ActR := ⟨0, none, 0, 0, [], none, 0, 0, [], 0, 0⟩
/-- Items as they come in: five cells each. -/
def ItemsL (w : World) (a : Option Addr) (l : List ItemZ) : Prop := 0 < l.length → ∃ b off, a = some ⟨b, off, none⟩ ∧ b < w.heap.size ∧ ∀ i, i < l.length → (0 ≤ (l.getD i item0).c ∧ (l.getD i item0).c ≤ 255) ∧ w.cell? ⟨b, off + i * 5, none⟩ = some (.int .i64 (l.getD i item0).r.1) ∧ w.cell? ⟨b, off + i * 5 + 1, none⟩ = some (.int .i64 (l.getD i item0).r.2.1) ∧ w.cell? ⟨b, off + i * 5 + 2, none⟩ = some (.int .i64 (l.getD i item0).r.2.2.1) ∧ w.cell? ⟨b, off + i * 5 + 3, none⟩ = some (.int .i64 (l.getD i item0).r.2.2.2) ∧ w.cell? ⟨b, off + i * 5 + 4, none⟩ = some (.int .u8 (l.getD i item0).c)
theorem ItemsL.below {w w1 : World} {a : Option Addr} {l : List ItemZ} (h : ItemsL w a l) (hb : Below w.heap.size w w1) : ItemsL w1 a l := fun h0 => by
  obtain ⟨b, off, h1, h2, h3⟩ := h h0
  refine ⟨b, off, h1, Nat.lt_of_lt_of_le h2 hb.size, fun i hi => ?_⟩
  have hc : ∀ o, w1.cell? ⟨b, o, none⟩ = w.cell? ⟨b, o, none⟩ := fun o => hb.cell (p := ⟨b, o, none⟩) h2
  rw [hc, hc, hc, hc, hc]
  exact h3 i hi
structure ActRok (w : World) (q : ActR) : Prop where
  k : 0 ≤ q.k ∧ q.k ≤ 255
  i1 : q.I.length = q.nI
  i2 : q.nI ≤ q.cI
  i3 : q.cI ≤ 9223372036854775807
  i4 : ItemsL w q.ia q.I
  w1 : q.P.length = q.nW
  w2 : q.nW ≤ q.cW
  w3 : q.cW ≤ 9223372036854775807
  w4 : RectsAt w q.wa q.P
theorem ActRok.below {w w1 : World} {q : ActR} (h : ActRok w q) (hb : Below w.heap.size w w1) : ActRok w1 q := ⟨h.k, h.i1, h.i2, h.i3, h.i4.below hb, h.w1, h.w2, h.w3, h.w4.below hb⟩
def ActsR (w : World) (a : Option Addr) (l : List ActR) : Prop := 0 < l.length → ∃ b off, a = some ⟨b, off, none⟩ ∧ b < w.heap.size ∧ ∀ i, i < l.length → ActRok w (l.getD i actR0) ∧ w.cell? ⟨b, off + i * 5, none⟩ = some (.int .u8 (l.getD i actR0).k) ∧ w.cell? ⟨b, off + i * 5 + 1, none⟩ = some (.slice (l.getD i actR0).ia (l.getD i actR0).nI (l.getD i actR0).cI) ∧ w.cell? ⟨b, off + i * 5 + 2, none⟩ = some (.slice (l.getD i actR0).wa (l.getD i actR0).nW (l.getD i actR0).cW) ∧ w.cell? ⟨b, off + i * 5 + 3, none⟩ = some (.int .i64 (l.getD i actR0).dx) ∧ w.cell? ⟨b, off + i * 5 + 4, none⟩ = some (.int .i64 (l.getD i actR0).dy)
section
variable {H : Type} {enc : TypeId × Value → H} {P : Program} {w : World} {base : Nat} {spare : Nat → Bool} {held : Bool}
/-- A slice of quads, from its reading alone. -/
theorem open_quads' {t e f : TypeId} {fuel : Nat} {v : Value} {x : DataW H × List MemPlace} (ht : P.underlying t = some (.slice e)) (he : P.underlying e = some (.array 4 f)) (hf : P.underlying f = some (.int .i64)) (hC : P.cellsOf e = 4) (hce : P.cellsOf f = 1)
    (h : DataW.trod enc P w base spare held fuel t [v] = some x) :
    ∃ (a : Option Addr) (n cap : Nat) (l : List RectQ), v = .slice a n cap ∧ l.length = n ∧ n ≤ cap ∧ cap ≤ 9223372036854775807 ∧ RectsAt w a l := by
  rcases open_slice ht h with ⟨hcs, _⟩ | ⟨x, l, c, m, n, D, Pl, hcs, hb, hl, hm, hmm, _, hi⟩
  · simp at hcs
    subst hcs
    exact ⟨none, 0, 0, [], rfl, rfl, Nat.le_refl _, by omega, fun h => by simp at h⟩
  · simp at hcs
    subst hcs
    obtain ⟨xs, hxl, hxs⟩ := quad_list (p := fun i (q : RectQ) => w.cell? (x.add (i * 4 + 0)) = some (.int .i64 q.1) ∧ w.cell? (x.add (i * 4 + 1)) = some (.int .i64 q.2.1) ∧ w.cell? (x.add (i * 4 + 2)) = some (.int .i64 q.2.2.1) ∧ w.cell? (x.add (i * 4 + 3)) = some (.int .i64 q.2.2.2)) q0Z l (fun i him => by
      obtain ⟨cs', hc, ht'⟩ := hi i (by rw [hmm]; split <;> omega)
      rw [hC] at hc
      obtain ⟨_, hcl, hat⟩ := World.cells?_some hc
      obtain ⟨c0, c1, c2, c3, rfl⟩ := list4 cs' hcl
      obtain ⟨y0, y1, y2, y3, k, hxx, hy0, hy1, hy2, hy3⟩ := trod_array4 he hce ht'
      obtain ⟨x0, e0, rfl, w0⟩ := DataW.trod_int hf hy0
      obtain ⟨x1, e1, rfl, w1⟩ := DataW.trod_int hf hy1
      obtain ⟨x2, e2, rfl, w2⟩ := DataW.trod_int hf hy2
      obtain ⟨x3, e3, rfl, w3⟩ := DataW.trod_int hf hy3
      simp at e0 e1 e2 e3
      subst e0 e1 e2 e3
      have q0 := hat 0 (by omega); have q1 := hat 1 (by omega); have q2 := hat 2 (by omega); have q3 := hat 3 (by omega)
      rw [Go.Deep.add_add] at q0 q1 q2 q3
      exact ⟨(x0, x1, x2, x3), q0, q1, q2, q3⟩)
    refine ⟨some x, l, c, xs, rfl, hxl, hl, by simpa [maxLen] using hm, fun h0 => ?_⟩
    rw [hxl] at h0
    have hp := quad_plain (by simpa using (hxs 0 h0).1)
    refine ⟨x.block, x.off, by rw [← hp], cell_lt (hxs 0 h0).1, fun i hi => ?_⟩
    rw [hxl] at hi
    obtain ⟨k0, k1, k2, k3⟩ := hxs i hi
    rw [hp] at k0 k1 k2 k3
    rw [add_plain] at k0 k1 k2 k3
    exact ⟨k0, k1, k2, k3⟩
theorem wf_u8r {x : Int} (h : (Lit.int .u8 x).wf = true) : 0 ≤ x ∧ x ≤ 255 := by
  simpa [Lit.wf, IntKind.min, IntKind.max, IntKind.bits, IntKind.signed] using h
/-- A slice of items, from its reading alone. -/
theorem open_items {t e f : TypeId} {fs : Array Field} {fuel : Nat} {v : Value} {x : DataW H × List MemPlace} (ht : P.underlying t = some (.slice e)) (he : P.underlying e = some (.struct fs)) (hC : P.cellsOf e = 5) (hn : fs.size = 2)
    (g0 : ∃ d, fs[0]? = some d ∧ d.offset = 0 ∧ P.cellsOf d.type = 4 ∧ P.underlying d.type = some (.array 4 f)) (hf : P.underlying f = some (.int .i64)) (hce : P.cellsOf f = 1)
    (g1 : ∃ d, fs[1]? = some d ∧ d.offset = 4 ∧ P.cellsOf d.type = 1 ∧ P.underlying d.type = some (.int .u8))
    (h : DataW.trod enc P w base spare held fuel t [v] = some x) :
    ∃ (a : Option Addr) (n cap : Nat) (l : List ItemZ), v = .slice a n cap ∧ l.length = n ∧ n ≤ cap ∧ cap ≤ 9223372036854775807 ∧ ItemsL w a l := by
  rcases open_slice ht h with ⟨hcs, _⟩ | ⟨x, l, c, m, n, D, Pl, hcs, hb, hl, hm, hmm, _, hi⟩
  · simp at hcs
    subst hcs
    exact ⟨none, 0, 0, [], rfl, rfl, Nat.le_refl _, by omega, fun h => by simp at h⟩
  · simp at hcs
    subst hcs
    obtain ⟨xs, hxl, hxs⟩ := quad_list (p := fun i (q : ItemZ) => (0 ≤ q.c ∧ q.c ≤ 255) ∧ w.cell? (x.add (i * 5 + 0)) = some (.int .i64 q.r.1) ∧ w.cell? (x.add (i * 5 + 1)) = some (.int .i64 q.r.2.1) ∧ w.cell? (x.add (i * 5 + 2)) = some (.int .i64 q.r.2.2.1) ∧ w.cell? (x.add (i * 5 + 3)) = some (.int .i64 q.r.2.2.2) ∧ w.cell? (x.add (i * 5 + 4)) = some (.int .u8 q.c)) item0 l (fun i him => by
      obtain ⟨cs', hc, ht'⟩ := hi i (by rw [hmm]; split <;> omega)
      rw [hC] at hc
      obtain ⟨_, hcl, hat⟩ := World.cells?_some hc
      obtain ⟨ys, n', _, hy, _, hlen, hg⟩ := DataW.trod_struct he ht'
      match cs', hcl with
      | [c0, c1, c2, c3, c4], _ =>
        match ys, hlen.trans hn with
        | [y0, y1], _ =>
          obtain ⟨f0, k0, o0, z0, u0⟩ := g0
          obtain ⟨f1, k1, o1, z1, u1⟩ := g1
          have e0 : DataW.trod enc P w base spare held n' f0.type [c0, c1, c2, c3] = some y0 := by simpa [o0, z0] using hg 0 f0 k0
          have e1 : DataW.trod enc P w base spare held n' f1.type [c4] = some y1 := by simpa [o1, z1] using hg 1 f1 k1
          obtain ⟨t0, t1, t2, t3, k, hxx, hy0, hy1, hy2, hy3⟩ := trod_array4 u0 hce e0
          obtain ⟨x0, b0', _, w0⟩ := DataW.trod_int hf hy0
          obtain ⟨x1, b1', _, w1⟩ := DataW.trod_int hf hy1
          obtain ⟨x2, b2', _, w2⟩ := DataW.trod_int hf hy2
          obtain ⟨x3, b3', _, w3⟩ := DataW.trod_int hf hy3
          obtain ⟨x4, b4', _, w4⟩ := DataW.trod_int u1 e1
          simp at b0' b1' b2' b3' b4'
          subst b0' b1' b2' b3' b4'
          have r0 := hat 0 (by omega); have r1 := hat 1 (by omega); have r2 := hat 2 (by omega); have r3 := hat 3 (by omega); have r4 := hat 4 (by omega)
          rw [Go.Deep.add_add] at r0 r1 r2 r3 r4
          exact ⟨⟨0, 0, (x0, x1, x2, x3), x4⟩, wf_u8r w4, r0, r1, r2, r3, r4⟩)
    refine ⟨some x, l, c, xs, rfl, hxl, hl, by simpa [maxLen] using hm, fun h0 => ?_⟩
    rw [hxl] at h0
    have hp := quad_plain (by simpa using (hxs 0 h0).2.1)
    refine ⟨x.block, x.off, by rw [← hp], cell_lt (hxs 0 h0).2.1, fun i hi => ?_⟩
    rw [hxl] at hi
    obtain ⟨k0, k1, k2, k3, k4, k5⟩ := hxs i hi
    rw [hp] at k1 k2 k3 k4 k5
    rw [add_plain] at k1 k2 k3 k4 k5
    exact ⟨k0, k1, k2, k3, k4, k5⟩
/-- The acts that come in. -/
theorem open_actsR {r : Reach} {b0 : Nat} {t e ei fi ew fw fb : TypeId} {fs fsi : Array Field} {v : Value} {d : DataW H} {p : List MemPlace} (ht : P.underlying t = some (.slice e)) (he : P.underlying e = some (.struct fs)) (hC : P.cellsOf e = 5) (hn : fs.size = 4)
    (g0 : ∃ d, fs[0]? = some d ∧ d.offset = 0 ∧ P.cellsOf d.type = 1 ∧ P.underlying d.type = some (.int .u8))
    (g1 : ∃ d, fs[1]? = some d ∧ d.offset = 1 ∧ P.cellsOf d.type = 1 ∧ P.underlying d.type = some (.slice ei))
    (g2 : ∃ d, fs[2]? = some d ∧ d.offset = 2 ∧ P.cellsOf d.type = 1 ∧ P.underlying d.type = some (.slice ew))
    (g3 : ∃ d, fs[3]? = some d ∧ d.offset = 3 ∧ P.cellsOf d.type = 2 ∧ P.underlying d.type = some (.array 2 fb)) (hfb : P.underlying fb = some (.int .i64)) (hcb : P.cellsOf fb = 1)
    (hei : P.underlying ei = some (.struct fsi)) (hCi : P.cellsOf ei = 5) (hni : fsi.size = 2)
    (i0 : ∃ d, fsi[0]? = some d ∧ d.offset = 0 ∧ P.cellsOf d.type = 4 ∧ P.underlying d.type = some (.array 4 fi)) (hfi : P.underlying fi = some (.int .i64)) (hci : P.cellsOf fi = 1)
    (i1 : ∃ d, fsi[1]? = some d ∧ d.offset = 4 ∧ P.cellsOf d.type = 1 ∧ P.underlying d.type = some (.int .u8))
    (hew : P.underlying ew = some (.array 4 fw)) (hfw : P.underlying fw = some (.int .i64)) (hCw : P.cellsOf ew = 4) (hcw : P.cellsOf fw = 1)
    (hv : Value.okWide P w r b0 t v) (h : DataW.Trod enc P w base spare held t v d p) :
    ∃ (a : Option Addr) (n cap : Nat) (l : List ActR), v = .slice a n cap ∧ l.length = n ∧ n ≤ cap ∧ cap ≤ 9223372036854775807 ∧ ActsR w a l := by
  obtain ⟨a, len, cap, rfl⟩ := okWide_slice ht hv
  obtain ⟨fuel, hx⟩ := h
  rcases open_slice ht hx with ⟨hcs, _⟩ | ⟨x, l, c, m, n, D, Pl, hcs, hb, hl, hm', hmm, _, hi⟩
  · simp [Value.cells] at hcs
    obtain ⟨rfl, rfl, rfl⟩ := hcs
    exact ⟨none, 0, 0, [], rfl, rfl, Nat.le_refl _, by omega, fun h => by simp at h⟩
  · simp [Value.cells] at hcs
    obtain ⟨rfl, rfl, rfl⟩ := hcs
    obtain ⟨xs, hxl, hxs⟩ := quad_list (p := fun i (q : ActR) => ActRok w q ∧ w.cell? (x.add (i * 5 + 0)) = some (.int .u8 q.k) ∧ w.cell? (x.add (i * 5 + 1)) = some (.slice q.ia q.nI q.cI) ∧ w.cell? (x.add (i * 5 + 2)) = some (.slice q.wa q.nW q.cW) ∧ w.cell? (x.add (i * 5 + 3)) = some (.int .i64 q.dx) ∧ w.cell? (x.add (i * 5 + 4)) = some (.int .i64 q.dy)) actR0 len (fun i him => by
      obtain ⟨cs', hc, ht'⟩ := hi i (by rw [hmm]; split <;> omega)
      rw [hC] at hc
      obtain ⟨_, hcl, hat⟩ := World.cells?_some hc
      obtain ⟨ys, n', _, hy, _, hlen, hg⟩ := DataW.trod_struct he ht'
      match cs', hcl with
      | [c0, c1, c2, c3, c4], _ =>
        match ys, hlen.trans hn with
        | [y0, y1, y2, y3], _ =>
          obtain ⟨f0, k0, o0, z0, u0⟩ := g0
          obtain ⟨f1, k1, o1, z1, u1⟩ := g1
          obtain ⟨f2, k2, o2, z2, u2⟩ := g2
          obtain ⟨f3, k3, o3, z3, u3⟩ := g3
          have e0 : DataW.trod enc P w base spare held n' f0.type [c0] = some y0 := by simpa [o0, z0] using hg 0 f0 k0
          have e1 : DataW.trod enc P w base spare held n' f1.type [c1] = some y1 := by simpa [o1, z1] using hg 1 f1 k1
          have e2 : DataW.trod enc P w base spare held n' f2.type [c2] = some y2 := by simpa [o2, z2] using hg 2 f2 k2
          have e3 : DataW.trod enc P w base spare held n' f3.type [c3, c4] = some y3 := by simpa [o3, z3] using hg 3 f3 k3
          obtain ⟨x0, b0', _, w0⟩ := DataW.trod_int u0 e0
          obtain ⟨ia, nI, cI, I, hv1, j1, j2, j3, j4⟩ := open_items u1 hei hCi hni i0 hfi hci i1 e1
          obtain ⟨wa, nW, cW, Pw, hv2, l1, l2, l3, l4⟩ := open_quads' u2 hew hfw hCw hcw e2
          obtain ⟨t0, t1, k, hxx, hy0, hy1⟩ := trod_array2 u3 hcb e3
          obtain ⟨x3, b3', _, w3⟩ := DataW.trod_int hfb hy0
          obtain ⟨x4, b4', _, w4⟩ := DataW.trod_int hfb hy1
          simp at b0' b3' b4'
          subst b0' b3' b4' hv1 hv2
          have r0 := hat 0 (by omega); have r1 := hat 1 (by omega); have r2 := hat 2 (by omega); have r3 := hat 3 (by omega); have r4 := hat 4 (by omega)
          rw [Go.Deep.add_add] at r0 r1 r2 r3 r4
          exact ⟨⟨x0, ia, nI, cI, I, wa, nW, cW, Pw, x3, x4⟩, ⟨wf_u8r w0, j1, j2, j3, j4, l1, l2, l3, l4⟩, r0, r1, r2, r3, r4⟩)
    refine ⟨some x, len, cap, xs, rfl, hxl, hl, by simpa [maxLen] using hm', fun h0 => ?_⟩
    rw [hxl] at h0
    have hp := quad_plain (by simpa using (hxs 0 h0).2.1)
    refine ⟨x.block, x.off, by rw [← hp], cell_lt (hxs 0 h0).2.1, fun i hi => ?_⟩
    rw [hxl] at hi
    obtain ⟨k0, k1, k2, k3, k4, k5⟩ := hxs i hi
    rw [hp] at k1 k2 k3 k4 k5
    rw [add_plain] at k1 k2 k3 k4 k5
    exact ⟨k0, k1, k2, k3, k4, k5⟩
end
end Go.Proofs.Ytkpamofamcndnaa
namespace Go.Proofs.Ytkpamofamcndnaa
open Go Go.RowKit
set_option linter.unusedSimpArgs false
set_option linter.unusedVariables false
theorem cells_len {α : Type} {V : α → List Value} {s : Nat} (hV : ∀ q, (V q).length = s) (l : List α) : (l.flatMap V).length = l.length * s := by
  induction l with
  | nil => simp
  | cons x l ih => rw [List.flatMap_cons, List.length_append, hV, ih, List.length_cons, Nat.add_mul, Nat.one_mul]; omega
theorem cells_get {α : Type} {V : α → List Value} {s : Nat} (hV : ∀ q, (V q).length = s) (d : α) (l : List α) {i k : Nat} (hi : i < l.length) (hk : k < s) : (l.flatMap V)[i * s + k]? = (V (l.getD i d))[k]? := by
  have hl : (l.take i).length = i := by rw [List.length_take]; omega
  have e : l = l.take i ++ l.getD i d :: l.drop (i + 1) := by
    have : l.getD i d = l[i] := by simp [List.getD_eq_getElem?_getD, hi]
    rw [this, ← List.drop_eq_getElem_cons hi, List.take_append_drop]
  have q : l.flatMap V = (l.take i).flatMap V ++ (V (l.getD i d) ++ (l.drop (i + 1)).flatMap V) := (congrArg (List.flatMap V) e).trans (by rw [List.flatMap_append, List.flatMap_cons])
  rw [q, List.getElem?_append_right (by rw [cells_len hV, hl]; omega), cells_len hV, hl, show i * s + k - i * s = k by omega, List.getElem?_append_left (by rw [hV]; exact hk)]
theorem take_snocZ {α : Type} (d : α) {l : List α} {i : Nat} (h : i < l.length) : l.take (i + 1) = l.take i ++ [l.getD i d] := by
  rw [List.take_succ_eq_append_getElem h]; simp [h]
/-- An item without its node and part. -/
def zItem (q : ItemZ) : ItemZ := ⟨0, 0, q.r, q.c⟩
def itV (q : ItemZ) : List Value := [.int .i64 0, .int .i64 0, .int .i64 q.r.1, .int .i64 q.r.2.1, .int .i64 q.r.2.2.1, .int .i64 q.r.2.2.2, .int .u8 q.c]
def riV (q : ItemZ) : List Value := [.int .i64 q.r.1, .int .i64 q.r.2.1, .int .i64 q.r.2.2.1, .int .i64 q.r.2.2.2, .int .i64 q.c]
def itCells (l : List ItemZ) : List Value := l.flatMap itV
def riCells (l : List ItemZ) : List Value := l.flatMap riV
theorem map_getD_z {l : List ItemZ} {i : Nat} (hi : i < l.length) : (l.map zItem).getD i item0 = zItem (l.getD i item0) := by
  simp [List.getD_eq_getElem?_getD, hi]
theorem itemsT_owned {w : World} {base n c : Nat} {a : Option Addr} {l : List ItemZ} (h : w.ownsRow base 88 7 (.slice a n c) n (itCells l)) (hn : l.length = n) (hc : ∀ i, i < n → 0 ≤ (l.getD i item0).c ∧ (l.getD i item0).c ≤ 255) : ItemsT w a (l.map zItem) := fun h0 => by
  rw [List.length_map] at h0
  rcases h.2 with ⟨e, h2⟩ | ⟨g, cap', cur, e, hb, hh, hnc, hcm, hcs, ht⟩
  · cases e; omega
  · cases e
    have hq : ∀ i k, i < l.length → k < 7 → cur[0 + i * 7 + k]? = (itV (l.getD i item0))[k]? := fun i k hi hk => by
      have q : (cur.toList.take (n * 7))[i * 7 + k]? = (itV (l.getD i item0))[k]? := by rw [ht]; exact cells_get (V := itV) (s := 7) (fun _ => rfl) item0 l hi hk
      rw [List.getElem?_take_of_lt (by omega), Array.getElem?_toList] at q
      rw [Nat.zero_add]
      exact q
    refine ⟨g, 0, cur, rfl, hh, fun i hi => ?_⟩
    rw [List.length_map] at hi
    rw [map_getD_z hi]
    exact ⟨hc i (by omega), hq i 0 hi (by omega), hq i 1 hi (by omega), hq i 2 hi (by omega), hq i 3 hi (by omega), hq i 4 hi (by omega), hq i 5 hi (by omega), hq i 6 hi (by omega)⟩
theorem itemsR_owned {w : World} {base n c : Nat} {a : Option Addr} {l : List ItemZ} (h : w.ownsRow base 90 5 (.slice a n c) n (riCells l)) (hn : l.length = n) : ItemsR w a (l.map zItem) := fun h0 => by
  rw [List.length_map] at h0
  obtain ⟨a', c', e, h1, h2, h3⟩ := row_reads h
  cases e
  obtain ⟨g, rfl, hg, hlt, hcell⟩ := h3 (by omega)
  refine ⟨g, 0, rfl, hlt, fun i hi => ?_⟩
  rw [List.length_map] at hi
  rw [map_getD_z hi]
  have hq : ∀ k v, k < 5 → (riV (l.getD i item0))[k]? = some v → w.cell? ⟨g, 0 + i * 5 + k, none⟩ = some v := fun k v hk hv => by
    rw [Nat.zero_add]
    exact hcell _ _ ((cells_get (V := riV) (s := 5) (fun _ => rfl) item0 l hi hk).trans hv)
  exact ⟨hq 0 _ (by omega) rfl, hq 1 _ (by omega) rfl, hq 2 _ (by omega) rfl, hq 3 _ (by omega) rfl, hq 4 _ (by omega) rfl⟩
theorem quadsR_owned {w : World} {base n c : Nat} {e : TypeId} {a : Option Addr} {l : List RectQ} (h : w.ownsRow base e 4 (.slice a n c) n (rectCells l)) (hn : l.length = n) : RectsAt w a l := fun h0 => by
  obtain ⟨a', c', e, h1, h2, h3⟩ := row_reads h
  cases e
  obtain ⟨g, rfl, hg, hlt, hcell⟩ := h3 (by omega)
  refine ⟨g, 0, rfl, hlt, fun i hi => ?_⟩
  have hq : ∀ k v, k < 4 → (rectV (l.getD i q0Z))[k]? = some v → w.cell? ⟨g, 0 + i * 4 + k, none⟩ = some v := fun k v hk hv => by
    rw [Nat.zero_add]
    exact hcell _ _ ((rectCells_get l hi hk).trans hv)
  exact ⟨hq 0 _ (by omega) rfl, hq 1 _ (by omega) rfl, hq 2 _ (by omega) rfl, hq 3 _ (by omega) rfl⟩
theorem infoIt : (Try.prog.info? 88).map (fun i => (i.zero, i.size, i.bytes)) = some (some (.agg #[.int .i64 0, .int .i64 0, .int .i64 0, .int .i64 0, .int .i64 0, .int .i64 0, .int .u8 0]), 7, 56) := by kernel_rfl
theorem infoRi : (Try.prog.info? 90).map (fun i => (i.zero, i.size, i.bytes)) = some (some (.agg #[.int .i64 0, .int .i64 0, .int .i64 0, .int .i64 0, .int .i64 0]), 5, 40) := by kernel_rfl
theorem infoR6 : (Try.prog.info? 82).map (fun i => (i.zero, i.size, i.bytes)) = some (some (.agg #[.int .i64 0, .int .i64 0, .int .i64 0, .int .i64 0]), 4, 32) := by kernel_rfl
/-- Rows of two types lie apart. -/
theorem rows_apart {w : World} {base1 base2 s1 s2 n1 n2 : Nat} {e1 e2 : TypeId} {v1 v2 : Value} {xs1 xs2 : List Value} (h1 : w.ownsRow base1 e1 s1 v1 n1 xs1) (h2 : w.ownsRow base2 e2 s2 v2 n2 xs2) (hne : e1 ≠ e2) : v1.ownBlock = none ∨ v1.ownBlock ≠ v2.ownBlock := by
  rcases h1.2 with ⟨rfl, _⟩ | ⟨g1, c1, q1, rfl, _, hh1, _⟩
  · exact .inl rfl
  · rcases h2.2 with ⟨rfl, _⟩ | ⟨g2, c2, q2, rfl, _, hh2, _⟩
    · exact .inr (by simp [Value.ownBlock])
    · refine .inr fun h => ?_
      simp [Value.ownBlock] at h
      subst h
      rw [hh1] at hh2
      cases hh2
      exact hne rfl
/-- A region's tree of orders, of any relation of the world. -/
theorem region_treeS {P : Program} {Q : Exit → Act → World → Prop} {S : World → Prop} {id : Nat} {a : Act} {w : World} {l : List Oper} (hS0 : S w.drew) (t : OT) (hm : P.follows .mixedOrders = true) (hB : regT l.toArray t = true)
    (hQ : ∀ c a d v w, Q (.panic c) (a.put d v) w → Q (.panic c) a w) (h : S w.drew → wpT P l.toArray Q S t a w.drew) : (Code.region id l.toArray true).wp P Q a w := by
  have h := h hS0
  simp only [regT, Bool.and_eq_true, decide_eq_true_eq] at hB
  obtain ⟨⟨⟨h1, h2⟩, h3⟩, h4⟩ := hB
  refine wp_region_any hm ?_
  refine wpAny_of_G _ _ _ _ (wpAnyG_more _ _ _ _ _ h2 (wpAnyG_of_T (S := S) (late := lateT t) h1 hQ (fun j hj => ?_) t _ a _ (fun j oj _ hl => (by rw [getD_replicate_false] at hl; cases hl)) (fun _ => hS0) h4 h))
  have := List.all_eq_true.1 h3 j (by simpa [lateT] using hj)
  simpa using this
/-- Where the loop over items stands. -/
def ItA (Z : World) (I : List ItemZ) (s17 s18 iv : Value) (wr : World) : Prop :=
  ∃ (k : Nat) (a1 : Option Addr) (c1 : Nat) (a2 : Option Addr) (c2 : Nat), iv = .int .i64 k ∧ k ≤ I.length ∧ k ≤ 8 ∧ s17 = .slice a1 k c1 ∧ s18 = .slice a2 k c2 ∧ wr.ownsRow Z.heap.size 88 7 (.slice a1 k c1) k (itCells (I.take k)) ∧ wr.ownsRow Z.heap.size 90 5 (.slice a2 k c2) k (riCells (I.take k)) ∧ Below Z.heap.size Z wr
/-- .. over rectangles. -/
def ItW (Z : World) (P : List RectQ) (s20 s21 iv : Value) (wr : World) : Prop :=
  ∃ (k : Nat) (a1 : Option Addr) (c1 : Nat) (a2 : Option Addr) (c2 : Nat), iv = .int .i64 k ∧ k ≤ P.length ∧ k ≤ 5 ∧ s20 = .slice a1 k c1 ∧ s21 = .slice a2 k c2 ∧ wr.ownsRow Z.heap.size 40 4 (.slice a1 k c1) k (rectCells (P.take k)) ∧ wr.ownsRow Z.heap.size 82 4 (.slice a2 k c2) k (rectCells (P.take k)) ∧ Below Z.heap.size Z wr
theorem infoR8 : (Try.prog.info? 40).map (fun i => (i.zero, i.size, i.bytes)) = some (some (.agg #[.int .i64 0, .int .i64 0, .int .i64 0, .int .i64 0]), 4, 32) := by kernel_rfl
/-- A row stands where blocks of other types are written. -/
theorem row_buts {w w1 : World} {S : Nat → Prop} {m base size n : Nat} {e : TypeId} {v : Value} {xs : List Value} (h : w.ownsRow base e size v n xs) (hb : ButS S m w w1) (hm : m = w.heap.size) (hS : ∀ b cs, S b → Has w b cs e → False) : w1.ownsRow base e size v n xs := by
  refine ⟨h.1, ?_⟩
  rcases h.2 with ⟨e1, e2⟩ | ⟨g, cap, cur, e1, hg, hh, rest⟩
  · exact .inl ⟨e1, e2⟩
  · have hh' : Has w g cur e := hh
    exact .inr ⟨g, cap, cur, e1, hg, hb.has hh' (hm ▸ hh'.lt) (fun q => hS g cur q hh'), rest⟩
/-- A row lies apart from a block of another type. -/
theorem row_has_apart {w : World} {base size n b : Nat} {e T : TypeId} {v : Value} {xs : List Value} {cs : Array Value} (h : w.ownsRow base e size v n xs) (k : Has w b cs T) (hne : e ≠ T) : v.ownBlock ≠ some b := by
  rcases h.2 with ⟨rfl, _⟩ | ⟨g, c, q, rfl, _, hh, _⟩
  · simp [Value.ownBlock]
  · intro hv
    simp [Value.ownBlock] at hv
    subst hv
    have k' : w.heap[g]? = some (.cells cs T) := k
    rw [hh] at k'
    cases k'
    exact hne rfl
/-- The items that are painted, laid. -/
theorem itE_mk {Z wr : World} {I : List ItemZ} {k : Nat} {a1 a2 : Option Addr} {c1 c2 : Nat} (h1 : wr.ownsRow Z.heap.size 88 7 (.slice a1 k c1) k (itCells (I.take k))) (h2 : wr.ownsRow Z.heap.size 90 5 (.slice a2 k c2) k (riCells (I.take k))) (hk : k ≤ I.length) (h8 : k ≤ 8) (he : I.length ≤ k ∨ 8 ≤ k) :
    k = (I.take 8).length ∧ wr.ownsRow Z.heap.size 88 7 (.slice a1 k c1) k (itCells (I.take 8)) ∧ wr.ownsRow Z.heap.size 90 5 (.slice a2 k c2) k (riCells (I.take 8)) := by
  have e : I.take k = I.take 8 := by
    rcases he with he | he
    · rw [List.take_of_length_le he, List.take_of_length_le (by omega)]
    · rw [show k = 8 by omega]
  refine ⟨?_, e ▸ h1, e ▸ h2⟩
  rw [← e, List.length_take]; omega
/-- The rectangles that are painted, laid. -/
theorem itF_mk {Z wr : World} {P : List RectQ} {k : Nat} {a1 a2 : Option Addr} {c1 c2 : Nat} (h1 : wr.ownsRow Z.heap.size 40 4 (.slice a1 k c1) k (rectCells (P.take k))) (h2 : wr.ownsRow Z.heap.size 82 4 (.slice a2 k c2) k (rectCells (P.take k))) (hk : k ≤ P.length) (h8 : k ≤ 5) (he : P.length ≤ k ∨ 5 ≤ k) :
    k = (P.take 5).length ∧ wr.ownsRow Z.heap.size 40 4 (.slice a1 k c1) k (rectCells (P.take 5)) ∧ wr.ownsRow Z.heap.size 82 4 (.slice a2 k c2) k (rectCells (P.take 5)) := by
  have e : P.take k = P.take 5 := by
    rcases he with he | he
    · rw [List.take_of_length_le he, List.take_of_length_le (by omega)]
    · rw [show k = 5 by omega]
  refine ⟨?_, e ▸ h1, e ▸ h2⟩
  rw [← e, List.length_take]; omega
/-- Few rectangles make few. -/
theorem rects_few {P : List RectQ} (h : P.length ≤ 5) : (rectsZ (ofL P)).length ≤ 1000000000000 := by
  obtain ⟨xs, ys, h1, h2, h3⟩ := ofL_grid P
  have := h1.rects (ofL_ok P)
  have : ys.length * xs.length ≤ 10 * 10 := Nat.mul_le_mul (by omega) (by omega)
  omega
theorem items_col {w : World} {a : Option Addr} {I : List ItemZ} (h : ItemsL w a I) {i : Nat} (hi : i < (I.take 8).length) : 0 ≤ ((I.take 8).getD i item0).c ∧ ((I.take 8).getD i item0).c ≤ 255 := by
  rw [List.length_take] at hi
  obtain ⟨b, off, _, _, h3⟩ := h (by omega)
  have e : (I.take 8).getD i item0 = I.getD i item0 := by
    rw [List.getD_eq_getElem?_getD, List.getD_eq_getElem?_getD, List.getElem?_take_of_lt (show i < 8 by omega)]
  rw [e]; exact (h3 i (by omega)).1
end Go.Proofs.Ytkpamofamcndnaa
