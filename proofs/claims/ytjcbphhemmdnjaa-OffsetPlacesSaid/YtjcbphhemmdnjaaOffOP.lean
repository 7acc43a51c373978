/- A slice of law24.Node that comes in. law24 (offset), plain: where boxes stand, by their parents. -/
import Derived.Test.YtjcbphhemmdnjaaOffA
import Derived.Test.YtjcbphhemmdnjaaArr
import Derived.Deep.Slices
import Derived.Deep.Fields
import Derived.ChangeSame
namespace Go.Proofs.Ytjcbphhemmdnjaa
open Go Go.ChangeShapes Go.WideShapes Go.ChangeAt Go.RowKit Go.Deep
set_option linter.unusedSimpArgs false
set_option linter.unusedVariables false
section
variable {H : Type} {enc : TypeId × Value → H} {P : Program} {w : World} {base : Nat} {spare : Nat → Bool} {held : Bool}
theorem n24_plain {a : Addr} {v : Value} (h : w.cell? (a.add 0) = some v) : a = ⟨a.block, a.off, none⟩ := by
  obtain ⟨b, off, spot⟩ := a
  have hspot : spot = none := by simpa [Addr.add] using World.cell?_spot h
  subst hspot; rfl
theorem n24_list {α : Type} {p : Nat → α → Prop} (d : α) : ∀ n, (∀ i, i < n → ∃ x, p i x) → ∃ l : List α, l.length = n ∧ ∀ i, i < n → p i (l.getD i d)
  | 0, _ => ⟨[], rfl, fun i hi => by omega⟩
  | n + 1, h => by
    obtain ⟨l, h1, h2⟩ := n24_list d n (fun i hi => h i (by omega))
    obtain ⟨x, hx⟩ := h n (by omega)
    refine ⟨l ++ [x], by simp [h1], fun i hi => ?_⟩
    by_cases e : i = n
    · subst e; simp [List.getD_eq_getElem?_getD, ← h1, hx]; rw [h1]; exact hx
    · have := h2 i (by omega)
      simp only [List.getD_eq_getElem?_getD] at this ⊢
      rwa [List.getElem?_append_left (by omega)]
theorem wf_u8o {x : Int} (h : (Lit.int .u8 x).wf = true) : 0 ≤ x ∧ x ≤ 255 := by
  simpa [Lit.wf, IntKind.min, IntKind.max, IntKind.bits, IntKind.signed] using h
theorem wf_i32o {x : Int} (h : (Lit.int .i32 x).wf = true) : In32 x := by
  unfold In32
  simpa [Lit.wf, IntKind.min, IntKind.max, IntKind.bits, IntKind.signed] using h
theorem open_n24s {r : Reach} {b0 : Nat} {t e fb : TypeId} {fs : Array Field} {v : Value} {d : DataW H} {p : List MemPlace} (ht : P.underlying t = some (.slice e)) (he : P.underlying e = some (.struct fs)) (hC : P.cellsOf e = 8) (hn : fs.size = 7)
    (g0 : ∃ d, fs[0]? = some d ∧ d.offset = 0 ∧ P.cellsOf d.type = 1 ∧ P.underlying d.type = some (.int .u8))
    (g1 : ∃ d, fs[1]? = some d ∧ d.offset = 1 ∧ P.cellsOf d.type = 1 ∧ P.underlying d.type = some (.int .i32))
    (g2 : ∃ d, fs[2]? = some d ∧ d.offset = 2 ∧ P.cellsOf d.type = 1 ∧ P.underlying d.type = some (.int .i32))
    (g3 : ∃ d, fs[3]? = some d ∧ d.offset = 3 ∧ P.cellsOf d.type = 1 ∧ P.underlying d.type = some (.int .u8))
    (g4 : ∃ d, fs[4]? = some d ∧ d.offset = 4 ∧ P.cellsOf d.type = 1 ∧ P.underlying d.type = some .bool)
    (g5 : ∃ d, fs[5]? = some d ∧ d.offset = 5 ∧ P.cellsOf d.type = 2 ∧ P.underlying d.type = some (.array 2 fb)) (hfb : P.underlying fb = some (.int .i32)) (hcb : P.cellsOf fb = 1)
    (g6 : ∃ d, fs[6]? = some d ∧ d.offset = 7 ∧ P.cellsOf d.type = 1 ∧ P.underlying d.type = some .bool)
    (hv : Value.okWide P w r b0 t v) (h : DataW.Trod enc P w base spare held t v d p) :
    ∃ (a : Option Addr) (n cap : Nat) (l : List N24), v = .slice a n cap ∧ l.length = n ∧ n ≤ cap ∧ cap ≤ 9223372036854775807 ∧ N24sAt w a l := by
  obtain ⟨a, len, cap, rfl⟩ := okWide_slice ht hv
  obtain ⟨fuel, hx⟩ := h
  rcases open_slice ht hx with ⟨hcs, _⟩ | ⟨x, l, c, m, n, D, Pl, hcs, hb, hl, hm', hmm, _, hi⟩
  · simp [Value.cells] at hcs
    obtain ⟨rfl, rfl, rfl⟩ := hcs
    exact ⟨none, 0, 0, [], rfl, rfl, Nat.le_refl _, by omega, fun h => by simp at h⟩
  · simp [Value.cells] at hcs
    obtain ⟨rfl, rfl, rfl⟩ := hcs
    obtain ⟨xs, hxl, hxs⟩ := n24_list (p := fun i (q : N24) => Ok24 q ∧ w.cell? (x.add (i * 8 + 0)) = some (.int .u8 q.p) ∧ w.cell? (x.add (i * 8 + 1)) = some (.int .i32 q.x) ∧ w.cell? (x.add (i * 8 + 2)) = some (.int .i32 q.y) ∧ w.cell? (x.add (i * 8 + 3)) = some (.int .u8 q.bd) ∧ w.cell? (x.add (i * 8 + 4)) = some (.bool q.sc) ∧ w.cell? (x.add (i * 8 + 5)) = some (.int .i32 q.b0) ∧ w.cell? (x.add (i * 8 + 6)) = some (.int .i32 q.b1) ∧ w.cell? (x.add (i * 8 + 7)) = some (.bool q.hid)) n24Z len (fun i him => by
      obtain ⟨cs', hc, ht'⟩ := hi i (by rw [hmm]; split <;> omega)
      rw [hC] at hc
      obtain ⟨_, hcl, hat⟩ := World.cells?_some hc
      obtain ⟨ys, n', _, hy, _, hlen, hg⟩ := DataW.trod_struct he ht'
      match cs', hcl with
      | [c0, c1, c2, c3, c4, c5, c6, c7], _ =>
        match ys, hlen.trans hn with
        | [y0, y1, y2, y3, y4, y5, y6], _ =>
          obtain ⟨f0, k0, o0, z0, u0⟩ := g0
          obtain ⟨f1, k1, o1, z1, u1⟩ := g1
          obtain ⟨f2, k2, o2, z2, u2⟩ := g2
          obtain ⟨f3, k3, o3, z3, u3⟩ := g3
          obtain ⟨f4, k4, o4, z4, u4⟩ := g4
          obtain ⟨f5, k5, o5, z5, u5⟩ := g5
          obtain ⟨f6, k6, o6, z6, u6⟩ := g6
          have e0 : DataW.trod enc P w base spare held n' f0.type [c0] = some y0 := by simpa [o0, z0] using hg 0 f0 k0
          have e1 : DataW.trod enc P w base spare held n' f1.type [c1] = some y1 := by simpa [o1, z1] using hg 1 f1 k1
          have e2 : DataW.trod enc P w base spare held n' f2.type [c2] = some y2 := by simpa [o2, z2] using hg 2 f2 k2
          have e3 : DataW.trod enc P w base spare held n' f3.type [c3] = some y3 := by simpa [o3, z3] using hg 3 f3 k3
          have e4 : DataW.trod enc P w base spare held n' f4.type [c4] = some y4 := by simpa [o4, z4] using hg 4 f4 k4
          have e5 : DataW.trod enc P w base spare held n' f5.type [c5, c6] = some y5 := by simpa [o5, z5] using hg 5 f5 k5
          have e6 : DataW.trod enc P w base spare held n' f6.type [c7] = some y6 := by simpa [o6, z6] using hg 6 f6 k6
          obtain ⟨x0, a0, _, w0⟩ := DataW.trod_int u0 e0
          obtain ⟨x1, a1, _, w1⟩ := DataW.trod_int u1 e1
          obtain ⟨x2, a2, _, w2⟩ := DataW.trod_int u2 e2
          obtain ⟨x3, a3, _, w3⟩ := DataW.trod_int u3 e3
          obtain ⟨x4, a4, _⟩ := DataW.trod_bool u4 e4
          obtain ⟨t0, t1, k, hxx, hy0, hy1⟩ := trod_array2 u5 hcb e5
          obtain ⟨x5, a5, _, w5⟩ := DataW.trod_int hfb hy0
          obtain ⟨x6, a6, _, w6⟩ := DataW.trod_int hfb hy1
          obtain ⟨x7, a7, _⟩ := DataW.trod_bool u6 e6
          simp at a0 a1 a2 a3 a4 a5 a6 a7
          subst a0 a1 a2 a3 a4 a5 a6 a7
          have r0 := hat 0 (by omega); have r1 := hat 1 (by omega); have r2 := hat 2 (by omega); have r3 := hat 3 (by omega); have r4 := hat 4 (by omega); have r5 := hat 5 (by omega); have r6 := hat 6 (by omega); have r7 := hat 7 (by omega)
          rw [Go.Deep.add_add] at r0 r1 r2 r3 r4 r5 r6 r7
          exact ⟨⟨x0, x1, x2, x3, x4, x5, x6, x7⟩, ⟨wf_u8o w0, wf_i32o w1, wf_i32o w2, wf_u8o w3, wf_i32o w5, wf_i32o w6⟩, r0, r1, r2, r3, r4, r5, r6, r7⟩)
    refine ⟨some x, len, cap, xs, rfl, hxl, hl, by simpa [maxLen] using hm', fun h0 => ?_⟩
    rw [hxl] at h0
    have hp := n24_plain (by simpa using (hxs 0 h0).2.1)
    refine ⟨x.block, x.off, by rw [← hp], cell_lt (hxs 0 h0).2.1, fun i hi => ?_⟩
    rw [hxl] at hi
    obtain ⟨k0, k1, k2, k3, k4, k5, k6, k7, k8⟩ := hxs i hi
    rw [hp] at k1 k2 k3 k4 k5 k6 k7 k8
    rw [add_plain] at k1 k2 k3 k4 k5 k6 k7 k8
    exact ⟨k0, k1, k2, k3, k4, k5, k6, k7, k8⟩
end
end Go.Proofs.Ytjcbphhemmdnjaa
namespace Go.Proofs.Ytjcbphhemmdnjaa
set_option linter.unusedSimpArgs false
set_option linter.unusedVariables false
/-- A place: where, the layer, its origin, its rest. -/
structure Pl24 where
  X : Int
  Y : Int
  L : Int
  o0 : Int
  o1 : Int
  r0 : Int
  r1 : Int
def plZ : Pl24 := ⟨0, 0, -1, 0, 0, 0, 0⟩
def stepP (q : N24) (p : Pl24) : Pl24 := { p with X := p.X + q.x, Y := p.Y + q.y }
/-- What is handed to the kids. -/
def downP (q : N24) (n : Nat) (p : Pl24) : Pl24 := if q.sc then ⟨p.X - q.b0, p.Y - q.b1, n, (p.X - q.b0 + (q.bd + 3) + 32) / 64, (p.Y - q.b1 + q.bd + 32) / 64, p.X - q.b0 + (q.bd + 3) - 64 * ((p.X - q.b0 + (q.bd + 3) + 32) / 64), p.Y - q.b1 + q.bd - 64 * ((p.Y - q.b1 + q.bd + 32) / 64)⟩ else p
def plF (l : List N24) : Nat → Nat → Pl24
  | 0, _ => plZ
  | f + 1, n => stepP (nd24 l n) (if n = 0 then plZ else downP (nd24 l (pa24 l n)) (pa24 l n) (plF l f (pa24 l n)))
/-- Was it laid, and all above it? -/
def thF (l : List N24) : Nat → Nat → Bool
  | 0, _ => true
  | f + 1, n => !(nd24 l n).hid && (if n = 0 then true else thF l f (pa24 l n))
theorem plF_fuel (l : List N24) : ∀ (f g n : Nat), n < f → n < g → plF l f n = plF l g n
  | 0, _, n, h, _ => by omega
  | f + 1, 0, n, _, h => by omega
  | f + 1, g + 1, n, h1, h2 => by
    show stepP _ (if n = 0 then _ else _) = stepP _ (if n = 0 then _ else _)
    by_cases c : n = 0
    · rw [if_pos c, if_pos c]
    · have := pa24_lt l (show 0 < n by omega)
      rw [if_neg c, if_neg c, plF_fuel l f g (pa24 l n) (by omega) (by omega)]
theorem thF_fuel (l : List N24) : ∀ (f g n : Nat), n < f → n < g → thF l f n = thF l g n
  | 0, _, n, h, _ => by omega
  | f + 1, 0, n, _, h => by omega
  | f + 1, g + 1, n, h1, h2 => by
    show (!(nd24 l n).hid && (if n = 0 then true else thF l f (pa24 l n))) = (!(nd24 l n).hid && (if n = 0 then true else thF l g (pa24 l n)))
    by_cases c : n = 0
    · rw [if_pos c, if_pos c]
    · have := pa24_lt l (show 0 < n by omega)
      rw [if_neg c, if_neg c, thF_fuel l f g (pa24 l n) (by omega) (by omega)]
def place24 (l : List N24) (n : Nat) : Pl24 := plF l (n + 1) n
def there24 (l : List N24) (n : Nat) : Bool := thF l (n + 1) n
theorem place24_root (l : List N24) : place24 l 0 = stepP (nd24 l 0) plZ := rfl
theorem place24_kid (l : List N24) {n : Nat} (h : 0 < n) : place24 l n = stepP (nd24 l n) (downP (nd24 l (pa24 l n)) (pa24 l n) (place24 l (pa24 l n))) := by
  have := pa24_lt l h
  show stepP _ (if n = 0 then _ else _) = _
  rw [if_neg (by omega), plF_fuel l n (pa24 l n + 1) (pa24 l n) (by omega) (by omega)]
  rfl
theorem there24_root (l : List N24) : there24 l 0 = !(nd24 l 0).hid := by
  show (!(nd24 l 0).hid && true) = _
  rw [Bool.and_true]
theorem there24_kid (l : List N24) {n : Nat} (h : 0 < n) : there24 l n = (!(nd24 l n).hid && there24 l (pa24 l n)) := by
  have := pa24_lt l h
  show (!(nd24 l n).hid && (if n = 0 then true else _)) = _
  rw [if_neg (by omega), thF_fuel l n (pa24 l n + 1) (pa24 l n) (by omega) (by omega)]
  rfl
/-- No place is far away. -/
theorem place24_near {l : List N24} (h : ∀ i, Ok24 (nd24 l i)) : ∀ n : Nat, -(4294967296 * ((n : Int) + 1)) ≤ (place24 l n).X ∧ (place24 l n).X ≤ 4294967296 * ((n : Int) + 1) ∧ -(4294967296 * ((n : Int) + 1)) ≤ (place24 l n).Y ∧ (place24 l n).Y ≤ 4294967296 * ((n : Int) + 1) := by
  intro n
  induction n using Nat.strongRecOn with
  | _ n ih =>
    have hn := h n
    have hx := hn.x; have hy := hn.y
    unfold In32 at hx hy
    rcases Nat.eq_zero_or_pos n with c | c
    · subst c
      rw [place24_root]
      simp only [stepP, plZ]
      omega
    · have hlt := pa24_lt l c
      have hi := ih (pa24 l n) hlt
      have hq := h (pa24 l n)
      have hb0 := hq.b0; have hb1 := hq.b1
      unfold In32 at hb0 hb1
      rw [place24_kid l c]
      have hd : (downP (nd24 l (pa24 l n)) (pa24 l n) (place24 l (pa24 l n))).X = (place24 l (pa24 l n)).X - (if (nd24 l (pa24 l n)).sc then (nd24 l (pa24 l n)).b0 else 0) ∧ (downP (nd24 l (pa24 l n)) (pa24 l n) (place24 l (pa24 l n))).Y = (place24 l (pa24 l n)).Y - (if (nd24 l (pa24 l n)).sc then (nd24 l (pa24 l n)).b1 else 0) := by
        unfold downP
        split
        · simp_all
        · simp_all
      simp only [stepP]
      rw [hd.1, hd.2]
      have h1 : ((pa24 l n : Nat) : Int) + 1 ≤ n := by omega
      split <;> omega
end Go.Proofs.Ytjcbphhemmdnjaa
