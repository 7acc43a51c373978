/- A made world of the laws on trees: the program's tree, the document's nodes (a row), each node's kids (rows), further rows, own blocks, maps. V: how a node of the document reads, its kids' row given. -/
import Derived.Test.YtjcbphhemmdnjaaWdD
import Derived.Test.YtjcbphhemmdnjaaPt
namespace Go.Proofs.Ytjcbphhemmdnjaa
open Go Go.RowKit
set_option linter.unusedSimpArgs false
set_option linter.unusedVariables false
def blkL (l : List BlkT) : Nat → BlkT := fun q => l.getD q ⟨0, #[], 0⟩
structure Mt (V : Nat → Value → List Value) (pa : Nat → Nat) (kb : Nat) (w0 w : World) (pt bm m : Nat) (B : Nat → BlkT) (k : Nat) (M : Nat → MapT) (nk j n0 : Nat) (aL : Option Addr) (cL : Nat) (R : Rows) (f : Nat → RowT) (O : Nat → Prop) : Prop where
  wd : Wd w0 w pt bm R ((max j 1 : Nat) : Int) (kb + nk) f m B k M O
  told : Pt pa (max j 1) R
  k1 : 1 ≤ kb
  vl : ∀ i v, (V i v).length = 65
  f0 : f 0 = ⟨68, 65, .slice aL n0 cL, n0, rng (fun i => V i (f (kb + i)).v) n0⟩
  fk : ∀ i, i < nk → ∃ v, f (kb + i) = ⟨3, 1, v, (kidsZ pa j i).length, intVals (kidsZ pa j i)⟩
section
variable {V : Nat → Value → List Value} {pa : Nat → Nat} {kb pt bm m k nk j n0 cL : Nat} {w0 w w' : World} {B : Nat → BlkT} {M : Nat → MapT} {aL : Option Addr} {R : Rows} {f : Nat → RowT} {O : Nat → Prop}
theorem Mt.below (h : Mt V pa kb w0 w pt bm m B k M nk j n0 aL cL R f O) (hb : Below w.heap.size w w') : Mt V pa kb w0 w' pt bm m B k M nk j n0 aL cL R f (plusN O w w') :=
  ⟨h.wd.below hb, h.told, h.k1, h.vl, h.f0, h.fk⟩
theorem Mt.st (h : Mt V pa kb w0 w pt bm m B k M nk j n0 aL cL R f O) {q : Nat} (hq : q < m) (cs : Array Value) {B' : Nat → BlkT} (e : ∀ r, r < m → B' r = upd B q ⟨(B q).b, cs, (B q).T⟩ r) : ∃ O', Mt V pa kb w0 (ov w (B q).b cs (B q).T) pt bm m B' k M nk j n0 aL cL R f O' :=
  ⟨_, (h.wd.st hq cs).blks e (Nat.le_refl _), h.told, h.k1, h.vl, h.f0, h.fk⟩
theorem Mt.alloc (h : Mt V pa kb w0 w pt bm m B k M nk j n0 aL cL R f O) (cs : Array Value) (T : TypeId) {B' : Nat → BlkT} (e : ∀ r, r < m + 1 → B' r = upd B m ⟨w.heap.size, cs, T⟩ r) : ∃ O', Mt V pa kb w0 (w.alloc (.cells cs T)) pt bm (m + 1) B' k M nk j n0 aL cL R f O' :=
  ⟨_, (h.wd.alloc cs T).blks e (Nat.le_refl _), h.told, h.k1, h.vl, h.f0, h.fk⟩
theorem Mt.blks (h : Mt V pa kb w0 w pt bm m B k M nk j n0 aL cL R f O) {m' : Nat} {B' : Nat → BlkT} (e : ∀ q, q < m' → B' q = B q) (hm : m' ≤ m) : Mt V pa kb w0 w pt bm m' B' k M nk j n0 aL cL R f O :=
  ⟨h.wd.blks e hm, h.told, h.k1, h.vl, h.f0, h.fk⟩
theorem Mt.maps (h : Mt V pa kb w0 w pt bm m B k M nk j n0 aL cL R f O) {M' : Nat → MapT} (e : ∀ q, q < k → (M' q).b = (M q).b ∧ ∀ x, (M' q).g x = (M q).g x) : Mt V pa kb w0 w pt bm m B k M' nk j n0 aL cL R f O :=
  ⟨h.wd.maps e, h.told, h.k1, h.vl, h.f0, h.fk⟩
theorem Mt.put (h : Mt V pa kb w0 w pt bm m B k M nk j n0 aL cL R f O) {q : Nat} (hq : q < k) (x : Int) (v : Value) {M' : Nat → MapT} (e : ∀ r, r < k → (M' r).b = (M r).b ∧ ∀ y, (M' r).g y = if r = q then (if y = x then some v else (M r).g y) else (M r).g y) : ∃ O', Mt V pa kb w0 (putM w (M q).b x v) pt bm m B k M' nk j n0 aL cL R f O' := by
  refine ⟨_, (h.wd.put hq x v).maps (fun r hr => ?_), h.told, h.k1, h.vl, h.f0, h.fk⟩
  obtain ⟨e1, e2⟩ := e r hr
  by_cases c : r = q
  · subst c; rw [upd_same]; exact ⟨e1, fun y => by rw [e2, if_pos rfl]⟩
  · rw [upd_other _ _ c]; exact ⟨e1, fun y => by rw [e2, if_neg c]⟩
/-- A node's kids' row, still without kids. -/
theorem Mt.more (h : Mt V pa kb w0 w pt bm m B k M nk (nk + 1) n0 aL cL R f O) (hp : ∀ i, 0 < i → i ≤ nk → pa i < i) (hn : n0 ≤ nk) : ∃ f', f' (kb + nk) = ⟨3, 1, .slice none 0 0, 0, []⟩ ∧ (∀ r, r ≠ kb + nk → f' r = f r) ∧ Mt V pa kb w0 w pt bm m B k M (nk + 1) (nk + 1) n0 aL cL R f' O := by
  have k1 := h.k1
  refine ⟨upd f (kb + nk) ⟨3, 1, .slice none 0 0, 0, []⟩, upd_same _ _ _, fun r hr => upd_other _ _ hr, h.wd.row 3 1, h.told, k1, h.vl, ?_, fun i hi => ?_⟩
  · rw [upd_other _ _ (by omega), h.f0]
    congr 1
    exact rng_congr fun i hi => by rw [upd_other _ _ (by omega)]
  · by_cases c : i = nk
    · subst c
      have e : kidsZ pa (i + 1) i = [] := kidsZ_none fun q h1 h2 => by have := hp q h1 (by omega); omega
      exact ⟨_, by rw [upd_same, e]; rfl⟩
    · rw [upd_other _ _ (by omega)]
      exact h.fk i (by omega)
/-- The nodes' row appended to. -/
theorem Mt.app0 (h : Mt V pa kb w0 w pt bm m B k M nk j n0 aL cL R f O) (hn : n0 < nk) {a' : Option Addr} {c' : Nat} (h1 : w'.ownsRow w0.heap.size 68 65 (.slice a' (n0 + 1) c') (n0 + 1) (rng (fun i => V i (f (kb + i)).v) n0 ++ V n0 (f (kb + n0)).v)) (hg : w.grownBy w' (Value.slice aL n0 cL).ownBlock)
    (hid : (Value.slice a' (n0 + 1) c').ownBlock = (Value.slice aL n0 cL).ownBlock ∧ w'.heap.size = w.heap.size ∨ (Value.slice a' (n0 + 1) c').ownBlock = some w.heap.size ∧ w.heap.size < w'.heap.size) : ∃ f' O', (∀ r, r ≠ 0 → f' r = f r) ∧ Mt V pa kb w0 w' pt bm m B k M nk j (n0 + 1) a' c' R f' O' := by
  have k1 := h.k1
  have W := h.wd.app (q := 0) (v' := .slice a' (n0 + 1) c') (n' := n0 + 1) (by omega) (by rw [h.f0]; exact h1) (by rw [h.f0]; exact hg) (by rw [h.f0]; exact hid)
  refine ⟨_, _, fun r hr => upd_other _ _ hr, W, h.told, k1, h.vl, ?_, fun i hi => by rw [upd_other _ _ (by omega)]; exact h.fk i hi⟩
  rw [upd_same, h.f0]
  congr 1
  show rng (fun i => V i (f (kb + i)).v) (n0 + 1) = _
  exact rng_congr fun i hi => by rw [upd_other _ _ (by omega)]
/-- A further row appended to. -/
theorem Mt.appx (h : Mt V pa kb w0 w pt bm m B k M nk j n0 aL cL R f O) {q : Nat} (hq : 0 < q ∧ q < kb) {v' : Value} {n' : Nat} {xs' : List Value} (h1 : w'.ownsRow w0.heap.size (f q).T (f q).s v' n' xs') (hg : w.grownBy w' (f q).v.ownBlock)
    (hid : v'.ownBlock = (f q).v.ownBlock ∧ w'.heap.size = w.heap.size ∨ v'.ownBlock = some w.heap.size ∧ w.heap.size < w'.heap.size) : ∃ O', Mt V pa kb w0 w' pt bm m B k M nk j n0 aL cL R (upd f q ⟨(f q).T, (f q).s, v', n', xs'⟩) O' := by
  have W := h.wd.app (q := q) (by omega) h1 hg hid
  refine ⟨_, W, h.told, h.k1, h.vl, ?_, fun i hi => by rw [upd_other _ _ (by omega)]; exact h.fk i hi⟩
  rw [upd_other _ _ (by omega), h.f0]
  congr 1
  exact rng_congr fun i hi => by rw [upd_other _ _ (by omega)]
end
/-- A node hung below its parent, in the document's world. -/
theorem Mt.kid {V : Nat → Value → List Value} {pa : Nat → Nat} {kb pt bm m k i q gL cL nk : Nat} {w0 X Y : World} {B : Nat → BlkT} {M : Nat → MapT} {R R' : Rows} {f : Nat → RowT} {O O' : Nat → Prop} {v' : Value} (h : Mt V pa kb w0 X pt bm m B k M i i i (some ⟨gL, 0, none⟩) cL R f O) (c0 : 0 < i) (hq : pa i = q) (hlt : q < i)
    (hV : ∀ r v, (V r v).set 63 v' = V r v')
    (W : Wd w0 Y pt bm R' ((i + 1 : Nat) : Int) (kb + i) (upd (upd f (kb + q) ⟨3, 1, v', nk + 1, intVals (kidsZ pa i q) ++ [.int .i64 i]⟩) 0 ⟨68, 65, .slice (some ⟨gL, 0, none⟩) i cL, i, (rng (fun r => V r (f (kb + r)).v) i).set (q * 65 + 63) v'⟩) m B k M O') (hnk : (kidsZ pa i q).length = nk) (hp : Pt pa (i + 1) R') :
    Mt V pa kb w0 Y pt bm m B k M i (i + 1) i (some ⟨gL, 0, none⟩) cL R' (upd (upd f (kb + q) ⟨3, 1, v', nk + 1, intVals (kidsZ pa i q) ++ [.int .i64 i]⟩) 0 ⟨68, 65, .slice (some ⟨gL, 0, none⟩) i cL, i, (rng (fun r => V r (f (kb + r)).v) i).set (q * 65 + 63) v'⟩) O' := by
  have k1 := h.k1
  have hu : ∀ r, r ≠ 0 → r ≠ kb + q → upd (upd f (kb + q) ⟨3, 1, v', nk + 1, intVals (kidsZ pa i q) ++ [.int .i64 i]⟩) 0 ⟨68, 65, .slice (some ⟨gL, 0, none⟩) i cL, i, (rng (fun r => V r (f (kb + r)).v) i).set (q * 65 + 63) v'⟩ r = f r := fun r h1 h2 => by rw [upd_other _ _ h1, upd_other _ _ h2]
  have hm : max (i + 1) 1 = i + 1 := by omega
  refine ⟨by rw [hm]; exact W, by rw [hm]; exact hp, k1, h.vl, ?_, fun r hr => ?_⟩
  · rw [upd_same, rng_set (V := fun r => V r (f (kb + r)).v) (fun r => h.vl _ _) v' (by omega) hlt]
    congr 1
    refine rng_congr fun r hr => ?_
    rw [upd_other _ _ (show kb + r ≠ 0 by omega)]
    by_cases c : r = q
    · subst c; rw [if_pos rfl, upd_same]; exact hV _ _
    · rw [if_neg c, upd_other _ _ (show kb + r ≠ kb + q by omega)]
  · by_cases c : r = q
    · subst c
      have e : kidsZ pa (i + 1) r = kidsZ pa i r ++ [(i : Int)] := by
        show _ ++ (if 0 < i ∧ (pa i : Int) = r then [(i : Int)] else []) = _
        rw [if_pos ⟨c0, by omega⟩]
      refine ⟨v', ?_⟩
      rw [upd_other _ _ (show kb + r ≠ 0 by omega), upd_same, e, intVals_snoc, List.length_append, hnk]
      rfl
    · have e : kidsZ pa (i + 1) r = kidsZ pa i r := by
        show _ ++ (if 0 < i ∧ (pa i : Int) = r then [(i : Int)] else []) = _
        rw [if_neg (by omega), List.append_nil]
      rw [hu (kb + r) (by omega) (by omega), e]
      exact h.fk r hr
end Go.Proofs.Ytjcbphhemmdnjaa
