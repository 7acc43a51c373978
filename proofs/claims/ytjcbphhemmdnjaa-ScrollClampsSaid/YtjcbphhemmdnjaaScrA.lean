/- law23 (scroll): the world made, its data. -/
import Derived.Test.YtjcbphhemmdnjaaStkA
namespace Go.Proofs.Ytjcbphhemmdnjaa
open Go Go.RowKit
set_option linter.unusedSimpArgs false
set_option linter.unusedVariables false
/-- A node of the statement. -/
structure N23 where
  p : Int
  x : Int
  y : Int
  w : Int
  h : Int
  bd : Int
  ov : Int
  tx : Bool
  hid : Bool
def n23Z : N23 := ⟨0, 0, 0, 0, 0, 0, 0, false, false⟩
def nd23 (l : List N23) (i : Nat) : N23 := l.getD i n23Z
def cnt23 (l : List N23) : Nat := max 1 (min l.length 14)
/-- As law26 has it: for the parents. -/
def to26 (l : List N23) : List N26 := l.map fun q => ⟨q.p, 0, q.ov, 0, false, q.tx⟩
def tx23 (l : List N23) (i : Nat) : Bool := tx26 (to26 l) i
def pa23 (l : List N23) (i : Nat) : Nat := pa26 (to26 l) i
def up23 (l : List N23) (i : Nat) : Nat := up26 (to26 l) i
def hid23 (l : List N23) (i : Nat) : Bool := (nd23 l i).hid && decide (0 < i)
theorem nd_to26 (l : List N23) (i : Nat) : nd26 (to26 l) i = ⟨(nd23 l i).p, 0, (nd23 l i).ov, 0, false, (nd23 l i).tx⟩ := by
  unfold nd26 nd23 to26
  rw [List.getD_eq_getElem?_getD, List.getD_eq_getElem?_getD, List.getElem?_map]
  cases l[i]? with
  | none => rfl
  | some q => rfl
theorem tx23_eq (l : List N23) (i : Nat) : tx23 l i = ((nd23 l i).tx && decide (0 < i)) := by unfold tx23 tx26; rw [nd_to26]
theorem pa23_lt (l : List N23) {i : Nat} (h : 0 < i) : pa23 l i < i := pa26_lt _ h
theorem pa23_tx (l : List N23) (i : Nat) : tx23 l (pa23 l i) = false := pa26_tx _ i
def thF23 (l : List N23) : Nat → Nat → Bool
  | 0, _ => false
  | f + 1, i => if i = 0 then true else !(hid23 l i) && thF23 l f (pa23 l i)
/-- Was a box laid? -/
def there23 (l : List N23) (i : Nat) : Bool := thF23 l (i + 1) i
theorem thF23_fuel (l : List N23) : ∀ (f g i : Nat), i < f → i < g → thF23 l f i = thF23 l g i
  | 0, _, i, h, _ => by omega
  | f + 1, 0, i, _, h => by omega
  | f + 1, g + 1, i, h1, h2 => by
    unfold thF23
    by_cases c : i = 0
    · rw [if_pos c, if_pos c]
    · have := pa23_lt l (show 0 < i by omega)
      rw [if_neg c, if_neg c, thF23_fuel l f g _ (by omega) (by omega)]
theorem there23_zero (l : List N23) : there23 l 0 = true := rfl
theorem there23_pos (l : List N23) {i : Nat} (h : 0 < i) : there23 l i = (!(hid23 l i) && there23 l (pa23 l i)) := by
  unfold there23
  conv => lhs; unfold thF23
  rw [if_neg (by omega)]
  have := pa23_lt l h
  rw [thF23_fuel l i (pa23 l i + 1) _ (by omega) (by omega)]
structure Ok23 (q : N23) : Prop where
  p : 0 ≤ q.p ∧ q.p ≤ 255
  x : -32768 ≤ q.x ∧ q.x ≤ 32767
  y : -32768 ≤ q.y ∧ q.y ≤ 32767
  w : 0 ≤ q.w ∧ q.w ≤ 65535
  h : 0 ≤ q.h ∧ q.h ≤ 65535
  bd : 0 ≤ q.bd ∧ q.bd ≤ 65535
  ov : 0 ≤ q.ov ∧ q.ov ≤ 255
def N23sAt (w : World) (a : Option Addr) (l : List N23) : Prop := 0 < l.length → ∃ b off, a = some ⟨b, off, none⟩ ∧ b < w.heap.size ∧ ∀ i, i < l.length → Ok23 (l.getD i n23Z) ∧ w.cell? ⟨b, off + i * 9, none⟩ = some (.int .u8 (l.getD i n23Z).p) ∧ w.cell? ⟨b, off + i * 9 + 1, none⟩ = some (.int .i16 (l.getD i n23Z).x) ∧ w.cell? ⟨b, off + i * 9 + 2, none⟩ = some (.int .i16 (l.getD i n23Z).y) ∧ w.cell? ⟨b, off + i * 9 + 3, none⟩ = some (.int .u16 (l.getD i n23Z).w) ∧
  w.cell? ⟨b, off + i * 9 + 4, none⟩ = some (.int .u16 (l.getD i n23Z).h) ∧ w.cell? ⟨b, off + i * 9 + 5, none⟩ = some (.int .u16 (l.getD i n23Z).bd) ∧ w.cell? ⟨b, off + i * 9 + 6, none⟩ = some (.int .u8 (l.getD i n23Z).ov) ∧ w.cell? ⟨b, off + i * 9 + 7, none⟩ = some (.bool (l.getD i n23Z).tx) ∧ w.cell? ⟨b, off + i * 9 + 8, none⟩ = some (.bool (l.getD i n23Z).hid)
theorem N23sAt.below {w w1 : World} {a : Option Addr} {l : List N23} (h : N23sAt w a l) (hb : Below w.heap.size w w1) : N23sAt w1 a l := fun h0 => by
  obtain ⟨b, off, ha, hl, hc⟩ := h h0
  have c : ∀ o, w1.cell? ⟨b, o, none⟩ = w.cell? ⟨b, o, none⟩ := fun o => hb.cell (p := ⟨b, o, none⟩) hl
  refine ⟨b, off, ha, Nat.lt_of_lt_of_le hl hb.size, fun i hi => ?_⟩
  obtain ⟨k0, k1, k2, k3, k4, k5, k6, k7, k8, k9⟩ := hc i hi
  exact ⟨k0, (c _).trans k1, (c _).trans k2, (c _).trans k3, (c _).trans k4, (c _).trans k5, (c _).trans k6, (c _).trans k7, (c _).trans k8, (c _).trans k9⟩
theorem ok23_nd {w : World} {a : Option Addr} {l : List N23} (h : N23sAt w a l) (i : Nat) : Ok23 (nd23 l i) := by
  by_cases c : i < l.length
  · obtain ⟨b, off, _, _, h3⟩ := h (by omega)
    exact (h3 i c).1
  · have : nd23 l i = n23Z := by unfold nd23; simp [List.getD_eq_getElem?_getD, show l.length ≤ i by omega]
    rw [this]
    constructor <;> (unfold n23Z; simp)
/-- The width of the borders. -/
def bw23 (l : List N23) (i : Nat) : Int := (nd23 l i).bd % 100
/-- A box of the program. -/
def boxC (x y w h b : Int) (pc : Value) : List Value := [.int .i64 x, .int .i64 y, .int .i64 w, .int .i64 h, .int .i64 b, .int .i64 b, .int .i64 b, .int .i64 b, .int .i64 0, .int .i64 0, .int .i64 0, .int .i64 0, .int .i64 0, .int .i64 0, .int .i64 0, .int .i64 0, pc]
/-- A box of the document. -/
def box18 (t : Bool) (x y w h b : Int) (pc : Value) : List Value := [.bool t, .int .i64 x, .int .i64 y, .int .i64 w, .int .i64 h, .int .i64 b, .int .i64 b, .int .i64 b, .int .i64 b, .int .i64 0, .int .i64 0, .int .i64 0, .int .i64 0, .int .i64 0, .int .i64 0, .int .i64 0, .int .i64 0, pc]
theorem boxC_len (x y w h b : Int) (pc : Value) : (boxC x y w h b pc).length = 17 := rfl
theorem box18_len (t : Bool) (x y w h b : Int) (pc : Value) : (box18 t x y w h b pc).length = 18 := rfl
def pc1 (b : Nat) : Value := .slice (some ⟨b, 0, none⟩) 1 1
/-- What is in the map of boxes at node i; the text's piece in block b. -/
def bxV (l : List N23) (i b : Nat) : List Value := if tx23 l i = true then boxC 0 0 0 0 0 (pc1 b) else boxC (nd23 l i).x (nd23 l i).y ((nd23 l i).w + 2 * bw23 l i) ((nd23 l i).h + 2 * bw23 l i) (bw23 l i) (.slice none 0 0)
/-- .. and in the document's row, while it is made. -/
def byV (l : List N23) (i b : Nat) : List Value := if tx23 l i = true then box18 true 0 0 0 0 0 (pc1 b) else box18 true (nd23 l i).x (nd23 l i).y ((nd23 l i).w + 2 * bw23 l i) ((nd23 l i).h + 2 * bw23 l i) (bw23 l i) (.slice none 0 0)
def b22V (l : List N23) (i b : Nat) : List Value := if there23 l i = true then byV l i b else box18 false 0 0 0 0 0 (.slice none 0 0)
theorem byV_len (l : List N23) (i b : Nat) : (byV l i b).length = 18 := by unfold byV; split <;> rfl
theorem b22V_len (l : List N23) (i b : Nat) : (b22V l i b).length = 18 := by unfold b22V; split; exact byV_len _ _ _; rfl
/-- The cells of a text's piece. -/
def pieceC (l : List N23) (i : Nat) : Array Value := #[.int .i64 (nd23 l i).x, .int .i64 (nd23 l i).y, .int .i64 (nd23 l i).w, .int .i64 (nd23 l i).h]
def V23 (l : List N23) (i : Nat) (kv : Value) : List Value := nodeC 0 false 0 (1 + (nd23 l i).ov % 3) (tx23 l i) kv (pa23 l i)
def lay23 (l : List N23) (i : Nat) : Value := .agg (layC 0 false 0 (1 + (nd23 l i).ov % 3) (tx23 l i)).toArray
def m23n (l : List N23) (i : Nat) : Int → Option Value := fun k => if 0 ≤ k ∧ k < i then some (lay23 l k.toNat) else none
def m23b (l : List N23) (g : Nat → Nat × Nat) (i : Nat) : Int → Option Value := fun k => if 0 ≤ k ∧ k < i ∧ there23 l k.toNat = true then some (.agg (bxV l k.toNat (g k.toNat).1).toArray) else none
def M23m (l : List N23) (bn bx : Nat) (g : Nat → Nat × Nat) (gn gb : Nat) : Nat → MapT := fun q => if q = 0 then ⟨bn, m23n l gn⟩ else ⟨bx, m23b l g gb⟩
def w23C (pt bn bx : Nat) (vL vl : Value) : Array Value := #[.pointer (some ⟨pt, 0, none⟩), .map (some bn), .map (some bx), vL, .int .i64 0, .int .i64 0, vl]
def z23 : Array Value := #[.pointer none, .map none, .map none, .slice none 0 0, .int .i64 0, .int .i64 0, .slice none 0 0]
def c23 (q : N23) (tx hid : Bool) : Array Value := #[.int .u8 q.p, .int .i16 q.x, .int .i16 q.y, .int .u16 q.w, .int .u16 q.h, .int .u16 q.bd, .int .u8 q.ov, .bool tx, .bool hid]
/-- The document's row: the first nz are as they will be. -/
def wV (l : List N23) (g : Nat → Nat × Nat) (nz k : Nat) : List Value := if k < nz then b22V l k (g k).2 else byV l k (g k).2
theorem wV_len (l : List N23) (g : Nat → Nat × Nat) (nz k : Nat) : (wV l g nz k).length = 18 := by unfold wV; split; exact b22V_len _ _ _; exact byV_len _ _ _
/-- Where the maker stands: gn and gb in the maps, n0 and n1 in the rows; the texts' pieces of the first np. -/
structure M23 (l : List N23) (w0 w : World) (pt bm m : Nat) (B : Nat → BlkT) (bn bx : Nat) (g : Nat → Nat × Nat) (gn gb nk j n0 n1 nz np : Nat) (aL : Option Addr) (cL : Nat) (a1 : Option Addr) (c1 : Nat) (R : Rows) (f : Nat → RowT) (O : Nat → Prop) : Prop where
  mt : Mt (V23 l) (pa23 l) 2 w0 w pt bm m B 2 (M23m l bn bx g gn gb) nk j n0 aL cL R f O
  f1 : f 1 = ⟨44, 18, .slice a1 n1 c1, n1, rng (wV l g nz) n1⟩
  m2 : 2 ≤ m
  pc : ∀ k, k < np → tx23 l k = true → ∃ q r, 2 ≤ q ∧ q < m ∧ 2 ≤ r ∧ r < m ∧ B q = ⟨(g k).1, pieceC l k, 110⟩ ∧ B r = ⟨(g k).2, pieceC l k, 41⟩
section
variable {l : List N23} {w0 w w' : World} {pt bm m bn bx gn gb nk j n0 n1 nz np cL c1 : Nat} {B : Nat → BlkT} {g : Nat → Nat × Nat} {aL a1 : Option Addr} {R : Rows} {f : Nat → RowT} {O : Nat → Prop}
theorem M23.below (h : M23 l w0 w pt bm m B bn bx g gn gb nk j n0 n1 nz np aL cL a1 c1 R f O) (hb : Below w.heap.size w w') : M23 l w0 w' pt bm m B bn bx g gn gb nk j n0 n1 nz np aL cL a1 c1 R f (plusN O w w') :=
  ⟨h.mt.below hb, h.f1, h.m2, h.pc⟩
/-- A block more. -/
theorem M23.alloc (h : M23 l w0 w pt bm m B bn bx g gn gb nk j n0 n1 nz np aL cL a1 c1 R f O) (cs : Array Value) (T : TypeId) : ∃ O', M23 l w0 (w.alloc (.cells cs T)) pt bm (m + 1) (upd B m ⟨w.heap.size, cs, T⟩) bn bx g gn gb nk j n0 n1 nz np aL cL a1 c1 R f O' := by
  obtain ⟨O', q⟩ := h.mt.alloc cs T (B' := upd B m ⟨w.heap.size, cs, T⟩) (fun _ _ => rfl)
  refine ⟨O', q, h.f1, by have := h.m2; omega, fun k hk ht => ?_⟩
  obtain ⟨q, r, h1, h2, h3, h4, h5, h6⟩ := h.pc k hk ht
  exact ⟨q, r, h1, by omega, h3, by omega, by rw [upd_other _ _ (by omega)]; exact h5, by rw [upd_other _ _ (by omega)]; exact h6⟩
/-- A block written. -/
theorem M23.st (h : M23 l w0 w pt bm m B bn bx g gn gb nk j n0 n1 nz np aL cL a1 c1 R f O) {q : Nat} (hq : q < m) (cs : Array Value) (h1 : (B q).T ≠ 110) (h2 : (B q).T ≠ 41) : ∃ O', M23 l w0 (ov w (B q).b cs (B q).T) pt bm m (upd B q ⟨(B q).b, cs, (B q).T⟩) bn bx g gn gb nk j n0 n1 nz np aL cL a1 c1 R f O' := by
  obtain ⟨O', k⟩ := h.mt.st hq cs (B' := upd B q ⟨(B q).b, cs, (B q).T⟩) (fun _ _ => rfl)
  refine ⟨O', k, h.f1, h.m2, fun i hi ht => ?_⟩
  obtain ⟨x, r, k1, k2, k3, k4, k5, k6⟩ := h.pc i hi ht
  refine ⟨x, r, k1, k2, k3, k4, ?_, ?_⟩
  · rw [upd_other _ _ (fun e => h1 (by rw [← e, k5]))]; exact k5
  · rw [upd_other _ _ (fun e => h2 (by rw [← e, k6]))]; exact k6
/-- A node's kids' row, still without kids. -/
theorem M23.more (h : M23 l w0 w pt bm m B bn bx g gn gb nk (nk + 1) n0 n1 nz np aL cL a1 c1 R f O) (hn : n0 ≤ nk) : ∃ f', f' (2 + nk) = ⟨3, 1, .slice none 0 0, 0, []⟩ ∧ M23 l w0 w pt bm m B bn bx g gn gb (nk + 1) (nk + 1) n0 n1 nz np aL cL a1 c1 R f' O := by
  obtain ⟨f', h1, h2, h3⟩ := h.mt.more (fun k h1 h2 => pa23_lt l h1) hn
  exact ⟨f', h1, h3, by rw [h2 1 (by omega)]; exact h.f1, h.m2, h.pc⟩
/-- The nodes' row appended to. -/
theorem M23.app0 (h : M23 l w0 w pt bm m B bn bx g gn gb nk j n0 n1 nz np aL cL a1 c1 R f O) (hn : n0 < nk) {a' : Option Addr} {c' : Nat} (h1 : w'.ownsRow w0.heap.size 68 65 (.slice a' (n0 + 1) c') (n0 + 1) (rng (fun i => V23 l i (f (2 + i)).v) n0 ++ V23 l n0 (f (2 + n0)).v)) (hg : w.grownBy w' (Value.slice aL n0 cL).ownBlock)
    (hid : (Value.slice a' (n0 + 1) c').ownBlock = (Value.slice aL n0 cL).ownBlock ∧ w'.heap.size = w.heap.size ∨ (Value.slice a' (n0 + 1) c').ownBlock = some w.heap.size ∧ w.heap.size < w'.heap.size) : ∃ f' O', (∀ r, r ≠ 0 → f' r = f r) ∧ M23 l w0 w' pt bm m B bn bx g gn gb nk j (n0 + 1) n1 nz np a' c' a1 c1 R f' O' := by
  obtain ⟨f', O', e, k⟩ := h.mt.app0 hn h1 hg hid
  exact ⟨f', O', e, k, by rw [e 1 (by omega)]; exact h.f1, h.m2, h.pc⟩
/-- The boxes' row appended to. -/
theorem M23.app1 (h : M23 l w0 w pt bm m B bn bx g gn gb nk j n0 n1 nz np aL cL a1 c1 R f O) (hz : nz ≤ n1) {a' : Option Addr} {c' : Nat} (h1 : w'.ownsRow w0.heap.size 44 18 (.slice a' (n1 + 1) c') (n1 + 1) (rng (wV l g nz) n1 ++ byV l n1 (g n1).2)) (hg : w.grownBy w' (Value.slice a1 n1 c1).ownBlock)
    (hid : (Value.slice a' (n1 + 1) c').ownBlock = (Value.slice a1 n1 c1).ownBlock ∧ w'.heap.size = w.heap.size ∨ (Value.slice a' (n1 + 1) c').ownBlock = some w.heap.size ∧ w.heap.size < w'.heap.size) : ∃ f' O', (∀ r, r ≠ 1 → f' r = f r) ∧ M23 l w0 w' pt bm m B bn bx g gn gb nk j n0 (n1 + 1) nz np aL cL a' c' R f' O' := by
  have e1 := h.f1
  obtain ⟨O', k⟩ := h.mt.appx (q := 1) ⟨by omega, by omega⟩ (v' := .slice a' (n1 + 1) c') (n' := n1 + 1) (by rw [e1]; exact h1) (by rw [e1]; exact hg) (by rw [e1]; exact hid)
  refine ⟨_, O', fun r hr => upd_other _ _ hr, k, ?_, h.m2, h.pc⟩
  rw [upd_same, e1]
  show (⟨_, _, _, _, _⟩ : RowT) = ⟨_, _, _, _, rng (wV l g nz) n1 ++ wV l g nz n1⟩
  have : wV l g nz n1 = byV l n1 (g n1).2 := by unfold wV; rw [if_neg (by omega)]
  rw [this]
/-- A box that was laid is as it will be. -/
theorem M23.keep (h : M23 l w0 w pt bm m B bn bx g gn gb nk j n0 n1 nz np aL cL a1 c1 R f O) (ht : there23 l nz = true) : M23 l w0 w pt bm m B bn bx g gn gb nk j n0 n1 (nz + 1) np aL cL a1 c1 R f O := by
  refine ⟨h.mt, ?_, h.m2, h.pc⟩
  rw [h.f1]
  congr 1
  refine rng_congr fun k hk => ?_
  unfold wV
  by_cases c : k < nz
  · rw [if_pos c, if_pos (by omega)]
  · rw [if_neg c]
    by_cases c2 : k = nz
    · subst c2
      rw [if_pos (by omega)]
      unfold b22V
      rw [if_pos ht]
    · rw [if_neg (by omega)]
/-- The map of nodes. -/
theorem M23.put0 (h : M23 l w0 w pt bm m B bn bx g gn gb nk j n0 n1 nz np aL cL a1 c1 R f O) : ∃ O', M23 l w0 (putM w bn gn (lay23 l gn)) pt bm m B bn bx g (gn + 1) gb nk j n0 n1 nz np aL cL a1 c1 R f O' := by
  obtain ⟨O', k⟩ := h.mt.put (q := 0) (by omega) (gn : Int) (lay23 l gn) (M' := M23m l bn bx g (gn + 1) gb) (fun r hr => ⟨by rcases r with _ | r <;> rfl, fun y => by
    rcases r with _ | r
    · rw [if_pos rfl]
      show m23n l (gn + 1) y = if y = (gn : Int) then _ else m23n l gn y
      unfold m23n
      by_cases c : y = (gn : Int)
      · subst c; rw [if_pos ⟨by omega, by omega⟩, if_pos rfl, Int.toNat_natCast]
      · rw [if_neg c]
        by_cases c2 : 0 ≤ y ∧ y < (gn : Int)
        · rw [if_pos ⟨by omega, by omega⟩, if_pos c2]
        · rw [if_neg (by omega), if_neg c2]
    · rw [if_neg (by omega)]; rfl⟩)
  exact ⟨O', k, h.f1, h.m2, h.pc⟩
/-- The map of boxes. -/
theorem M23.put1 (h : M23 l w0 w pt bm m B bn bx g gn gb nk j n0 n1 nz np aL cL a1 c1 R f O) (ht : there23 l gb = true) : ∃ O', M23 l w0 (putM w bx gb (.agg (bxV l gb (g gb).1).toArray)) pt bm m B bn bx g gn (gb + 1) nk j n0 n1 nz np aL cL a1 c1 R f O' := by
  obtain ⟨O', k⟩ := h.mt.put (q := 1) (by omega) (gb : Int) (.agg (bxV l gb (g gb).1).toArray) (M' := M23m l bn bx g gn (gb + 1)) (fun r hr => ⟨by rcases r with _ | r <;> rfl, fun y => by
    rcases r with _ | r
    · rw [if_neg (by omega)]; rfl
    · obtain rfl : r = 0 := by omega
      rw [if_pos rfl]
      show m23b l g (gb + 1) y = if y = (gb : Int) then _ else m23b l g gb y
      unfold m23b
      by_cases c : y = (gb : Int)
      · subst c; rw [if_pos ⟨by omega, by omega, by rw [Int.toNat_natCast]; exact ht⟩, if_pos rfl, Int.toNat_natCast]
      · rw [if_neg c]
        by_cases c2 : 0 ≤ y ∧ y < (gb : Int) ∧ there23 l y.toNat = true
        · rw [if_pos ⟨by omega, by omega, c2.2.2⟩, if_pos c2]
        · rw [if_neg (fun k => c2 ⟨k.1, by omega, k.2.2⟩), if_neg c2]⟩)
  exact ⟨O', k, h.f1, h.m2, h.pc⟩
/-- The blocks of one more text told. -/
theorem M23.told (h : M23 l w0 w pt bm m B bn bx g gn gb nk j n0 n1 nz np aL cL a1 c1 R f O) (x : Nat × Nat) (h1 : n1 ≤ np) (h2 : gb ≤ np) (hx : tx23 l np = true → ∃ q r, 2 ≤ q ∧ q < m ∧ 2 ≤ r ∧ r < m ∧ B q = ⟨x.1, pieceC l np, 110⟩ ∧ B r = ⟨x.2, pieceC l np, 41⟩) :
    M23 l w0 w pt bm m B bn bx (upd g np x) gn gb nk j n0 n1 nz (np + 1) aL cL a1 c1 R f O := by
  refine ⟨h.mt.maps (fun q hq => ⟨by rcases q with _ | q <;> rfl, fun y => ?_⟩), ?_, h.m2, fun k hk ht => ?_⟩
  · rcases q with _ | q
    · rfl
    · show m23b l (upd g np x) gb y = m23b l g gb y
      unfold m23b
      by_cases c : 0 ≤ y ∧ y < (gb : Int) ∧ there23 l y.toNat = true
      · rw [if_pos c, if_pos c, upd_other _ _ (by omega)]
      · rw [if_neg c, if_neg c]
  · rw [h.f1]
    congr 1
    exact rng_congr fun k hk => by unfold wV; rw [upd_other _ _ (by omega)]
  · by_cases c : k = np
    · subst c; rw [upd_same]; exact hx ht
    · rw [upd_other _ _ c]; exact h.pc k (by omega) ht
end
def b23 (p2 p4 pt bn bx i : Nat) (aL : Option Addr) (cL : Nat) (a1 : Option Addr) (c1 : Nat) (B : Nat → BlkT) : Prop := B 0 = ⟨p2, z23, 32⟩ ∧ B 1 = ⟨p4, w23C pt bn bx (.slice aL i cL) (.slice a1 i c1), 32⟩
/-- What made answers. -/
def Made23 (l : List N23) (w : World) (e : Ending) (w' : World) : Prop := ∃ pt bm bn bx m B g aL cL a1 c1 R f O, e = .returned (.tuple #[.agg (w23C pt bn bx (.slice aL (cnt23 l) cL) (.slice a1 (cnt23 l) c1)), .bool true]) ∧ M23 l w w' pt bm m B bn bx g (cnt23 l) (cnt23 l) (cnt23 l) (cnt23 l) (cnt23 l) (cnt23 l) (cnt23 l) (cnt23 l) aL cL a1 c1 R f O
end Go.Proofs.Ytjcbphhemmdnjaa
