/- law24 (offset): the world made, walked. -/
import Derived.Test.YtjcbphhemmdnjaaWdC
import Derived.Test.YtjcbphhemmdnjaaPt
import Derived.Test.YtjcbphhemmdnjaaFix
import Derived.Test.YtjcbphhemmdnjaaTree
import Derived.Deep.DeepCutAuto
namespace Go.Proofs.Ytjcbphhemmdnjaa
open Go Go.RowKit
set_option linter.unusedSimpArgs false
set_option linter.unusedVariables false
-- below_from_drew
attribute [local go_sem] ov_cell_same ov_cell_other ov_frozen_same ov_frozen_other ov_size ov_setCell_same ov_setCell_other cell_alloc_old frozen_alloc_old setCell_alloc_old old_alloc old_ov old_drew old_drewN old_setCell
attribute [local go_sem ↓] run_max2 run_min2
/-- A node of the statement. -/
structure N24 where
  p : Int
  x : Int
  y : Int
  bd : Int
  sc : Bool
  b0 : Int
  b1 : Int
  hid : Bool
def n24Z : N24 := ⟨0, 0, 0, 0, false, 0, 0, false⟩
def nd24 (l : List N24) (i : Nat) : N24 := l.getD i n24Z
def cnt24 (l : List N24) : Nat := max 1 (min l.length 16)
def pa24 (l : List N24) (i : Nat) : Nat := if i = 0 then 0 else ((nd24 l i).p % i).toNat
def In32 (x : Int) : Prop := -2147483648 ≤ x ∧ x ≤ 2147483647
structure Ok24 (q : N24) : Prop where
  p : 0 ≤ q.p ∧ q.p ≤ 255
  x : In32 q.x
  y : In32 q.y
  bd : 0 ≤ q.bd ∧ q.bd ≤ 255
  b0 : In32 q.b0
  b1 : In32 q.b1
def N24sAt (w : World) (a : Option Addr) (l : List N24) : Prop := 0 < l.length → ∃ b off, a = some ⟨b, off, none⟩ ∧ b < w.heap.size ∧ ∀ i, i < l.length → Ok24 (l.getD i n24Z) ∧ w.cell? ⟨b, off + i * 8, none⟩ = some (.int .u8 (l.getD i n24Z).p) ∧ w.cell? ⟨b, off + i * 8 + 1, none⟩ = some (.int .i32 (l.getD i n24Z).x) ∧ w.cell? ⟨b, off + i * 8 + 2, none⟩ = some (.int .i32 (l.getD i n24Z).y) ∧ w.cell? ⟨b, off + i * 8 + 3, none⟩ = some (.int .u8 (l.getD i n24Z).bd) ∧
  w.cell? ⟨b, off + i * 8 + 4, none⟩ = some (.bool (l.getD i n24Z).sc) ∧ w.cell? ⟨b, off + i * 8 + 5, none⟩ = some (.int .i32 (l.getD i n24Z).b0) ∧ w.cell? ⟨b, off + i * 8 + 6, none⟩ = some (.int .i32 (l.getD i n24Z).b1) ∧ w.cell? ⟨b, off + i * 8 + 7, none⟩ = some (.bool (l.getD i n24Z).hid)
/-- A node of the document's world, without a style: its kids, its parent. -/
def nodeL (kv : Value) (par : Int) : List Value := [.int .i64 0, .int .i64 0, .int .i64 0, .int .i64 0, .int .i64 0, .int .i64 0, .int .i64 0, .int .i64 0, .int .i64 0, .int .i64 0, .int .i64 0, .int .i64 0, .int .i64 0, .int .i64 0, .int .i64 0, .int .i64 0, .int .i64 0, .int .i64 0, .int .i64 0, .int .i64 0, .int .i64 0, .int .i64 0, .int .i64 0, .int .i64 0, .int .i64 0, .int .i64 0, .int .i64 0, .int .i64 0, .int .i64 0, .int .i64 0, .int .i64 0, .int .i64 0, .int .i64 0, .int .i64 0, .int .i64 0, .int .i64 0, .int .i64 0, .int .i64 0, .int .i64 0, .int .i64 0, .int .i64 0, .int .i64 0, .int .i64 0, .int .i64 0, .int .i64 0, .int .i64 0, .int .i64 0, .int .i64 0, .bool false, .int .i64 0, .int .i64 0, .int .i64 0, .int .i64 0, .int .i64 0, .int .i64 0, .int .i64 0, .int .i64 0, .int .i64 0, .int .i64 0, .int .i64 0, .int .i64 0, .bool false, .slice none 0 0, kv, .int .i64 par]
theorem nodeL_len (kv : Value) (par : Int) : (nodeL kv par).length = 65 := rfl
def box22 (there : Bool) (x y b : Int) : List Value := [.bool there, .int .i64 x, .int .i64 y, .int .i64 0, .int .i64 0, .int .i64 b, .int .i64 (b + 1), .int .i64 (b + 2), .int .i64 (b + 3), .int .i64 0, .int .i64 0, .int .i64 0, .int .i64 0, .int .i64 0, .int .i64 0, .int .i64 0, .int .i64 0, .slice none 0 0]
def boxP (x y b : Int) : List Value := [.int .i64 x, .int .i64 y, .int .i64 0, .int .i64 0, .int .i64 b, .int .i64 (b + 1), .int .i64 (b + 2), .int .i64 (b + 3), .int .i64 0, .int .i64 0, .int .i64 0, .int .i64 0, .int .i64 0, .int .i64 0, .int .i64 0, .int .i64 0, .slice none 0 0]
def m24a (l : List N24) (i : Nat) : Int → Option Value := fun k => if 0 ≤ k ∧ k < i ∧ (nd24 l k.toNat).hid = false then some (.agg (boxP (nd24 l k.toNat).x (nd24 l k.toNat).y (nd24 l k.toNat).bd).toArray) else none
def m24b (l : List N24) (i : Nat) : Int → Option Value := fun k => if 0 ≤ k ∧ k < i ∧ (nd24 l k.toNat).sc = true then some (.agg #[.int .i64 (nd24 l k.toNat).b0, .int .i64 (nd24 l k.toNat).b1]) else none
def blk (l : List BlkT) : Nat → BlkT := fun q => l.getD q ⟨0, #[], 0⟩
def w24C (pt bx sc : Nat) (vL vl vs vb : Value) : Array Value := #[.pointer (some ⟨pt, 0, none⟩), .map (some bx), .map (some sc), vL, .int .i64 0, .int .i64 0, vl, vs, vb]
def z24 : Array Value := #[.pointer none, .map none, .map none, .slice none 0 0, .int .i64 0, .int .i64 0, .slice none 0 0, .slice none 0 0, .slice none 0 0]
def c24 (q : N24) : Array Value := #[.int .u8 q.p, .int .i32 q.x, .int .i32 q.y, .int .u8 q.bd, .bool q.sc, .int .i32 q.b0, .int .i32 q.b1, .bool q.hid]
/-- Where the maker stands: nk rows of kids, the kids of the first j, n0 .. n3 elements in the rows, gb and gs in the maps. -/
structure M24 (l : List N24) (w0 w : World) (pt bm m : Nat) (B : Nat → BlkT) (bx sc : Nat) (nk j n0 n1 n2 n3 gb gs : Nat) (aL : Option Addr) (cL : Nat) (al : Option Addr) (cl : Nat) (aS : Option Addr) (cS : Nat) (ab : Option Addr) (cb : Nat) (R : Rows) (f : Nat → RowT) (O : Nat → Prop) : Prop where
  wd : Wd w0 w pt bm R ((max j 1 : Nat) : Int) (4 + nk) f m B 2 (fun q => if q = 0 then ⟨bx, m24a l gb⟩ else ⟨sc, m24b l gs⟩) O
  pt : Pt (pa24 l) (max j 1) R
  f0 : f 0 = ⟨68, 65, .slice aL n0 cL, n0, rng (fun k => nodeL (f (4 + k)).v (pa24 l k)) n0⟩
  f1 : f 1 = ⟨44, 18, .slice al n1 cl, n1, rng (fun k => box22 (!(nd24 l k).hid) (nd24 l k).x (nd24 l k).y (nd24 l k).bd) n1⟩
  f2 : f 2 = ⟨4, 1, .slice aS n2 cS, n2, rng (fun k => [.bool (nd24 l k).sc]) n2⟩
  f3 : f 3 = ⟨39, 2, .slice ab n3 cb, n3, rng (fun k => [.int .i64 (nd24 l k).b0, .int .i64 (nd24 l k).b1]) n3⟩
  fk : ∀ k, k < nk → ∃ v, f (4 + k) = ⟨3, 1, v, (kidsZ (pa24 l) j k).length, intVals (kidsZ (pa24 l) j k)⟩
section
variable {l : List N24} {w0 w w' : World} {pt bm m bx sc nk j n0 n1 n2 n3 gb gs cL cl cS cb : Nat} {B : Nat → BlkT} {aL al aS ab : Option Addr} {R : Rows} {f : Nat → RowT} {O : Nat → Prop}
theorem M24.below (h : M24 l w0 w pt bm m B bx sc nk j n0 n1 n2 n3 gb gs aL cL al cl aS cS ab cb R f O) (hb : Below w.heap.size w w') : M24 l w0 w' pt bm m B bx sc nk j n0 n1 n2 n3 gb gs aL cL al cl aS cS ab cb R f (plusN O w w') :=
  ⟨h.wd.below hb, h.pt, h.f0, h.f1, h.f2, h.f3, h.fk⟩
theorem M24.types (h : M24 l w0 w pt bm m B bx sc nk j n0 n1 n2 n3 gb gs aL cL al cl aS cS ab cb R f O) {T : TypeId} (h0 : 68 ≠ T) (h1 : 44 ≠ T) (h2 : 4 ≠ T) (h3 : 39 ≠ T) (h4 : 3 ≠ T) : ∀ r, r < 4 + nk → (f r).T ≠ T := fun r hr => by
  rcases r with _ | _ | _ | _ | r
  · rw [h.f0]; exact h0
  · rw [h.f1]; exact h1
  · rw [h.f2]; exact h2
  · rw [h.f3]; exact h3
  · obtain ⟨v, e⟩ := h.fk r (by omega)
    rw [show r + 1 + 1 + 1 + 1 = 4 + r by omega, e]; exact h4
theorem M24.st (h : M24 l w0 w pt bm m B bx sc nk j n0 n1 n2 n3 gb gs aL cL al cl aS cS ab cb R f O) {q : Nat} (hq : q < m) (cs : Array Value) {B' : Nat → BlkT} (e : ∀ r, r < m → B' r = upd B q ⟨(B q).b, cs, (B q).T⟩ r) : ∃ O', M24 l w0 (ov w (B q).b cs (B q).T) pt bm m B' bx sc nk j n0 n1 n2 n3 gb gs aL cL al cl aS cS ab cb R f O' :=
  ⟨_, (h.wd.st hq cs).blks e (Nat.le_refl _), h.pt, h.f0, h.f1, h.f2, h.f3, h.fk⟩
theorem M24.alloc (h : M24 l w0 w pt bm m B bx sc nk j n0 n1 n2 n3 gb gs aL cL al cl aS cS ab cb R f O) (cs : Array Value) (T : TypeId) (hT : ∀ r, r < 4 + nk → (f r).T ≠ T) {B' : Nat → BlkT} (e : ∀ r, r < m + 1 → B' r = upd B m ⟨w.heap.size, cs, T⟩ r) : ∃ O', M24 l w0 (w.alloc (.cells cs T)) pt bm (m + 1) B' bx sc nk j n0 n1 n2 n3 gb gs aL cL al cl aS cS ab cb R f O' :=
  ⟨_, (h.wd.alloc cs T hT).blks e (Nat.le_refl _), h.pt, h.f0, h.f1, h.f2, h.f3, h.fk⟩
theorem M24.blks (h : M24 l w0 w pt bm m B bx sc nk j n0 n1 n2 n3 gb gs aL cL al cl aS cS ab cb R f O) {m' : Nat} {B' : Nat → BlkT} (e : ∀ q, q < m' → B' q = B q) (hm : m' ≤ m) : M24 l w0 w pt bm m' B' bx sc nk j n0 n1 n2 n3 gb gs aL cL al cl aS cS ab cb R f O :=
  ⟨h.wd.blks e hm, h.pt, h.f0, h.f1, h.f2, h.f3, h.fk⟩
/-- A node's kids' row, still without kids. -/
theorem M24.more (h : M24 l w0 w pt bm m B bx sc nk (nk + 1) n0 n1 n2 n3 gb gs aL cL al cl aS cS ab cb R f O) (hT : ∀ q, q < m → 3 ≠ (B q).T) (hp : ∀ k, 0 < k → k ≤ nk → pa24 l k < k) (hn : n0 ≤ nk) : ∃ f', f' (4 + nk) = ⟨3, 1, .slice none 0 0, 0, []⟩ ∧ M24 l w0 w pt bm m B bx sc (nk + 1) (nk + 1) n0 n1 n2 n3 gb gs aL cL al cl aS cS ab cb R f' O := by
  refine ⟨upd f (4 + nk) ⟨3, 1, .slice none 0 0, 0, []⟩, upd_same _ _ _, h.wd.row 3 1 hT, h.pt, ?_, by rw [upd_other _ _ (by omega)]; exact h.f1, by rw [upd_other _ _ (by omega)]; exact h.f2, by rw [upd_other _ _ (by omega)]; exact h.f3, fun k hk => ?_⟩
  · rw [upd_other _ _ (by omega), h.f0]
    congr 1
    exact rng_congr fun k hk => by rw [upd_other _ _ (by omega)]
  · by_cases c : k = nk
    · subst c
      have e : kidsZ (pa24 l) (k + 1) k = [] := kidsZ_none fun q h1 h2 => by have := hp q h1 (by omega); omega
      exact ⟨_, by rw [upd_same, e]; rfl⟩
    · rw [upd_other _ _ (by omega)]
      exact h.fk k (by omega)
/-- The rows appended to. -/
theorem M24.app0 (h : M24 l w0 w pt bm m B bx sc nk j n0 n1 n2 n3 gb gs aL cL al cl aS cS ab cb R f O) {a' : Option Addr} {c' : Nat} (h1 : w'.ownsRow w0.heap.size 68 65 (.slice a' (n0 + 1) c') (n0 + 1) (rng (fun k => nodeL (f (4 + k)).v (pa24 l k)) n0 ++ nodeL (f (4 + n0)).v (pa24 l n0))) (hg : w.grownBy w' (Value.slice aL n0 cL).ownBlock)
    (hid : (Value.slice a' (n0 + 1) c').ownBlock = (Value.slice aL n0 cL).ownBlock ∧ w'.heap.size = w.heap.size ∨ (Value.slice a' (n0 + 1) c').ownBlock = some w.heap.size ∧ w.heap.size < w'.heap.size) : ∃ f' O', (∀ k, f' (4 + k) = f (4 + k)) ∧ M24 l w0 w' pt bm m B bx sc nk j (n0 + 1) n1 n2 n3 gb gs a' c' al cl aS cS ab cb R f' O' := by
  have W := h.wd.app (q := 0) (v' := .slice a' (n0 + 1) c') (n' := n0 + 1) (by omega) (by rw [h.f0]; exact h1) (by rw [h.f0]; exact hg) (by rw [h.f0]; exact hid)
  refine ⟨_, _, fun k => upd_other _ _ (by omega), W, h.pt, ?_, by rw [upd_other _ _ (by omega)]; exact h.f1, by rw [upd_other _ _ (by omega)]; exact h.f2, by rw [upd_other _ _ (by omega)]; exact h.f3, fun k hk => by rw [upd_other _ _ (by omega)]; exact h.fk k hk⟩
  rw [upd_same, h.f0]
  congr 1
  show rng (fun k => nodeL (f (4 + k)).v (pa24 l k)) (n0 + 1) = _
  exact rng_congr fun k hk => by rw [upd_other _ _ (by omega)]
theorem M24.app1 (h : M24 l w0 w pt bm m B bx sc nk j n0 n1 n2 n3 gb gs aL cL al cl aS cS ab cb R f O) {a' : Option Addr} {c' : Nat} (h1 : w'.ownsRow w0.heap.size 44 18 (.slice a' (n1 + 1) c') (n1 + 1) (rng (fun k => box22 (!(nd24 l k).hid) (nd24 l k).x (nd24 l k).y (nd24 l k).bd) n1 ++ box22 (!(nd24 l n1).hid) (nd24 l n1).x (nd24 l n1).y (nd24 l n1).bd)) (hg : w.grownBy w' (Value.slice al n1 cl).ownBlock)
    (hid : (Value.slice a' (n1 + 1) c').ownBlock = (Value.slice al n1 cl).ownBlock ∧ w'.heap.size = w.heap.size ∨ (Value.slice a' (n1 + 1) c').ownBlock = some w.heap.size ∧ w.heap.size < w'.heap.size) : ∃ f' O', (∀ k, f' (4 + k) = f (4 + k)) ∧ M24 l w0 w' pt bm m B bx sc nk j n0 (n1 + 1) n2 n3 gb gs aL cL a' c' aS cS ab cb R f' O' := by
  have W := h.wd.app (q := 1) (v' := .slice a' (n1 + 1) c') (n' := n1 + 1) (by omega) (by rw [h.f1]; exact h1) (by rw [h.f1]; exact hg) (by rw [h.f1]; exact hid)
  refine ⟨_, _, fun k => upd_other _ _ (by omega), W, h.pt, ?_, ?_, by rw [upd_other _ _ (by omega)]; exact h.f2, by rw [upd_other _ _ (by omega)]; exact h.f3, fun k hk => by rw [upd_other _ _ (by omega)]; exact h.fk k hk⟩
  · rw [upd_other _ _ (by omega), h.f0]
    congr 1
    exact rng_congr fun k hk => by rw [upd_other _ _ (by omega)]
  · rw [upd_same, h.f1]; rfl
theorem M24.app2 (h : M24 l w0 w pt bm m B bx sc nk j n0 n1 n2 n3 gb gs aL cL al cl aS cS ab cb R f O) {a' : Option Addr} {c' : Nat} (h1 : w'.ownsRow w0.heap.size 4 1 (.slice a' (n2 + 1) c') (n2 + 1) (rng (fun k => [.bool (nd24 l k).sc]) n2 ++ [.bool (nd24 l n2).sc])) (hg : w.grownBy w' (Value.slice aS n2 cS).ownBlock)
    (hid : (Value.slice a' (n2 + 1) c').ownBlock = (Value.slice aS n2 cS).ownBlock ∧ w'.heap.size = w.heap.size ∨ (Value.slice a' (n2 + 1) c').ownBlock = some w.heap.size ∧ w.heap.size < w'.heap.size) : ∃ f' O', (∀ k, f' (4 + k) = f (4 + k)) ∧ M24 l w0 w' pt bm m B bx sc nk j n0 n1 (n2 + 1) n3 gb gs aL cL al cl a' c' ab cb R f' O' := by
  have W := h.wd.app (q := 2) (v' := .slice a' (n2 + 1) c') (n' := n2 + 1) (by omega) (by rw [h.f2]; exact h1) (by rw [h.f2]; exact hg) (by rw [h.f2]; exact hid)
  refine ⟨_, _, fun k => upd_other _ _ (by omega), W, h.pt, ?_, by rw [upd_other _ _ (by omega)]; exact h.f1, ?_, by rw [upd_other _ _ (by omega)]; exact h.f3, fun k hk => by rw [upd_other _ _ (by omega)]; exact h.fk k hk⟩
  · rw [upd_other _ _ (by omega), h.f0]
    congr 1
    exact rng_congr fun k hk => by rw [upd_other _ _ (by omega)]
  · rw [upd_same, h.f2]; rfl
theorem M24.app3 (h : M24 l w0 w pt bm m B bx sc nk j n0 n1 n2 n3 gb gs aL cL al cl aS cS ab cb R f O) {a' : Option Addr} {c' : Nat} (h1 : w'.ownsRow w0.heap.size 39 2 (.slice a' (n3 + 1) c') (n3 + 1) (rng (fun k => [.int .i64 (nd24 l k).b0, .int .i64 (nd24 l k).b1]) n3 ++ [.int .i64 (nd24 l n3).b0, .int .i64 (nd24 l n3).b1])) (hg : w.grownBy w' (Value.slice ab n3 cb).ownBlock)
    (hid : (Value.slice a' (n3 + 1) c').ownBlock = (Value.slice ab n3 cb).ownBlock ∧ w'.heap.size = w.heap.size ∨ (Value.slice a' (n3 + 1) c').ownBlock = some w.heap.size ∧ w.heap.size < w'.heap.size) : ∃ f' O', (∀ k, f' (4 + k) = f (4 + k)) ∧ M24 l w0 w' pt bm m B bx sc nk j n0 n1 n2 (n3 + 1) gb gs aL cL al cl aS cS a' c' R f' O' := by
  have W := h.wd.app (q := 3) (v' := .slice a' (n3 + 1) c') (n' := n3 + 1) (by omega) (by rw [h.f3]; exact h1) (by rw [h.f3]; exact hg) (by rw [h.f3]; exact hid)
  refine ⟨_, _, fun k => upd_other _ _ (by omega), W, h.pt, ?_, by rw [upd_other _ _ (by omega)]; exact h.f1, by rw [upd_other _ _ (by omega)]; exact h.f2, ?_, fun k hk => by rw [upd_other _ _ (by omega)]; exact h.fk k hk⟩
  · rw [upd_other _ _ (by omega), h.f0]
    congr 1
    exact rng_congr fun k hk => by rw [upd_other _ _ (by omega)]
  · rw [upd_same, h.f3]; rfl
/-- The maps written, or passed by. -/
theorem M24.put0 (h : M24 l w0 w pt bm m B bx sc nk j n0 n1 n2 n3 gb gs aL cL al cl aS cS ab cb R f O) (hh : (nd24 l gb).hid = false) : ∃ O', M24 l w0 (putM w bx gb (.agg (boxP (nd24 l gb).x (nd24 l gb).y (nd24 l gb).bd).toArray)) pt bm m B bx sc nk j n0 n1 n2 n3 (gb + 1) gs aL cL al cl aS cS ab cb R f O' := by
  refine ⟨_, (h.wd.put (q := 0) (by omega) gb (.agg (boxP (nd24 l gb).x (nd24 l gb).y (nd24 l gb).bd).toArray)).maps (fun q hq => ?_), h.pt, h.f0, h.f1, h.f2, h.f3, h.fk⟩
  rcases q with _ | _ | q
  · refine ⟨rfl, fun x => ?_⟩
    show m24a l (gb + 1) x = if x = gb then some _ else m24a l gb x
    by_cases c : x = gb
    · subst c; unfold m24a; rw [if_pos rfl, if_pos ⟨by omega, by omega, by simpa using hh⟩]; simp
    · rw [if_neg c]; unfold m24a
      by_cases c2 : 0 ≤ x ∧ x < gb ∧ (nd24 l x.toNat).hid = false
      · rw [if_pos c2, if_pos ⟨c2.1, by omega, c2.2.2⟩]
      · rw [if_neg c2, if_neg (fun q => c2 ⟨q.1, by have := q.2.1; omega, q.2.2⟩)]
  · exact ⟨rfl, fun x => rfl⟩
  · omega
theorem M24.pass0 (h : M24 l w0 w pt bm m B bx sc nk j n0 n1 n2 n3 gb gs aL cL al cl aS cS ab cb R f O) (hh : (nd24 l gb).hid = true) : M24 l w0 w pt bm m B bx sc nk j n0 n1 n2 n3 (gb + 1) gs aL cL al cl aS cS ab cb R f O := by
  refine ⟨h.wd.maps (fun q hq => ?_), h.pt, h.f0, h.f1, h.f2, h.f3, h.fk⟩
  rcases q with _ | _ | q
  · refine ⟨rfl, fun x => ?_⟩
    show m24a l (gb + 1) x = m24a l gb x
    unfold m24a
    by_cases c2 : 0 ≤ x ∧ x < gb ∧ (nd24 l x.toNat).hid = false
    · rw [if_pos c2, if_pos ⟨c2.1, by omega, c2.2.2⟩]
    · rw [if_neg c2, if_neg (fun q => c2 ⟨q.1, by
        by_cases c : x = gb
        · subst c; have := q.2.2; rw [show (gb : Int).toNat = gb by omega, hh] at this; cases this
        · have := q.2.1; omega, q.2.2⟩)]
  · exact ⟨rfl, fun x => rfl⟩
  · omega
theorem M24.put1 (h : M24 l w0 w pt bm m B bx sc nk j n0 n1 n2 n3 gb gs aL cL al cl aS cS ab cb R f O) (hh : (nd24 l gs).sc = true) : ∃ O', M24 l w0 (putM w sc gs (.agg #[.int .i64 (nd24 l gs).b0, .int .i64 (nd24 l gs).b1])) pt bm m B bx sc nk j n0 n1 n2 n3 gb (gs + 1) aL cL al cl aS cS ab cb R f O' := by
  refine ⟨_, (h.wd.put (q := 1) (by omega) gs (.agg #[.int .i64 (nd24 l gs).b0, .int .i64 (nd24 l gs).b1])).maps (fun q hq => ?_), h.pt, h.f0, h.f1, h.f2, h.f3, h.fk⟩
  rcases q with _ | _ | q
  · exact ⟨rfl, fun x => rfl⟩
  · refine ⟨rfl, fun x => ?_⟩
    show m24b l (gs + 1) x = if x = gs then some _ else m24b l gs x
    by_cases c : x = gs
    · subst c; unfold m24b; rw [if_pos rfl, if_pos ⟨by omega, by omega, by simpa using hh⟩]; simp
    · rw [if_neg c]; unfold m24b
      by_cases c2 : 0 ≤ x ∧ x < gs ∧ (nd24 l x.toNat).sc = true
      · rw [if_pos c2, if_pos ⟨c2.1, by omega, c2.2.2⟩]
      · rw [if_neg c2, if_neg (fun q => c2 ⟨q.1, by have := q.2.1; omega, q.2.2⟩)]
  · omega
theorem M24.pass1 (h : M24 l w0 w pt bm m B bx sc nk j n0 n1 n2 n3 gb gs aL cL al cl aS cS ab cb R f O) (hh : (nd24 l gs).sc = false) : M24 l w0 w pt bm m B bx sc nk j n0 n1 n2 n3 gb (gs + 1) aL cL al cl aS cS ab cb R f O := by
  refine ⟨h.wd.maps (fun q hq => ?_), h.pt, h.f0, h.f1, h.f2, h.f3, h.fk⟩
  rcases q with _ | _ | q
  · exact ⟨rfl, fun x => rfl⟩
  · refine ⟨rfl, fun x => ?_⟩
    show m24b l (gs + 1) x = m24b l gs x
    unfold m24b
    by_cases c2 : 0 ≤ x ∧ x < gs ∧ (nd24 l x.toNat).sc = true
    · rw [if_pos c2, if_pos ⟨c2.1, by omega, c2.2.2⟩]
    · rw [if_neg c2, if_neg (fun q => c2 ⟨q.1, by
        by_cases c : x = gs
        · subst c; have := q.2.2; rw [show (gs : Int).toNat = gs by omega, hh] at this; cases this
        · have := q.2.1; omega, q.2.2⟩)]
  · omega
end
/-- The two blocks of its results. -/
def b24 (p2 p4 pt bx sc i : Nat) (aL : Option Addr) (cL : Nat) (al : Option Addr) (cl : Nat) (aS : Option Addr) (cS : Nat) (ab : Option Addr) (cb : Nat) : Nat → BlkT := blk [⟨p2, z24, 82⟩, ⟨p4, w24C pt bx sc (.slice aL i cL) (.slice al i cl) (.slice aS i cS) (.slice ab i cb), 82⟩]
/-- Once the tree and the maps are made. -/
theorem m24_start {l : List N24} {w u : World} {pt bm : Nat} (ht : TreeAt u pt bm (fun b => (w.alloc (.cells z24 82)).heap.size ≤ b) [(0, 0)] 1) (h1 : (w.alloc (.cells z24 82)).heap.size ≤ pt) (h2 : (w.alloc (.cells z24 82)).heap.size ≤ bm) (hb : Below (w.alloc (.cells z24 82)).heap.size (w.alloc (.cells z24 82)) u) :
    ∃ f O, M24 l w (((u.alloc (.map #[] 0)).alloc (.map #[] 0)).alloc (.cells (w24C pt u.heap.size (u.heap.size + 1) (.slice none 0 0) (.slice none 0 0) (.slice none 0 0) (.slice none 0 0)) 82)) pt bm 2 (b24 w.heap.size (u.heap.size + 1 + 1) pt u.heap.size (u.heap.size + 1) 0 none 0 none 0 none 0 none 0) u.heap.size (u.heap.size + 1) 0 0 0 0 0 0 0 0 none 0 none 0 none 0 none 0 [(0, 0)] f O := by
  rw [World.size_alloc] at h1 h2
  have hs : w.heap.size + 1 ≤ u.heap.size := by have := hb.size; rw [World.size_alloc] at this; exact this
  have hp : Has u w.heap.size z24 82 := has_below hb (has_new rfl)
  have H0 := Wd.begin2 (w0 := w) (T := 82) (cs := z24) ht (by simp) hp h1 h2 (((Below.refl w.heap.size w).alloc (Nat.le_refl _) _).trans (hb.mono (by simp))) (fun _ => ⟨0, 0, .slice none 0 0, 0, []⟩) (fun _ => ⟨0, fun _ => none⟩)
  have H1 := H0.newMap
  have H2 := H1.newMap
  have H3 := H2.alloc (w24C pt u.heap.size (u.heap.size + 1) (.slice none 0 0) (.slice none 0 0) (.slice none 0 0) (.slice none 0 0)) 82 (fun r hr => by omega)
  have H4 := H3.blks (m' := 2) (B' := blk [⟨w.heap.size, z24, 82⟩, ⟨u.heap.size + 1 + 1, w24C pt u.heap.size (u.heap.size + 1) (.slice none 0 0) (.slice none 0 0) (.slice none 0 0) (.slice none 0 0), 82⟩]) (fun q hq => by
    rcases q with _ | _ | q
    · rfl
    · show _ = (⟨((u.alloc (.map #[] 0)).alloc (.map #[] 0)).heap.size, _, _⟩ : BlkT)
      rw [World.size_alloc, World.size_alloc]; rfl
    · omega) (Nat.le_refl _)
  have H5 := H4.maps (M' := fun q => if q = 0 then ⟨u.heap.size, m24a l 0⟩ else ⟨u.heap.size + 1, m24b l 0⟩) (fun q hq => by
    rcases q with _ | _ | q
    · exact ⟨rfl, fun x => by show m24a l 0 x = none; unfold m24a; rw [if_neg (by omega)]⟩
    · exact ⟨by show u.heap.size + 1 = (u.alloc (.map #[] 0)).heap.size; simp, fun x => by show m24b l 0 x = none; unfold m24b; rw [if_neg (by omega)]⟩
    · omega)
  have hT : ∀ q, q < 2 → (blk [⟨w.heap.size, z24, 82⟩, ⟨u.heap.size + 1 + 1, w24C pt u.heap.size (u.heap.size + 1) (.slice none 0 0) (.slice none 0 0) (.slice none 0 0) (.slice none 0 0), 82⟩] q).T = 82 := fun q hq => by
    rcases q with _ | _ | q
    · rfl
    · rfl
    · omega
  have H6 := (((H5.row 68 65 (fun q hq => by rw [hT q hq]; decide)).row 44 18 (fun q hq => by rw [hT q hq]; decide)).row 4 1 (fun q hq => by rw [hT q hq]; decide)).row 39 2 (fun q hq => by rw [hT q hq]; decide)
  exact ⟨_, _, H6, Pt.one _, rfl, rfl, rfl, rfl, fun k hk => by omega⟩
theorem ok24_nd {w : World} {a : Option Addr} {l : List N24} (h : N24sAt w a l) (i : Nat) : Ok24 (nd24 l i) := by
  by_cases c : i < l.length
  · obtain ⟨b, off, _, _, h3⟩ := h (by omega)
    exact (h3 i c).1
  · have : nd24 l i = n24Z := by unfold nd24; simp [List.getD_eq_getElem?_getD, show l.length ≤ i by omega]
    rw [this]
    exact ⟨by unfold n24Z; simp, by unfold n24Z In32; simp, by unfold n24Z In32; simp, by unfold n24Z; simp, by unfold n24Z In32; simp, by unfold n24Z In32; simp⟩
theorem pa24_lt (l : List N24) {i : Nat} (h : 0 < i) : pa24 l i < i := by
  unfold pa24
  rw [if_neg (by omega)]
  have h1 := Int.emod_lt_of_pos (nd24 l i).p (show (0 : Int) < i by omega)
  have h2 := Int.emod_nonneg (nd24 l i).p (show (i : Int) ≠ 0 by omega)
  omega
theorem pa24_rem {l : List N24} {i : Nat} (h : 0 < i) (hp : 0 ≤ (nd24 l i).p) : (nd24 l i).p.tmod (i : Int) = (pa24 l i : Int) := by
  unfold pa24
  rw [if_neg (by omega), Int.tmod_eq_emod_of_nonneg hp]
  have h2 := Int.emod_nonneg (nd24 l i).p (show (i : Int) ≠ 0 by omega)
  omega
/-- A node hung below its parent, in the document's world. -/
theorem m24_kid {l : List N24} {w0 X Y : World} {pt bm m bx sc i q gL cL cl cS cb nk : Nat} {B : Nat → BlkT} {al aS ab : Option Addr} {R R' : Rows} {f : Nat → RowT} {O O' : Nat → Prop} {v' : Value} (h : M24 l w0 X pt bm m B bx sc i i i i i i i i (some ⟨gL, 0, none⟩) cL al cl aS cS ab cb R f O) (c0 : 0 < i) (hq : pa24 l i = q) (hlt : q < i)
    (W : Wd w0 Y pt bm R' ((i + 1 : Nat) : Int) (4 + i) (upd (upd f (4 + q) ⟨3, 1, v', nk + 1, intVals (kidsZ (pa24 l) i q) ++ [.int .i64 i]⟩) 0 ⟨68, 65, .slice (some ⟨gL, 0, none⟩) i cL, i, (rng (fun k => nodeL (f (4 + k)).v (pa24 l k)) i).set (q * 65 + 63) v'⟩) m B 2 (fun q => if q = 0 then ⟨bx, m24a l i⟩ else ⟨sc, m24b l i⟩) O') (hnk : (kidsZ (pa24 l) i q).length = nk) (hp : Pt (pa24 l) (i + 1) R') :
    M24 l w0 Y pt bm m B bx sc i (i + 1) i i i i i i (some ⟨gL, 0, none⟩) cL al cl aS cS ab cb R' (upd (upd f (4 + q) ⟨3, 1, v', nk + 1, intVals (kidsZ (pa24 l) i q) ++ [.int .i64 i]⟩) 0 ⟨68, 65, .slice (some ⟨gL, 0, none⟩) i cL, i, (rng (fun k => nodeL (f (4 + k)).v (pa24 l k)) i).set (q * 65 + 63) v'⟩) O' := by
  have hu : ∀ k, k ≠ 0 → k ≠ 4 + q → upd (upd f (4 + q) ⟨3, 1, v', nk + 1, intVals (kidsZ (pa24 l) i q) ++ [.int .i64 i]⟩) 0 ⟨68, 65, .slice (some ⟨gL, 0, none⟩) i cL, i, (rng (fun k => nodeL (f (4 + k)).v (pa24 l k)) i).set (q * 65 + 63) v'⟩ k = f k := fun k h1 h2 => by rw [upd_other _ _ h1, upd_other _ _ h2]
  have hm : max (i + 1) 1 = i + 1 := by omega
  refine ⟨by rw [hm]; exact W, by rw [hm]; exact hp, ?_, by rw [hu 1 (by omega) (by omega)]; exact h.f1, by rw [hu 2 (by omega) (by omega)]; exact h.f2, by rw [hu 3 (by omega) (by omega)]; exact h.f3, fun k hk => ?_⟩
  · rw [upd_same, rng_set (V := fun k => nodeL (f (4 + k)).v (pa24 l k)) (fun k => nodeL_len _ _) v' (by omega) hlt]
    congr 1
    refine rng_congr fun k hk => ?_
    rw [upd_other _ _ (show 4 + k ≠ 0 by omega)]
    by_cases c : k = q
    · subst c; rw [if_pos rfl, upd_same]; rfl
    · rw [if_neg c, upd_other _ _ (show 4 + k ≠ 4 + q by omega)]
  · by_cases c : k = q
    · subst c
      have e : kidsZ (pa24 l) (i + 1) k = kidsZ (pa24 l) i k ++ [(i : Int)] := by
        show _ ++ (if 0 < i ∧ (pa24 l i : Int) = k then [(i : Int)] else []) = _
        rw [if_pos ⟨c0, by omega⟩]
      refine ⟨v', ?_⟩
      rw [upd_other _ _ (show 4 + k ≠ 0 by omega), upd_same, e, intVals_snoc, List.length_append, hnk]
      rfl
    · have e : kidsZ (pa24 l) (i + 1) k = kidsZ (pa24 l) i k := by
        show _ ++ (if 0 < i ∧ (pa24 l i : Int) = k then [(i : Int)] else []) = _
        rw [if_neg (by omega), List.append_nil]
      rw [hu (4 + k) (by omega) (by omega), e]
      exact h.fk k hk
def box22z : List Value := [.bool false, .int .i64 0, .int .i64 0, .int .i64 0, .int .i64 0, .int .i64 0, .int .i64 0, .int .i64 0, .int .i64 0, .int .i64 0, .int .i64 0, .int .i64 0, .int .i64 0, .int .i64 0, .int .i64 0, .int .i64 0, .int .i64 0, .slice none 0 0]
theorem infoN22 : (Try.prog.info? 68).map (fun i => (i.zero, i.size, i.bytes)) = some (some (.agg (nodeL (.slice none 0 0) 0).toArray), 65, 552) := by kernel_rfl
theorem infoB22 : (Try.prog.info? 44).map (fun i => (i.zero, i.size, i.bytes)) = some (some (.agg box22z.toArray), 18, 160) := by kernel_rfl
theorem infoI2 : (Try.prog.info? 39).map (fun i => (i.zero, i.size, i.bytes)) = some (some (.agg #[.int .i64 0, .int .i64 0]), 2, 16) := by kernel_rfl
theorem infoBo : (Try.prog.info? 4).map (fun i => (i.zero, i.size, i.bytes)) = some (some (.bool false), 1, 1) := by kernel_rfl
theorem boxP_cells {w : World} {p : Nat} {x y b : Int} {T : TypeId} (h : Has w p (boxP x y b).toArray T) : (w.cell? ⟨p, 0, none⟩ = some (.int .i64 x) ∧ w.cell? ⟨p, 1, none⟩ = some (.int .i64 y)) ∧ (w.cell? ⟨p, 4, none⟩ = some (.int .i64 b) ∧ w.cell? ⟨p, 5, none⟩ = some (.int .i64 (b + 1))) ∧ (w.cell? ⟨p, 6, none⟩ = some (.int .i64 (b + 2)) ∧ w.cell? ⟨p, 7, none⟩ = some (.int .i64 (b + 3))) :=
  ⟨⟨has_cell h rfl, has_cell h rfl⟩, ⟨has_cell h rfl, has_cell h rfl⟩, ⟨has_cell h rfl, has_cell h rfl⟩⟩
theorem exec_buildN {ρ : Operand → Value} {d : Option Tmp} {t : TypeId} {x : Operand} {po : String} {af : Array Edge} {g : Option (Nat × Bool)} (w : World) : (execOp ρ ⟨d, .build 68 #[(4, x)], t, po, af, g⟩).run Try.prog w = runBuild Try.prog 68 #[(4, ρ x)] w := exec_build1 w
theorem runBuildN_int (x : Int) (w : World) : runBuild Try.prog 68 #[(4, .int .i64 x)] w = .ok (.value (.agg (nodeL (.slice none 0 0) x).toArray)) w := by kernel_rfl
theorem exec_slN {ρ : Operand → Value} {d : Option Tmp} {t : TypeId} {x : Operand} {po : String} {af : Array Edge} {g : Option (Nat × Bool)} (w : World) : (execOp ρ ⟨d, .buildSlice 27 1 #[(0, x)], t, po, af, g⟩).run Try.prog w = runBuildSl Try.prog 27 1 #[(0, ρ x)] w := exec_buildSl1 w
set_option maxRecDepth 100000 in
theorem runSlN (x : Int) (w : World) : runBuildSl Try.prog 27 1 #[(0, .agg (nodeL (.slice none 0 0) x).toArray)] w = .ok (.value (.slice (some ⟨w.heap.size, 0, none⟩) 1 1)) (w.alloc (.cells (nodeL (.slice none 0 0) x).toArray 68)) := by kernel_rfl
theorem put_boxP {w : World} {b : Nat} {k : Int} {v : Value} (h : MapOk w b) : (Instr.mapUpdate 26 (.map (some b)) (.int .i64 k) v).run Try.prog w = .ok () (putM w b k v) := run_putM Try.underlying26 Try.underlying3 k v h
theorem put_two {w : World} {b : Nat} {k : Int} {v : Value} (h : MapOk w b) : (Instr.mapUpdate 35 (.map (some b)) (.int .i64 k) v).run Try.prog w = .ok () (putM w b k v) := run_putM Try.underlying35 Try.underlying3 k v h
/-- What it leaves. -/
def Made24 (l : List N24) (w : World) (e : Ending) (w' : World) : Prop := ∃ pt bm bx sc aL cL al cl aS cS ab cb R f O, e = .returned (.tuple #[.agg (w24C pt bx sc (.slice aL (cnt24 l) cL) (.slice al (cnt24 l) cl) (.slice aS (cnt24 l) cS) (.slice ab (cnt24 l) cb)), .bool true]) ∧ M24 l w w' pt bm 0 (blk []) bx sc (cnt24 l) (cnt24 l) (cnt24 l) (cnt24 l) (cnt24 l) (cnt24 l) (cnt24 l) (cnt24 l) aL cL al cl aS cS ab cb R f O
end Go.Proofs.Ytjcbphhemmdnjaa
