/- package tree: what a tree's blocks hold; Has, Parent, Len by contract. -/
import Derived.Test.YtjcbphhemmdnjaaForest
import Derived.Test.YtjcbphhemmdnjaaBut
import Derived.Test.YtjcbphhemmdnjaaRegionD
import Derived.Test.YtjcbphhemmdnjaaRow
import Derived.Test.YtjcbphhemmdnjaaTry
import Derived.LoopTactic
import Derived.Deep.OwnRows
import Derived.Deep.DeepCutAuto
namespace Go.Proofs.Ytjcbphhemmdnjaa
open Go.RowKit
set_option linter.unusedSimpArgs false
set_option linter.unusedVariables false
-- below_from_drew
attribute [local go_sem] ov_cell_same ov_cell_other ov_frozen_same ov_frozen_other ov_size ov_setCell_same ov_setCell_other cell_alloc_old frozen_alloc_old setCell_alloc_old old_alloc old_ov old_drew old_drewN old_setCell
attribute [local go_sem ↓] run_max2 run_min2

/-- The zero node. -/
def nodeZ : Value := .agg #[.int .i64 0, .slice none 0 0]
theorem zero_node (w : World) : (zeroValue 140).run Try.prog w = .ok nodeZ w := by kernel_rfl
theorem look_node {w : World} {b : Nat} {k : Int} (h : MapOk w b) : (Instr.lookup 141 (.map (some b)) (.int .i64 k) false).run Try.prog w = .ok (mgetD (mapOf w b) k nodeZ) w := run_lookM Try.underlying141 Try.underlying3 zero_node k h
theorem look_node_ok {w : World} {b : Nat} {k : Int} (h : MapOk w b) : (Instr.lookup 141 (.map (some b)) (.int .i64 k) true).run Try.prog w = .ok (.tuple #[mgetD (mapOf w b) k nodeZ, .bool (mhas (mapOf w b) k)]) w := run_lookMok Try.underlying141 Try.underlying3 zero_node k h
theorem put_node {w : World} {b : Nat} {k : Int} {v : Value} (h : MapOk w b) : (Instr.mapUpdate 141 (.map (some b)) (.int .i64 k) v).run Try.prog w = .ok () (putM w b k v) := run_putM Try.underlying141 Try.underlying3 k v h
theorem del_node {w : World} {b : Nat} {k : Int} {ty : TypeId} (h : MapOk w b) : (Builtin.delete_ #[141, 3] ty #[.map (some b), .int .i64 k]).run Try.prog w = .ok (.tuple #[]) (delM w b k) := run_delM Try.underlying141 Try.underlying3 ty k h
theorem len_node {w : World} {b : Nat} {ty : TypeId} (h : MapOk w b) : (Builtin.len_ #[141] ty #[.map (some b)]).run Try.prog w = .ok (.int .i64 ((mapOf w b).length : Nat)) w := run_lenM Try.underlying141 ty h
theorem node_f0 (x : Int) (a : Option Addr) (k c : Nat) (w : World) : (Instr.field 140 (.agg #[.int .i64 x, .slice a k c]) 0).run Try.prog w = .ok (.int .i64 x) w := by kernel_rfl
theorem node_f1 (x : Int) (a : Option Addr) (k c : Nat) (w : World) : (Instr.field 140 (.agg #[.int .i64 x, .slice a k c]) 1).run Try.prog w = .ok (.slice a k c) w := by kernel_rfl
/-- A tree: its struct in block p, its map in block bm. -/
structure TreeAt (w : World) (p bm : Nat) (base : Nat → Prop) (R : Rows) (next : Int) : Prop where
  str : Has w p #[.map (some bm), .int .i64 next] 143
  ok : MapOk w bm
  ne : ¬ bm = p
  hp : ∀ b, w.heap.size ≤ b → base b
  hb : ∀ b, w.heap.size ≤ b → base b
  wf : WfR R next
  fo : Forest w (fun b => base b ∧ b ≠ p) (mapOf w bm) R []
theorem ok_notCells {w : World} {b : Nat} {o : Nat} (h : MapOk w b) : w.cell? ⟨b, o, none⟩ = none := by
  obtain ⟨es, c, h, _⟩ := h
  simp [World.cell?, h]
theorem TreeAt.to {w w' : World} {p bm : Nat} {base : Nat → Prop} {R : Rows} {next : Int} (h : TreeAt w p bm base R next) (hs : w.heap.size ≤ w'.heap.size) (hb : ∀ b, b < w.heap.size → base b ∨ b = p ∨ b = bm → w'.heap[b]? = w.heap[b]?) : TreeAt w' p bm base R next := by
  have h1 := hb p h.str.lt (.inr (.inl rfl))
  have h2 := hb bm h.ok.lt (.inr (.inr rfl))
  refine ⟨h1.trans h.str, mapOk_eq h2 h.ok, h.ne, fun b q => h.hp b (Nat.le_trans hs q), fun b q => h.hb b (Nat.le_trans hs q), h.wf, ?_⟩
  rw [mapOf_eq h2]
  exact h.fo.to hs (fun b hl hF _ => hb b hl (.inl hF.1))
theorem TreeAt.below {w w' : World} {p bm : Nat} {base : Nat → Prop} {R : Rows} {next : Int} (h : TreeAt w p bm base R next) (hb : Below w.heap.size w w') : TreeAt w' p bm base R next := h.to hb.size (fun b hl _ => hb.block b hl)
theorem TreeAt.has {w : World} {p bm : Nat} {base : Nat → Prop} {R : Rows} {next : Int} (h : TreeAt w p bm base R next) (k : Int) : mhas (mapOf w bm) k = decide (k ∈ nums R) := by
  by_cases c : k ∈ nums R
  · obtain ⟨⟨n, d⟩, hx, rfl⟩ := List.mem_map.1 c
    obtain ⟨A, C, e⟩ := List.append_of_mem hx
    obtain ⟨v, hv, _⟩ := h.fo.main A n d C e
    rw [mhas_some hv]; simp [c]
  · rw [mhas_none (h.fo.miss k c (by simp [nums]))]; simp [c]
theorem TreeAt.node {w : World} {p bm : Nat} {base : Nat → Prop} {R : Rows} {next : Int} (h : TreeAt w p bm base R next) {A C : Rows} {n d : Int} (e : R = A ++ (n, d) :: C) : ∃ a c, mgetD (mapOf w bm) n nodeZ = .agg #[.int .i64 (parR d A.reverse), .slice a (kidsR d C).length c] ∧ (kidsR d C).length ≤ c ∧ IntsAt w a (kidsR d C) := by
  obtain ⟨v, hv, a, c, h1, h2, h3, _⟩ := h.fo.main A n d C e
  exact ⟨a, c, by rw [mgetD_some hv, h1], h2, h3⟩
/-- Whatever is looked up is a node. -/
theorem TreeAt.shape {w : World} {p bm : Nat} {base : Nat → Prop} {R : Rows} {next : Int} (h : TreeAt w p bm base R next) (n : Int) : ∃ x a k c, mgetD (mapOf w bm) n nodeZ = .agg #[.int .i64 x, .slice a k c] := by
  by_cases c : n ∈ nums R
  · obtain ⟨⟨n, d⟩, hx, rfl⟩ := List.mem_map.1 c
    obtain ⟨A, C, e⟩ := List.append_of_mem hx
    obtain ⟨a, c, h1, _⟩ := h.node e
    exact ⟨_, a, _, c, h1⟩
  · exact ⟨0, none, 0, 0, mgetD_none (h.fo.miss n c (by simp [nums]))⟩
attribute [local go_sem] node_f0 node_f1 look_node look_node_ok put_node del_node len_node mapOk_alloc mapOf_alloc mapOk_drew mapOf_drew mapOk_drewN mapOf_drewN mapOk_ov mapOf_ov
set_option maxRecDepth 100000 in
theorem has_none (n : Int) (w : World) : Calls Try.prog 49 #[.pointer none, .int .i64 n] w fun e w' => e = .returned (.bool false) ∧ w = w' := by
  go_enter Try.func49, Try.ntmps49
  go_wp2_with fail
  go_ret
  exact ⟨rfl, rfl⟩
set_option maxRecDepth 100000 in
theorem thas_any (p bm : Nat) (base : Nat → Prop) (R : Rows) (next n : Int) (w : World) (h : TreeAt w p bm base R next) :
    Calls Try.prog 49 #[.pointer (some ⟨p, 0, none⟩), .int .i64 n] w fun e w' => e = .returned (.bool (decide (n ∈ nums R))) ∧ Below w.heap.size w w' := by
  have c0 := has_cell h.str (o := 0) rfl
  have hl := h.str.lt
  have hk := h.ok
  have hh := h.has n
  obtain ⟨x, a, k, c, hv⟩ := h.shape n
  have HH := Lib.hid hh
  clear hh h
  go_enter Try.func49, Try.ntmps49
  go_wp2_with fail
  go_ret
  exact ⟨by rw [← HH.out]; rfl, by (repeat' (first | (with_reducible exact Below.refl _ _) | (with_reducible assumption) | (with_reducible refine below_from_drew ?_) | (with_reducible refine Below.alloc ?_ ?_ _) | (with_reducible refine Below.drew ?_) | (with_reducible refine below_drewN ?_ _) | (with_reducible refine Below.setCell ?_ ?_ _) | (with_reducible refine below_via ?_ (by assumption) ?_) | (with_reducible refine below_ov ?_ ?_ _ _) | go_size))⟩
set_option maxRecDepth 100000 in
theorem len_none (w : World) : Calls Try.prog 50 #[.pointer none] w fun e w' => e = .returned (.int .i64 0) ∧ w = w' := by
  go_enter Try.func50, Try.ntmps50
  go_wp2_with fail
  go_ret
  exact ⟨rfl, rfl⟩
set_option maxRecDepth 100000 in
theorem len_any (p bm : Nat) (base : Nat → Prop) (R : Rows) (next : Int) (w : World) (h : TreeAt w p bm base R next) :
    Calls Try.prog 50 #[.pointer (some ⟨p, 0, none⟩)] w fun e w' => e = .returned (.int .i64 (R.length : Nat)) ∧ w = w' := by
  have c0 := has_cell h.str (o := 0) rfl
  have hl := h.str.lt
  have hk := h.ok
  have HH := Lib.hid h.fo.len
  clear h
  go_enter Try.func50, Try.ntmps50
  go_wp2_with fail
  go_ret
  exact ⟨by rw [HH.out]; rfl, rfl⟩
set_option maxRecDepth 100000 in
theorem parent_out (p bm : Nat) (base : Nat → Prop) (R : Rows) (next n : Int) (w : World) (h : TreeAt w p bm base R next) (hn : n = 0 ∨ n ∉ nums R) :
    Calls Try.prog 42 #[.pointer (some ⟨p, 0, none⟩), .int .i64 n] w fun e w' => e = .returned (.tuple #[.int .i64 0, .bool false]) ∧ Below w.heap.size w w' := by
  have HH := Lib.hid (thas_any p bm base R next n w h)
  clear h
  by_cases h0 : n = 0
  · subst h0
    go_enter Try.func42, Try.ntmps42
    go_wp2_with fail
    go_ret2
    exact ⟨rfl, Below.refl _ _⟩
  · have h1 : (n == 0) = false := by simp [h0]
    have h2 : decide (n ∈ nums R) = false := by rcases hn with q | q; exact absurd q h0; simp [q]
    clear hn h0
    go_enter Try.func42, Try.ntmps42
    go_wp2_with ((go_at_call 49; (with_reducible refine (HH.out).mono ?_); rintro e u1 ⟨rfl, hb⟩; have hz := hb.size; refine (fun hB => ?_ : Below w.heap.size w u1 → _) ?_; rotate_left; (focus ((repeat' (first | (with_reducible exact Below.refl _ _) | (with_reducible assumption) | (with_reducible refine below_from_drew ?_) | (with_reducible refine Below.alloc ?_ ?_ _) | (with_reducible refine Below.drew ?_) | (with_reducible refine below_drewN ?_ _) | (with_reducible refine Below.setCell ?_ ?_ _) | (with_reducible refine below_via ?_ (by assumption) ?_) | (with_reducible refine below_ov ?_ ?_ _ _) | go_size)); done)); (try simp only [World.size_alloc, World.size_setCell, World.size_drew, ov_size] at hz)))
    go_ret2
    exact ⟨rfl, by (repeat' (first | (with_reducible exact Below.refl _ _) | (with_reducible assumption) | (with_reducible refine below_from_drew ?_) | (with_reducible refine Below.alloc ?_ ?_ _) | (with_reducible refine Below.drew ?_) | (with_reducible refine below_drewN ?_ _) | (with_reducible refine Below.setCell ?_ ?_ _) | (with_reducible refine below_via ?_ (by assumption) ?_) | (with_reducible refine below_ov ?_ ?_ _ _) | go_size))⟩
set_option maxRecDepth 100000 in
theorem parent_any (p bm : Nat) (base : Nat → Prop) (R A C : Rows) (next n d : Int) (w : World) (h : TreeAt w p bm base R next) (e : R = A ++ (n, d) :: C) (hA : A ≠ []) :
    Calls Try.prog 42 #[.pointer (some ⟨p, 0, none⟩), .int .i64 n] w fun e w' => e = .returned (.tuple #[.int .i64 (parR d A.reverse), .bool true]) ∧ Below w.heap.size w w' := by
  have h1 : (n == 0) = false := by
    have := h.wf.root e
    simp; exact fun q => hA (this.1 q)
  have h2 : decide (n ∈ nums R) = true := by simp [e, nums]
  have HH := Lib.hid (thas_any p bm base R next n w h)
  have HT := Lib.hid h
  clear h
  have HE := Lib.hid e
  clear e hA
  go_enter Try.func42, Try.ntmps42
  go_wp2_with (go_at_call 49; (with_reducible refine HH.out.mono ?_); rintro e' w1 ⟨rfl, hb⟩; have hT := HT.out.below hb; obtain ⟨a, c, hv, _⟩ := hT.node HE.out; have c0 := has_cell hT.str (o := 0) rfl; have hl := hT.str.lt; have hk := hT.ok; have HB := Lib.hid hb; clear hT hb)
  go_ret2
  exact ⟨rfl, by assumption⟩
end Go.Proofs.Ytjcbphhemmdnjaa
