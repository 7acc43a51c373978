/- law23 (scroll): what the program's functions read; scroll.further, overflow by contract. -/
import Derived.Test.YtjcbphhemmdnjaaScrC
import Derived.Test.YtjcbphhemmdnjaaScrP
import Derived.Test.YtjcbphhemmdnjaaFix
import Derived.Deep.DeepCutAuto
namespace Go.Proofs.Ytjcbphhemmdnjaa
open Go Go.RowKit
set_option linter.unusedSimpArgs false
set_option linter.unusedVariables false
-- below_from_drew
attribute [local go_sem] ov_cell_same ov_cell_other ov_frozen_same ov_frozen_other ov_size ov_setCell_same ov_setCell_other cell_alloc_old frozen_alloc_old setCell_alloc_old old_alloc old_ov old_drew old_drewN old_setCell
attribute [local go_sem ↓] run_max2 run_min2
/-- What the program's functions read: the tree, the maps of nodes and boxes, the texts' pieces. -/
structure In23 (w : World) (l : List N23) (N pt bm bn bx : Nat) (g : Nat → Nat × Nat) (base : Nat → Prop) (R : Rows) : Prop where
  tree : TreeAt w pt bm base R N
  told : Pt (pa23 l) N R
  okn : MapOk w bn
  ln : ∀ x, mlook (mapOf w bn) x = m23n l N x
  okx : MapOk w bx
  lx : ∀ x, mlook (mapOf w bx) x = m23b l g N x
  pc : ∀ k, k < N → tx23 l k = true → Has w (g k).1 (pieceC l k) 110 ∧ Has w (g k).2 (pieceC l k) 41
  hn : N ≤ 14
  ok : ∀ i, Ok23 (nd23 l i)
theorem In23.below {w w' : World} {l : List N23} {N pt bm bn bx : Nat} {g : Nat → Nat × Nat} {base : Nat → Prop} {R : Rows} (h : In23 w l N pt bm bn bx g base R) (hb : Below w.heap.size w w') : In23 w' l N pt bm bn bx g base R :=
  ⟨h.tree.below hb, h.told, mapOk_eq (hb.block _ h.okn.lt) h.okn, fun x => by rw [mapOf_eq (hb.block _ h.okn.lt)]; exact h.ln x, mapOk_eq (hb.block _ h.okx.lt) h.okx, fun x => by rw [mapOf_eq (hb.block _ h.okx.lt)]; exact h.lx x,
    fun k hk ht => ⟨has_below hb (h.pc k hk ht).1, has_below hb (h.pc k hk ht).2⟩, h.hn, h.ok⟩
theorem cnt23_pos (l : List N23) : 0 < cnt23 l := by unfold cnt23; omega
theorem cnt23_le (l : List N23) : cnt23 l ≤ 14 := by unfold cnt23; omega
theorem M23.into {l : List N23} {w0 w : World} {pt bm m bn bx N cL c1 : Nat} {B : Nat → BlkT} {g : Nat → Nat × Nat} {aL a1 : Option Addr} {R : Rows} {f : Nat → RowT} {O : Nat → Prop} (h : M23 l w0 w pt bm m B bn bx g N N N N N N N N aL cL a1 c1 R f O) (hN : 0 < N) (hN2 : N ≤ 14) (hok : ∀ i, Ok23 (nd23 l i)) :
    In23 w l N pt bm bn bx g (fun b => w0.heap.size ≤ b ∧ ¬ O b) R := by
  have e : max N 1 = N := by omega
  have t := h.mt.wd.tk.tree
  have p := h.mt.told
  rw [e] at t p
  refine ⟨t, p, h.mt.wd.mok 0 (by omega), fun x => h.mt.wd.mlk 0 (by omega) x, h.mt.wd.mok 1 (by omega), fun x => h.mt.wd.mlk 1 (by omega) x, fun k hk ht => ?_, hN2, hok⟩
  obtain ⟨q, r, h1, h2, h3, h4, h5, h6⟩ := h.pc k hk ht
  have k1 := h.mt.wd.has q h2
  have k2 := h.mt.wd.has r h4
  rw [h5] at k1; rw [h6] at k2
  exact ⟨k1, k2⟩
def layZ23 : Value := .agg (layC 0 false 0 0 false).toArray
def boxZ23 : Value := .agg (boxC 0 0 0 0 0 (.slice none 0 0)).toArray
theorem zero_lay23 (w : World) : (zeroValue 77).run Try.prog w = .ok layZ23 w := by kernel_rfl
theorem zero_box23 (w : World) : (zeroValue 108).run Try.prog w = .ok boxZ23 w := by kernel_rfl
theorem look_lay23 {w : World} {b : Nat} {k : Int} (h : MapOk w b) : (Instr.lookup 25 (.map (some b)) (.int .i64 k) false).run Try.prog w = .ok (mgetD (mapOf w b) k layZ23) w := run_lookM Try.underlying25 Try.underlying3 zero_lay23 k h
theorem look_box23 {w : World} {b : Nat} {k : Int} (h : MapOk w b) : (Instr.lookup 26 (.map (some b)) (.int .i64 k) false).run Try.prog w = .ok (mgetD (mapOf w b) k boxZ23) w := run_lookM Try.underlying26 Try.underlying3 zero_box23 k h
theorem look_box23_ok {w : World} {b : Nat} {k : Int} (h : MapOk w b) : (Instr.lookup 26 (.map (some b)) (.int .i64 k) true).run Try.prog w = .ok (.tuple #[mgetD (mapOf w b) k boxZ23, .bool (mhas (mapOf w b) k)]) w := run_lookMok Try.underlying26 Try.underlying3 zero_box23 k h
def wordC (o : Int) : List Value := ((styC 0 false 0 o).drop 49).take 12
set_option maxRecDepth 100000 in
theorem lay_text (z : Int) (au : Bool) (p o : Int) (tx : Bool) (w : World) : (Instr.field 77 (.agg (layC z au p o tx).toArray) 1).run Try.prog w = .ok (.bool tx) w := by kernel_rfl
set_option maxRecDepth 100000 in
theorem lay_style (z : Int) (au : Bool) (p o : Int) (tx : Bool) (w : World) : (Instr.field 77 (.agg (layC z au p o tx).toArray) 0).run Try.prog w = .ok (.agg (styC z au p o).toArray) w := by kernel_rfl
set_option maxRecDepth 100000 in
theorem sty_words (o : Int) (w : World) : (Instr.field 74 (.agg (styC 0 false 0 o).toArray) 3).run Try.prog w = .ok (.agg (wordC o).toArray) w := by kernel_rfl
set_option maxRecDepth 100000 in
theorem word_over (o : Int) (w : World) : (Instr.index 63 (.agg (wordC o).toArray) (.int .i64 2)).run Try.prog w = .ok (.int .i64 o) w := by kernel_rfl
attribute [local go_sem] look_lay23 look_box23 look_box23_ok lay_text lay_style sty_words word_over mapOk_alloc mapOf_alloc mapOk_drew mapOf_drew mapOk_drewN mapOf_drewN mapOk_ov mapOf_ov
theorem m23n_in {l : List N23} {N k : Nat} (h : k < N) : m23n l N k = some (lay23 l k) := by
  unfold m23n; rw [if_pos ⟨by omega, by omega⟩, Int.toNat_natCast]
theorem m23b_in {l : List N23} {g : Nat → Nat × Nat} {N k : Nat} (h : k < N) (ht : there23 l k = true) : m23b l g N k = some (.agg (bxV l k (g k).1).toArray) := by
  unfold m23b; rw [if_pos ⟨by omega, by omega, by rw [Int.toNat_natCast]; exact ht⟩, Int.toNat_natCast]
theorem m23b_out {l : List N23} {g : Nat → Nat × Nat} {N k : Nat} (ht : there23 l k = false) : m23b l g N k = none := by
  unfold m23b; rw [if_neg (by rw [Int.toNat_natCast, ht]; simp)]
/-- Overflow as the program asks for it. -/
def ovf23 (l : List N23) (n : Nat) : Int := if tx23 l n then 1 else 1 + (nd23 l n).ov % 3
set_option maxRecDepth 100000 in
set_option maxHeartbeats 1000000 in
theorem over_any (l : List N23) (N pt bm bn bx n : Nat) (g : Nat → Nat × Nat) (base : Nat → Prop) (R : Rows) (w : World) (hn : n < N) (h : In23 w l N pt bm bn bx g base R) :
    Calls Try.prog 36 #[.agg #[.pointer (some ⟨pt, 0, none⟩), .map (some bn), .map (some bx)], .int .i64 n] w fun e w' => e = .returned (.int .i64 (ovf23 l n)) ∧ Below w.heap.size w w' := by
  have okn := h.okn
  have ol : Old w bn := okn.lt
  have hlk := h.ln n
  rw [m23n_in hn] at hlk
  unfold lay23 at hlk
  obtain ⟨tx, htx⟩ : ∃ t, tx23 l n = t := ⟨_, rfl⟩
  have HE : Hid (ovf23 l n = if tx then 1 else 1 + (nd23 l n).ov % 3) := Lib.hid (by unfold ovf23; rw [htx])
  rw [htx] at hlk
  have g1 := mgetD_some (z := layZ23) hlk
  clear hlk h htx
  rcases tx with _ | _
  · go_enter Try.func36, Try.ntmps36
    go_wp2_with fail
    go_ret
    exact ⟨by rw [HE.out]; rfl, by (repeat' (first | (with_reducible exact Below.refl _ _) | (with_reducible assumption) | (with_reducible refine below_from_drew ?_) | (with_reducible refine Below.alloc ?_ ?_ _) | (with_reducible refine Below.drew ?_) | (with_reducible refine below_drewN ?_ _) | (with_reducible refine Below.setCell ?_ ?_ _) | (with_reducible refine below_via ?_ (by assumption) ?_) | (with_reducible refine below_ov ?_ ?_ _ _) | go_size))⟩
  · go_enter Try.func36, Try.ntmps36
    go_wp2_with fail
    go_ret
    exact ⟨by rw [HE.out]; rfl, by (repeat' (first | (with_reducible exact Below.refl _ _) | (with_reducible assumption) | (with_reducible refine below_from_drew ?_) | (with_reducible refine Below.alloc ?_ ?_ _) | (with_reducible refine Below.drew ?_) | (with_reducible refine below_drewN ?_ _) | (with_reducible refine Below.setCell ?_ ?_ _) | (with_reducible refine below_via ?_ (by assumption) ?_) | (with_reducible refine below_ov ?_ ?_ _ _) | go_size))⟩
set_option maxRecDepth 100000 in
set_option maxHeartbeats 1000000 in
theorem fur_any (a b c d : Int) (w : World) :
    Calls Try.prog 56 #[.agg #[.int .i64 a, .int .i64 b], .agg #[.int .i64 c, .int .i64 d]] w fun e w' => e = .returned (.agg #[.int .i64 (max a c), .int .i64 (max b d)]) ∧ Below w.heap.size w w' := by
  go_enter Try.func56, Try.ntmps56
  go_wp2_with fail
  refine bodyPost_ret (by simp [results, Try.results56, go_sem]; try rfl) rfl ?_
  exact ⟨rfl, by (repeat' (first | (with_reducible exact Below.refl _ _) | (with_reducible assumption) | (with_reducible refine below_from_drew ?_) | (with_reducible refine Below.alloc ?_ ?_ _) | (with_reducible refine Below.drew ?_) | (with_reducible refine below_drewN ?_ _) | (with_reducible refine Below.setCell ?_ ?_ _) | (with_reducible refine below_via ?_ (by assumption) ?_) | (with_reducible refine below_ov ?_ ?_ _ _) | go_size))⟩
theorem add2_23 (g : Nat) (x y : Int) {T : TypeId} (hx : -4398046511104 ≤ x ∧ x ≤ 4398046511104) (hy : -4398046511104 ≤ y ∧ y ≤ 4398046511104) (w : World) (h : Has w g #[.int .i64 x, .int .i64 y] T) :
    Calls Try.prog 55 #[.slice (some ⟨g, 0, none⟩) 2 2] w fun e w' => e = .returned (.int .i64 (x + y)) ∧ Below w.heap.size w w' := by
  refine (add_any g 2 2 [x, y] w rfl (fun i hi => ?_) (by omega)).mono ?_
  · rw [h.cells]
    rcases i with _ | _ | i
    · rfl
    · rfl
    · omega
  · rintro e w' ⟨hr, rfl⟩
    have e1 : addF 0 [x, y] = some (x + y) := by
      rw [addF_cons (by omega) (by omega) (by omega) (by omega), Int.zero_add, addF_cons (by omega) (by omega) (by omega) (by omega)]
      rfl
    rcases hr with ⟨r, h1, h2⟩ | ⟨h1, _⟩
    · rw [e1] at h1; cases h1; exact ⟨h2, Below.refl _ _⟩
    · rw [e1] at h1; cases h1
theorem add3_23 (g : Nat) (x y z : Int) {T : TypeId} (hx : -1099511627776 ≤ x ∧ x ≤ 1099511627776) (hy : -1099511627776 ≤ y ∧ y ≤ 1099511627776) (hz : -1099511627776 ≤ z ∧ z ≤ 1099511627776) (w : World) (h : Has w g #[.int .i64 x, .int .i64 y, .int .i64 z] T) :
    Calls Try.prog 55 #[.slice (some ⟨g, 0, none⟩) 3 3] w fun e w' => e = .returned (.int .i64 (x + y + z)) ∧ Below w.heap.size w w' := by
  refine (add_any g 3 3 [x, y, z] w rfl (fun i hi => ?_) (by omega)).mono ?_
  · rw [h.cells]
    rcases i with _ | _ | _ | i
    · rfl
    · rfl
    · rfl
    · omega
  · rintro e w' ⟨hr, rfl⟩
    have e1 : addF 0 [x, y, z] = some (x + y + z) := by
      rw [addF_cons (by omega) (by omega) (by omega) (by omega), Int.zero_add, addF_cons (by omega) (by omega) (by omega) (by omega), addF_cons (by omega) (by omega) (by omega) (by omega)]
      rfl
    rcases hr with ⟨r, h1, h2⟩ | ⟨h1, _⟩
    · rw [e1] at h1; cases h1; exact ⟨h2, Below.refl _ _⟩
    · rw [e1] at h1; cases h1
theorem sub2_23 (x y : Int) (hx : -4398046511104 ≤ x ∧ x ≤ 4398046511104) (hy : -4398046511104 ≤ y ∧ y ≤ 4398046511104) (w : World) :
    Calls Try.prog 54 #[.int .i64 x, .int .i64 y] w fun e w' => e = .returned (.int .i64 (x - y)) ∧ w = w' := subF_ok (subF_small (by omega) (by omega) (by omega) (by omega) (by omega) (by omega)) w
end Go.Proofs.Ytjcbphhemmdnjaa
