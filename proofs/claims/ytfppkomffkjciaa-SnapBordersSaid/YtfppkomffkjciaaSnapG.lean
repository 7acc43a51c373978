/- The law SnapBorders, walked. -/
import Derived.Test.YtfppkomffkjciaaSnapF
import Derived.Test.YtfppkomffkjciaaRow
import Derived.LoopTactic
import Derived.Deep.DeepCutAuto
import Derived.RegionTactic
import Derived.BigRegion
namespace Go.Proofs.Ytfppkomffkjciaa
open Go.RowKit
set_option linter.unusedSimpArgs false
set_option linter.unusedVariables false
-- below_from_drew
attribute [local go_sem] ov_cell_same ov_cell_other ov_frozen_same ov_frozen_other ov_size ov_setCell_same ov_setCell_other cell_alloc_old frozen_alloc_old setCell_alloc_old old_alloc old_ov old_drew old_drewN old_setCell
attribute [local go_sem ↓] run_max2 run_min2 eql_rect
attribute [local go_sem ↓] bigb_xl bigb_xs
attribute [local go_sem] bigb_l bigb_s blkCells_ov_same blkCells_ov_other blkCells_new blkCells_old blkCells_drew blkCells_drewN putBlk_ov_same putBlk_ov_other putBlk_new putBlk_old putBlk_drew putBlk_drewN putBlk_size allOne_nil allOne_int allOne_bool allOne_slice allOne_pointer allOne_map allOne_string

theorem s25_cut {x y u v : Int} (h : cutB x y u v) (w : World) : Calls Try.prog 18 #[(.agg #[.int .i64 (x), .int .i64 (y), .int .i64 (u), .int .i64 (v)])] w fun e w' => e = .returned (.tuple #[(.agg #[.int .i64 (r0 (ed x) (ed y) (ed (x + u)) (ed (y + v))), .int .i64 (r1 (ed x) (ed y) (ed (x + u)) (ed (y + v))), .int .i64 (r2 (ed x) (ed y) (ed (x + u)) (ed (y + v))), .int .i64 (r3 (ed x) (ed y) (ed (x + u)) (ed (y + v)))]), .int .i64 0]) ∧ Below w.heap.size w w' := s25_ok x y u v (boxF_cut h) w
theorem empty_z (w : World) : Calls Try.prog 22 #[(.agg #[.int .i64 (0), .int .i64 (0), .int .i64 (0), .int .i64 (0)])] w fun e w' => e = .returned (.bool true) ∧ Below w.heap.size w w' := empty_nf (p := 0) (q := 0) (r := 0) (s := 0) (by unfold NF; omega) w
theorem calls_abs {P : Program} {f : FuncId} {args : Array Value} {X : World} {post : Ending → World → Prop} (R : World → Prop) (hX : R X) (h : ∀ W, R W → Calls P f args W post) : Calls P f args X post := h X hX
/-- Six blocks of the law's own, whatever else has come. -/
def Six (w : World) (b0 b1 b2 b3 b4 b5 : Nat) (C0 C1 C2 C3 C4 C5 : Array Value) (T0 T1 T2 T3 T4 T5 : TypeId) (wx : World) : Prop := ∃ u, wx = ov (ov (ov (ov (ov (ov u b0 C0 T0) b1 C1 T1) b2 C2 T2) b3 C3 T3) b4 C4 T4) b5 C5 T5 ∧ Below w.heap.size w u ∧ b0 < u.heap.size ∧ b1 < u.heap.size ∧ b2 < u.heap.size ∧ b3 < u.heap.size ∧ b4 < u.heap.size ∧ b5 < u.heap.size
/-- One of four. -/
def sel4 (a b c d : Int) : Nat → Int
  | 0 => a
  | 1 => b
  | 2 => c
  | _ => d
theorem sel_in {a b c d : Int} (ha : 0 ≤ a ∧ a ≤ 255) (hb : 0 ≤ b ∧ b ≤ 255) (hc : 0 ≤ c ∧ c ≤ 255) (hd : 0 ≤ d ∧ d ≤ 255) (k : Nat) : 0 ≤ sel4 a b c d k ∧ sel4 a b c d k ≤ 255 := by
  unfold sel4; split <;> assumption
theorem sel_getw (a b c d : Int) {k : Nat} (h : k < 4) : (#[Value.int .u8 a, .int .u8 b, .int .u8 c, .int .u8 d] : Array Value)[k]? = some (.int .u8 (sel4 a b c d k)) := by
  have : k = 0 ∨ k = 1 ∨ k = 2 ∨ k = 3 := by omega
  rcases this with rfl | rfl | rfl | rfl <;> rfl
theorem sel_get (A0 A1 A2 A3 A4 A5 A6 A7 A8 A9 A10 A11 A12 A13 A14 A15 : Int) {k : Nat} (h : k < 4) :
    (#[Value.int .i64 A0, .int .i64 A1, .int .i64 A2, .int .i64 A3, .int .i64 A4, .int .i64 A5, .int .i64 A6, .int .i64 A7, .int .i64 A8, .int .i64 A9, .int .i64 A10, .int .i64 A11, .int .i64 A12, .int .i64 A13, .int .i64 A14, .int .i64 A15] : Array Value)[k * 4]? = some (.int .i64 (sel4 A0 A4 A8 A12 k)) ∧
    (#[Value.int .i64 A0, .int .i64 A1, .int .i64 A2, .int .i64 A3, .int .i64 A4, .int .i64 A5, .int .i64 A6, .int .i64 A7, .int .i64 A8, .int .i64 A9, .int .i64 A10, .int .i64 A11, .int .i64 A12, .int .i64 A13, .int .i64 A14, .int .i64 A15] : Array Value)[k * 4 + 1]? = some (.int .i64 (sel4 A1 A5 A9 A13 k)) ∧
    (#[Value.int .i64 A0, .int .i64 A1, .int .i64 A2, .int .i64 A3, .int .i64 A4, .int .i64 A5, .int .i64 A6, .int .i64 A7, .int .i64 A8, .int .i64 A9, .int .i64 A10, .int .i64 A11, .int .i64 A12, .int .i64 A13, .int .i64 A14, .int .i64 A15] : Array Value)[k * 4 + 2]? = some (.int .i64 (sel4 A2 A6 A10 A14 k)) ∧
    (#[Value.int .i64 A0, .int .i64 A1, .int .i64 A2, .int .i64 A3, .int .i64 A4, .int .i64 A5, .int .i64 A6, .int .i64 A7, .int .i64 A8, .int .i64 A9, .int .i64 A10, .int .i64 A11, .int .i64 A12, .int .i64 A13, .int .i64 A14, .int .i64 A15] : Array Value)[k * 4 + 3]? = some (.int .i64 (sel4 A3 A7 A11 A15 k)) := by
  have : k = 0 ∨ k = 1 ∨ k = 2 ∨ k = 3 := by omega
  rcases this with rfl | rfl | rfl | rfl <;> exact ⟨rfl, rfl, rfl, rfl⟩
theorem bnds_sel {A0 A1 A2 A3 A4 A5 A6 A7 A8 A9 A10 A11 A12 A13 A14 A15 T R B L : Int} (h : Bnds A0 A1 A2 A3 A4 A5 A6 A7 A8 A9 A10 A11 A12 A13 A14 A15 T R B L) {k : Nat} (hk : k < 4) :
    NF (sel4 A0 A4 A8 A12 k) (sel4 A1 A5 A9 A13 k) (sel4 A2 A6 A10 A14 k) (sel4 A3 A7 A11 A15 k) ∧
    ((sel4 A0 A4 A8 A12 k < sel4 A2 A6 A10 A14 k ∧ (k % 2 = 0 → sel4 A3 A7 A11 A15 k - sel4 A1 A5 A9 A13 k = sel4 T R B L k) ∧ (k % 2 = 1 → sel4 A2 A6 A10 A14 k - sel4 A0 A4 A8 A12 k = sel4 T R B L k)) ∨ (sel4 A2 A6 A10 A14 k ≤ sel4 A0 A4 A8 A12 k ∧ (k % 2 = 0 → sel4 T R B L k = 0))) := by
  obtain ⟨⟨nA, hA0⟩, ⟨nB, hA1⟩, ⟨nC, hA2⟩, ⟨nD, hA3⟩⟩ := h
  have : k = 0 ∨ k = 1 ∨ k = 2 ∨ k = 3 := by omega
  rcases this with rfl | rfl | rfl | rfl <;> simp only [sel4]
  · exact ⟨nA, by omega⟩
  · exact ⟨nB, by omega⟩
  · exact ⟨nC, by omega⟩
  · exact ⟨nD, by omega⟩
set_option maxRecDepth 100000 in
set_option maxHeartbeats 4000000 in
theorem borders_any (a b c d T R B L : Int) (hT : 0 ≤ T ∧ T ≤ 255) (hR : 0 ≤ R ∧ R ≤ 255) (hB : 0 ≤ B ∧ B ≤ 255) (hL : 0 ≤ L ∧ L ≤ 255) (w : World) : Calls Try.prog 5 #[(.agg #[.int .i64 (a), .int .i64 (b), .int .i64 (c), .int .i64 (d)]), .agg #[.int .u8 T, .int .u8 R, .int .u8 B, .int .u8 L]] w fun e w' => e = .returned (.bool true) ∧ Below w.heap.size w w' := by
  have hc := cut_cutB a b c d
  have hcut := cut25_any a b c d
  generalize a.tmod 17179869184 = x at hc hcut
  generalize b.tmod 17179869184 = y at hc hcut
  generalize hu : c % 1073741824 = u at hc hcut
  generalize hv : d % 1073741824 = v at hc hcut
  have hw := cutB_wide hc (by omega) (by omega) hT hR hB hL
  have hs := s25_cut hw
  have e1 := ed_wide (x + u) R L
  have e2 := ed_wide (y + v) T B
  rw [show x + (u + 64 * R + 64 * L) = x + u + 64 * R + 64 * L by omega, show y + (v + 64 * T + 64 * B) = y + v + 64 * T + 64 * B by omega] at hs
  have m1 : ed x ≤ ed (x + u) := ed_mono (by unfold cutB at hc; omega)
  have m2 : ed y ≤ ed (y + v) := ed_mono (by unfold cutB at hc; omega)
  have hbd : (-1073741824 ≤ ed x ∧ ed x ≤ 1073741824) ∧ (-1073741824 ≤ ed y ∧ ed y ≤ 1073741824) ∧ (-1073741824 ≤ ed (x + u + 64 * R + 64 * L) ∧ ed (x + u + 64 * R + 64 * L) ≤ 1073741824) ∧ (-1073741824 ≤ ed (y + v + 64 * T + 64 * B) ∧ ed (y + v + 64 * T + 64 * B) ≤ 1073741824) := by
    unfold cutB at hc; unfold ed; omega
  have q := r_in hbd.1 hbd.2.1 hbd.2.2.1 hbd.2.2.2
  have hnf := nf_r (ed x) (ed y) (ed (x + u + 64 * R + 64 * L)) (ed (y + v + 64 * T + 64 * B))
  have hq : (r0 (ed x) (ed y) (ed (x + u + 64 * R + 64 * L)) (ed (y + v + 64 * T + 64 * B)) < r2 (ed x) (ed y) (ed (x + u + 64 * R + 64 * L)) (ed (y + v + 64 * T + 64 * B)) ∧ R + L ≤ r2 (ed x) (ed y) (ed (x + u + 64 * R + 64 * L)) (ed (y + v + 64 * T + 64 * B)) - r0 (ed x) (ed y) (ed (x + u + 64 * R + 64 * L)) (ed (y + v + 64 * T + 64 * B)) ∧ T + B ≤ r3 (ed x) (ed y) (ed (x + u + 64 * R + 64 * L)) (ed (y + v + 64 * T + 64 * B)) - r1 (ed x) (ed y) (ed (x + u + 64 * R + 64 * L)) (ed (y + v + 64 * T + 64 * B))) ∨ (r0 (ed x) (ed y) (ed (x + u + 64 * R + 64 * L)) (ed (y + v + 64 * T + 64 * B)) = 0 ∧ r1 (ed x) (ed y) (ed (x + u + 64 * R + 64 * L)) (ed (y + v + 64 * T + 64 * B)) = 0 ∧ r2 (ed x) (ed y) (ed (x + u + 64 * R + 64 * L)) (ed (y + v + 64 * T + 64 * B)) = 0 ∧ r3 (ed x) (ed y) (ed (x + u + 64 * R + 64 * L)) (ed (y + v + 64 * T + 64 * B)) = 0) := by
    rw [e1, e2] at q ⊢; omega
  have hcb : (-17179869184 ≤ x ∧ x ≤ 17179869184) ∧ (-17179869184 ≤ y ∧ y ≤ 17179869184) ∧ (0 ≤ u ∧ u ≤ 1073741824) ∧ (0 ≤ v ∧ v ≤ 1073741824) := by unfold cutB at hc; omega
  clear q hbd e1 e2 m1 m2 hw hc hu hv
  generalize r0 (ed x) (ed y) (ed (x + u + 64 * R + 64 * L)) (ed (y + v + 64 * T + 64 * B)) = p at *
  generalize r1 (ed x) (ed y) (ed (x + u + 64 * R + 64 * L)) (ed (y + v + 64 * T + 64 * B)) = q at *
  generalize r2 (ed x) (ed y) (ed (x + u + 64 * R + 64 * L)) (ed (y + v + 64 * T + 64 * B)) = r at *
  generalize r3 (ed x) (ed y) (ed (x + u + 64 * R + 64 * L)) (ed (y + v + 64 * T + 64 * B)) = s at *
  obtain ⟨T0, T1⟩ := hT
  obtain ⟨R0, R1⟩ := hR
  obtain ⟨B0, B1⟩ := hB
  obtain ⟨L0, L1⟩ := hL
  obtain ⟨⟨x1, x2⟩, ⟨y1, y2⟩, ⟨uA, uB⟩, v1, v2⟩ := hcb
  have HC := Lib.hid hcut; clear hcut
  have HS := Lib.hid hs; clear hs
  have HQ := Lib.hid hq; clear hq
  have HN := Lib.hid hnf; clear hnf
  go_enter Try.func5, Try.ntmps5
  go_wp2_with (first | (go_at_call 16; (with_reducible refine (speaks25_any _).mono ?_); rintro e w1 ⟨rfl, hb⟩; refine Exists.elim (after2 (w := w) (b0 := w.heap.size) (cs0 := ?_) (T0 := ?_) (b1 := w.heap.size + 1) (cs1 := ?_) (T1 := ?_) hb ?_ ?_ ?_) ?_; rotate_left 4; (focus ((repeat' (first | (with_reducible exact Below.refl _ _) | (with_reducible assumption) | (with_reducible refine below_from_drew ?_) | (with_reducible refine Below.alloc ?_ ?_ _) | (with_reducible refine Below.drew ?_) | (with_reducible refine below_drewN ?_ _) | (with_reducible refine Below.setCell ?_ ?_ _) | (with_reducible refine below_via ?_ (by assumption) ?_) | (with_reducible refine below_ov ?_ ?_ _ _) | go_size)); done)); (focus ((repeat' (first | (with_reducible refine has_drew ?_) | (with_reducible refine has_drewN ?_) | (with_reducible refine has_new ?_; (first | (with_reducible rfl) | omega | (simp; done) | (simp; omega))) | (with_reducible refine has_ov_same ?_; (first | (with_reducible rfl) | omega | (simp; done) | (simp; omega))) | (with_reducible refine has_alloc ?_) | (with_reducible refine has_ov_other ?_ ?_; (focus (first | (with_reducible rfl) | omega | (simp; done) | (simp; omega)))))); done)); (focus ((repeat' (first | (with_reducible refine has_drew ?_) | (with_reducible refine has_drewN ?_) | (with_reducible refine has_new ?_; (first | (with_reducible rfl) | omega | (simp; done) | (simp; omega))) | (with_reducible refine has_ov_same ?_; (first | (with_reducible rfl) | omega | (simp; done) | (simp; omega))) | (with_reducible refine has_alloc ?_) | (with_reducible refine has_ov_other ?_ ?_; (focus (first | (with_reducible rfl) | omega | (simp; done) | (simp; omega)))))); done)); rintro uA ⟨rfl, hB, hz, z0, o0, z1, o1⟩; (try simp only [World.size_alloc, World.size_setCell, World.size_drew, ov_size] at hz)) | (go_at_call 17; (with_reducible refine (HC.out _).mono ?_); rintro e w1 ⟨rfl, hb⟩; refine Exists.elim (after2 (w := w) (b0 := w.heap.size) (cs0 := ?_) (T0 := ?_) (b1 := w.heap.size + 1) (cs1 := ?_) (T1 := ?_) hb ?_ ?_ ?_) ?_; rotate_left 4; (focus ((repeat' (first | (with_reducible exact Below.refl _ _) | (with_reducible assumption) | (with_reducible refine below_from_drew ?_) | (with_reducible refine Below.alloc ?_ ?_ _) | (with_reducible refine Below.drew ?_) | (with_reducible refine below_drewN ?_ _) | (with_reducible refine Below.setCell ?_ ?_ _) | (with_reducible refine below_via ?_ (by assumption) ?_) | (with_reducible refine below_ov ?_ ?_ _ _) | go_size)); done)); (focus ((repeat' (first | (with_reducible refine has_drew ?_) | (with_reducible refine has_drewN ?_) | (with_reducible refine has_new ?_; (first | (with_reducible rfl) | omega | (simp; done) | (simp; omega))) | (with_reducible refine has_ov_same ?_; (first | (with_reducible rfl) | omega | (simp; done) | (simp; omega))) | (with_reducible refine has_alloc ?_) | (with_reducible refine has_ov_other ?_ ?_; (focus (first | (with_reducible rfl) | omega | (simp; done) | (simp; omega)))))); done)); (focus ((repeat' (first | (with_reducible refine has_drew ?_) | (with_reducible refine has_drewN ?_) | (with_reducible refine has_new ?_; (first | (with_reducible rfl) | omega | (simp; done) | (simp; omega))) | (with_reducible refine has_ov_same ?_; (first | (with_reducible rfl) | omega | (simp; done) | (simp; omega))) | (with_reducible refine has_alloc ?_) | (with_reducible refine has_ov_other ?_ ?_; (focus (first | (with_reducible rfl) | omega | (simp; done) | (simp; omega)))))); done)); rintro uB ⟨rfl, hB, hz, z0, o0, z1, o1⟩; (try simp only [World.size_alloc, World.size_setCell, World.size_drew, ov_size] at hz)))
  refine wp_loop_rounds 5 ?_
  rw [rounds_succ]; go_wp2_with fail
  rw [rounds_succ]; go_wp2_with fail
  rw [rounds_succ]; go_wp2_with fail
  rw [rounds_succ]; go_wp2_with fail
  rw [rounds_succ]; go_wp2_with fail
  go_region
  as_aux_lemma =>
    go_wp2_with (go_at_call 18; (with_reducible refine (HS.out _).mono ?_); rintro e w1 ⟨rfl, hb⟩; refine Exists.elim (after3 (w := w) (b0 := w.heap.size) (cs0 := ?_) (T0 := ?_) (b1 := w.heap.size + 1) (cs1 := ?_) (T1 := ?_) (b2 := uB.heap.size) (cs2 := ?_) (T2 := ?_) hb ?_ ?_ ?_ ?_) ?_; rotate_left 6; (focus ((repeat' (first | (with_reducible exact Below.refl _ _) | (with_reducible assumption) | (with_reducible refine below_from_drew ?_) | (with_reducible refine Below.alloc ?_ ?_ _) | (with_reducible refine Below.drew ?_) | (with_reducible refine below_drewN ?_ _) | (with_reducible refine Below.setCell ?_ ?_ _) | (with_reducible refine below_via ?_ (by assumption) ?_) | (with_reducible refine below_ov ?_ ?_ _ _) | go_size)); done)); (focus ((repeat' (first | (with_reducible refine has_drew ?_) | (with_reducible refine has_drewN ?_) | (with_reducible refine has_new ?_; (first | (with_reducible rfl) | omega | (simp; done) | (simp; omega))) | (with_reducible refine has_ov_same ?_; (first | (with_reducible rfl) | omega | (simp; done) | (simp; omega))) | (with_reducible refine has_alloc ?_) | (with_reducible refine has_ov_other ?_ ?_; (focus (first | (with_reducible rfl) | omega | (simp; done) | (simp; omega)))))); done)); (focus ((repeat' (first | (with_reducible refine has_drew ?_) | (with_reducible refine has_drewN ?_) | (with_reducible refine has_new ?_; (first | (with_reducible rfl) | omega | (simp; done) | (simp; omega))) | (with_reducible refine has_ov_same ?_; (first | (with_reducible rfl) | omega | (simp; done) | (simp; omega))) | (with_reducible refine has_alloc ?_) | (with_reducible refine has_ov_other ?_ ?_; (focus (first | (with_reducible rfl) | omega | (simp; done) | (simp; omega)))))); done)); (focus ((repeat' (first | (with_reducible refine has_drew ?_) | (with_reducible refine has_drewN ?_) | (with_reducible refine has_new ?_; (first | (with_reducible rfl) | omega | (simp; done) | (simp; omega))) | (with_reducible refine has_ov_same ?_; (first | (with_reducible rfl) | omega | (simp; done) | (simp; omega))) | (with_reducible refine has_alloc ?_) | (with_reducible refine has_ov_other ?_ ?_; (focus (first | (with_reducible rfl) | omega | (simp; done) | (simp; omega)))))); done)); rintro uC ⟨rfl, hB, hz, z0, o0, z1, o1, z2, o2⟩; (try simp only [World.size_alloc, World.size_setCell, World.size_drew, ov_size] at hz))
    refine calls_abs (fun W => uC.heap.size < W.heap.size ∧ w.heap.size + 1 < uC.heap.size ∧ Below w.heap.size w W ∧ Has W (w.heap.size + 1) #[.int .u8 T, .int .u8 R, .int .u8 B, .int .u8 L] 44 ∧ Has W uC.heap.size #[.int .i64 p, .int .i64 q, .int .i64 r, .int .i64 s] 28) ⟨by go_size, by omega, by (repeat' (first | (with_reducible exact Below.refl _ _) | (with_reducible assumption) | (with_reducible refine below_from_drew ?_) | (with_reducible refine Below.alloc ?_ ?_ _) | (with_reducible refine Below.drew ?_) | (with_reducible refine below_drewN ?_ _) | (with_reducible refine Below.setCell ?_ ?_ _) | (with_reducible refine below_via ?_ (by assumption) ?_) | (with_reducible refine below_ov ?_ ?_ _ _) | go_size)), by (repeat' (first | (with_reducible refine has_drew ?_) | (with_reducible refine has_drewN ?_) | (with_reducible refine has_new ?_; (first | (with_reducible rfl) | omega | (simp; done) | (simp; omega))) | (with_reducible refine has_ov_same ?_; (first | (with_reducible rfl) | omega | (simp; done) | (simp; omega))) | (with_reducible refine has_alloc ?_) | (with_reducible refine has_ov_other ?_ ?_; (focus (first | (with_reducible rfl) | omega | (simp; done) | (simp; omega)))))), by (repeat' (first | (with_reducible refine has_drew ?_) | (with_reducible refine has_drewN ?_) | (with_reducible refine has_new ?_; (first | (with_reducible rfl) | omega | (simp; done) | (simp; omega))) | (with_reducible refine has_ov_same ?_; (first | (with_reducible rfl) | omega | (simp; done) | (simp; omega))) | (with_reducible refine has_alloc ?_) | (with_reducible refine has_ov_other ?_ ?_; (focus (first | (with_reducible rfl) | omega | (simp; done) | (simp; omega))))))⟩ ?_
    clear hb hB hz z0 o0 z1 o1 z2 o2
    rintro W ⟨l1, l2, hB1, k1, k2⟩
    have HB1 := Lib.hid hB1; have K1 := Lib.hid k1; have K2 := Lib.hid k2; clear hB1 k1 k2
    rcases HQ.out with ⟨q1, q2, q3⟩ | ⟨rfl, rfl, rfl, rfl⟩
    rotate_left
    · refine (bands_z _ _ _ _ ⟨T0, T1⟩ ⟨R0, R1⟩ ⟨B0, B1⟩ ⟨L0, L1⟩ _).mono ?_
      rintro e uD ⟨rfl, hb⟩
      have hsz := hb.size
      obtain ⟨c0, c1, c2, c3⟩ := has4 (has_below hb K2.out)
      have oC : Old uD uC.heap.size := by unfold Old; omega
      have hB2 := Lib.hid (below_via HB1.out hb HB1.out.size)
      clear hb
      go_wp2_with fail
      refine (empty_z _).mono ?_
      rintro e uE ⟨rfl, hb⟩
      obtain ⟨d0, d1, d2⟩ := bcell3 hb
      have hB3 := Lib.hid (below_via ((hB2.out.alloc (by omega) _).alloc (by simp; omega) _) hb (by simp; omega))
      go_wp2_with ((refine (empty_z _).mono ?_); rintro e uF ⟨rfl, hb4⟩)
      go_ret
      have q := hB3.out
      have q2 := q.size
      exact ⟨rfl, by first | exact below_via q hb4 q2 | exact q | (repeat' (first | (with_reducible exact Below.refl _ _) | (with_reducible assumption) | (with_reducible refine below_from_drew ?_) | (with_reducible refine Below.alloc ?_ ?_ _) | (with_reducible refine Below.drew ?_) | (with_reducible refine below_drewN ?_ _) | (with_reducible refine Below.setCell ?_ ?_ _) | (with_reducible refine below_via ?_ (by assumption) ?_) | (with_reducible refine below_ov ?_ ?_ _ _) | go_size))⟩
    obtain ⟨A0, A1, A2, A3, A4, A5, A6, A7, A8, A9, A10, A11, A12, A13, A14, A15, hA, hbands⟩ := bands_b HN.out q1 ⟨T0, T1⟩ ⟨R0, R1⟩ ⟨B0, B1⟩ ⟨L0, L1⟩ q3 q2
    have HA := Lib.hid hA; clear hA
    have HBA := Lib.hid hbands; clear hbands
    have hne : decide (r ≤ p) = false := by simp; omega
    have hem := empty_nf HN.out
    rw [hne] at hem
    have HE := Lib.hid hem; clear hem hne q1 q2 q3
    refine (HBA.out _).mono ?_
    rintro e uD ⟨rfl, hb⟩
    have hsz := hb.size
    have k1 := has_below hb K1.out
    have k2 := has_below hb K2.out
    obtain ⟨c0, c1, c2, c3⟩ := has4 k2
    have oC : Old uD uC.heap.size := by unfold Old; omega
    have hB2 := Lib.hid (below_via HB1.out hb HB1.out.size)
    have K3 := Lib.hid k1; have K4 := Lib.hid k2
    clear hb K1 K2 k1 k2
    go_wp2_with fail
    refine calls_abs (fun W => uD.heap.size + 1 < W.heap.size ∧ Below w.heap.size w W ∧ Has W (w.heap.size + 1) #[.int .u8 T, .int .u8 R, .int .u8 B, .int .u8 L] 44 ∧ Has W uC.heap.size #[.int .i64 p, .int .i64 q, .int .i64 r, .int .i64 s] 28 ∧ Has W uD.heap.size #[.int .i64 A0, .int .i64 A1, .int .i64 A2, .int .i64 A3, .int .i64 A4, .int .i64 A5, .int .i64 A6, .int .i64 A7, .int .i64 A8, .int .i64 A9, .int .i64 A10, .int .i64 A11, .int .i64 A12, .int .i64 A13, .int .i64 A14, .int .i64 A15] 45 ∧ Has W (uD.heap.size + 1) #[.int .i64 (i0 p q r s T R B L), .int .i64 (i1 p q r s T R B L), .int .i64 (i2 p q r s T R B L), .int .i64 (i3 p q r s T R B L)] 28) ⟨by go_size, by have q := hB2.out; (repeat' (first | (with_reducible exact Below.refl _ _) | (with_reducible assumption) | (with_reducible refine below_from_drew ?_) | (with_reducible refine Below.alloc ?_ ?_ _) | (with_reducible refine Below.drew ?_) | (with_reducible refine below_drewN ?_ _) | (with_reducible refine Below.setCell ?_ ?_ _) | (with_reducible refine below_via ?_ (by assumption) ?_) | (with_reducible refine below_ov ?_ ?_ _ _) | go_size)), by have q := K3.out; (repeat' (first | (with_reducible refine has_drew ?_) | (with_reducible refine has_drewN ?_) | (with_reducible refine has_new ?_; (first | (with_reducible rfl) | omega | (simp; done) | (simp; omega))) | (with_reducible refine has_ov_same ?_; (first | (with_reducible rfl) | omega | (simp; done) | (simp; omega))) | (with_reducible refine has_alloc ?_) | (with_reducible refine has_ov_other ?_ ?_; (focus (first | (with_reducible rfl) | omega | (simp; done) | (simp; omega)))))); exact q, by have q := K4.out; (repeat' (first | (with_reducible refine has_drew ?_) | (with_reducible refine has_drewN ?_) | (with_reducible refine has_new ?_; (first | (with_reducible rfl) | omega | (simp; done) | (simp; omega))) | (with_reducible refine has_ov_same ?_; (first | (with_reducible rfl) | omega | (simp; done) | (simp; omega))) | (with_reducible refine has_alloc ?_) | (with_reducible refine has_ov_other ?_ ?_; (focus (first | (with_reducible rfl) | omega | (simp; done) | (simp; omega)))))); exact q, by (repeat' (first | (with_reducible refine has_drew ?_) | (with_reducible refine has_drewN ?_) | (with_reducible refine has_new ?_; (first | (with_reducible rfl) | omega | (simp; done) | (simp; omega))) | (with_reducible refine has_ov_same ?_; (first | (with_reducible rfl) | omega | (simp; done) | (simp; omega))) | (with_reducible refine has_alloc ?_) | (with_reducible refine has_ov_other ?_ ?_; (focus (first | (with_reducible rfl) | omega | (simp; done) | (simp; omega)))))), by (repeat' (first | (with_reducible refine has_drew ?_) | (with_reducible refine has_drewN ?_) | (with_reducible refine has_new ?_; (first | (with_reducible rfl) | omega | (simp; done) | (simp; omega))) | (with_reducible refine has_ov_same ?_; (first | (with_reducible rfl) | omega | (simp; done) | (simp; omega))) | (with_reducible refine has_alloc ?_) | (with_reducible refine has_ov_other ?_ ?_; (focus (first | (with_reducible rfl) | omega | (simp; done) | (simp; omega))))))⟩ ?_
    rintro W2 ⟨l3, j1, j2, j3, j4, j5⟩
    have J1 := Lib.hid j1; have J2 := Lib.hid j2; have J3 := Lib.hid j3; have J4 := Lib.hid j4; have J5 := Lib.hid j5
    clear j1 j2 j3 j4 j5 K3 K4 hB2 c0 c1 c2 c3 HB1
    refine (HE.out _).mono ?_
    rintro e uE ⟨rfl, hb⟩
    have hsz2 := hb.size
    have m1 := Lib.hid (below_via J1.out hb J1.out.size); have m2 := Lib.hid (has_below hb J2.out); have m3 := Lib.hid (has_below hb J3.out); have m4 := Lib.hid (has_below hb J4.out); have m5 := Lib.hid (has_below hb J5.out)
    clear hb J1 J2 J3 J4 J5
    go_wp2_with fail
    clear HBA HE HQ HS HC
    go_loopw [11] (fun i wr => ∃ k : Nat, k ≤ 4 ∧ i = .int .i64 k ∧ Below w.heap.size w wr ∧ Has wr (w.heap.size + 1) #[.int .u8 T, .int .u8 R, .int .u8 B, .int .u8 L] 44 ∧ Has wr uC.heap.size #[.int .i64 p, .int .i64 q, .int .i64 r, .int .i64 s] 28 ∧ Has wr uD.heap.size #[.int .i64 A0, .int .i64 A1, .int .i64 A2, .int .i64 A3, .int .i64 A4, .int .i64 A5, .int .i64 A6, .int .i64 A7, .int .i64 A8, .int .i64 A9, .int .i64 A10, .int .i64 A11, .int .i64 A12, .int .i64 A13, .int .i64 A14, .int .i64 A15] 45 ∧ Has wr (uD.heap.size + 1) #[.int .i64 (i0 p q r s T R B L), .int .i64 (i1 p q r s T R B L), .int .i64 (i2 p q r s T R B L), .int .i64 (i3 p q r s T R B L)] 28) (fun i _ => (4 - intOf i).toNat)
    case atStart => exact ⟨0, by omega, rfl, m1.out, m2.out, m3.out, m4.out, m5.out⟩
    case round =>
      obtain ⟨k, hk4, rfl, hBw, hHw, hHr, hHb, hHi⟩ := hrel
      have lw := hHw.lt
      have lr := hHr.lt
      have lb := hHb.lt
      have li := hHi.lt
      have hszw := hBw.size
      have HHW := Lib.hid hHw; have HHR := Lib.hid hHr; have HHB := Lib.hid hHb; have HHI := Lib.hid hHi; have HBW := Lib.hid hBw
      clear hHw hHr hHb hHi hBw
      by_cases hlt : k < 4
      · as_aux_lemma =>
          obtain ⟨g0, g1, g2, g3⟩ := sel_get A0 A1 A2 A3 A4 A5 A6 A7 A8 A9 A10 A11 A12 A13 A14 A15 hlt
          have c0 := has_cell HHB.out g0
          have c1 := has_cell HHB.out g1
          have c2 := has_cell HHB.out g2
          have c3 := has_cell HHB.out g3
          have wc := has_cell HHW.out (sel_getw T R B L hlt)
          clear g0 g1 g2 g3
          obtain ⟨na, hcase⟩ := bnds_sel HA.out hlt
          have NA := Lib.hid na
          have bw := sel_in ⟨T0, T1⟩ ⟨R0, R1⟩ ⟨B0, B1⟩ ⟨L0, L1⟩ k
          generalize sel4 A0 A4 A8 A12 k = x0 at *
          generalize sel4 A1 A5 A9 A13 k = x1 at *
          generalize sel4 A2 A6 A10 A14 k = x2 at *
          generalize sel4 A3 A7 A11 A15 k = x3 at *
          generalize sel4 T R B L k = n at *
          obtain ⟨bw1, bw2⟩ := bw
          clear na
          have HCASE := Lib.hid hcase; clear hcase
          have hlt4 : (k : Int) < 4 := by omega
          by_cases hpar : k % 2 = 1
          · have e0 : ((k : Int) % 2 == 1) = true := by simp; omega
            rcases HCASE.out with ⟨d1, _, d2⟩ | ⟨d1, d2⟩
            · have hem := empty_nf NA.out
              rw [show decide (x2 ≤ x0) = false by simp; omega] at hem
              have HE := Lib.hid hem; clear hem
              have d3 := d2 hpar
              have e1 : (x2 - x0 == n) = true := by simp [d3]
              have e2 : (x2 - x0 != n) = false := by simp [d3]
              clear d1 d2 d3 hpar
              go_wp2_with (first | (((go_at_call 25; (with_reducible refine (h_nf NA.out _).mono ?_); rintro e ua ⟨rfl, hb⟩; have hz := hb.size; refine (fun hB => ?_ : Below wr.heap.size wr ua → _) ?_; rotate_left; (focus ((repeat' (first | (with_reducible exact Below.refl _ _) | (with_reducible assumption) | (with_reducible refine below_from_drew ?_) | (with_reducible refine Below.alloc ?_ ?_ _) | (with_reducible refine Below.drew ?_) | (with_reducible refine below_drewN ?_ _) | (with_reducible refine Below.setCell ?_ ?_ _) | (with_reducible refine below_via ?_ (by assumption) ?_) | (with_reducible refine below_ov ?_ ?_ _ _) | go_size)); done)); (try simp only [World.size_alloc, World.size_setCell, World.size_drew, ov_size] at hz))); obtain ⟨hca, hfa, hoa⟩ := bcell3 hB) | (((go_at_call 26; (with_reducible refine (w_nf NA.out _).mono ?_); rintro e ub ⟨rfl, hb⟩; have hz := hb.size; refine (fun hB => ?_ : Below wr.heap.size wr ub → _) ?_; rotate_left; (focus ((repeat' (first | (with_reducible exact Below.refl _ _) | (with_reducible assumption) | (with_reducible refine below_from_drew ?_) | (with_reducible refine Below.alloc ?_ ?_ _) | (with_reducible refine Below.drew ?_) | (with_reducible refine below_drewN ?_ _) | (with_reducible refine Below.setCell ?_ ?_ _) | (with_reducible refine below_via ?_ (by assumption) ?_) | (with_reducible refine below_ov ?_ ?_ _ _) | go_size)); done)); (try simp only [World.size_alloc, World.size_setCell, World.size_drew, ov_size] at hz))); obtain ⟨hca, hfa, hoa⟩ := bcell3 hB) | (((go_at_call 22; (with_reducible refine (HE.out _).mono ?_); rintro e uc ⟨rfl, hb⟩; have hz := hb.size; refine (fun hB => ?_ : Below wr.heap.size wr uc → _) ?_; rotate_left; (focus ((repeat' (first | (with_reducible exact Below.refl _ _) | (with_reducible assumption) | (with_reducible refine below_from_drew ?_) | (with_reducible refine Below.alloc ?_ ?_ _) | (with_reducible refine Below.drew ?_) | (with_reducible refine below_drewN ?_ _) | (with_reducible refine Below.setCell ?_ ?_ _) | (with_reducible refine below_via ?_ (by assumption) ?_) | (with_reducible refine below_ov ?_ ?_ _ _) | go_size)); done)); (try simp only [World.size_alloc, World.size_setCell, World.size_drew, ov_size] at hz))); obtain ⟨hca, hfa, hoa⟩ := bcell3 hB))
              all_goals
                go_roundw
                case rel => exact ⟨k + 1, by omega, by go_num, below_via HBW.out hB hszw, has_below hB HHW.out, has_below hB HHR.out, has_below hB HHB.out, has_below hB HHI.out⟩
                case measure => simp [intOf]; try omega
            · have hem := empty_nf NA.out
              rw [show decide (x2 ≤ x0) = true by simp; omega] at hem
              have HE := Lib.hid hem; clear hem
              have e3 : ((k : Int) % 2 == 0) = false := by simp; omega
              clear d1 d2 hpar
              by_cases e1 : 0 < n
              · go_wp2_with (first | (((go_at_call 25; (with_reducible refine (h_nf NA.out _).mono ?_); rintro e ua ⟨rfl, hb⟩; have hz := hb.size; refine (fun hB => ?_ : Below wr.heap.size wr ua → _) ?_; rotate_left; (focus ((repeat' (first | (with_reducible exact Below.refl _ _) | (with_reducible assumption) | (with_reducible refine below_from_drew ?_) | (with_reducible refine Below.alloc ?_ ?_ _) | (with_reducible refine Below.drew ?_) | (with_reducible refine below_drewN ?_ _) | (with_reducible refine Below.setCell ?_ ?_ _) | (with_reducible refine below_via ?_ (by assumption) ?_) | (with_reducible refine below_ov ?_ ?_ _ _) | go_size)); done)); (try simp only [World.size_alloc, World.size_setCell, World.size_drew, ov_size] at hz))); obtain ⟨hca, hfa, hoa⟩ := bcell3 hB) | (((go_at_call 26; (with_reducible refine (w_nf NA.out _).mono ?_); rintro e ub ⟨rfl, hb⟩; have hz := hb.size; refine (fun hB => ?_ : Below wr.heap.size wr ub → _) ?_; rotate_left; (focus ((repeat' (first | (with_reducible exact Below.refl _ _) | (with_reducible assumption) | (with_reducible refine below_from_drew ?_) | (with_reducible refine Below.alloc ?_ ?_ _) | (with_reducible refine Below.drew ?_) | (with_reducible refine below_drewN ?_ _) | (with_reducible refine Below.setCell ?_ ?_ _) | (with_reducible refine below_via ?_ (by assumption) ?_) | (with_reducible refine below_ov ?_ ?_ _ _) | go_size)); done)); (try simp only [World.size_alloc, World.size_setCell, World.size_drew, ov_size] at hz))); obtain ⟨hca, hfa, hoa⟩ := bcell3 hB) | (((go_at_call 22; (with_reducible refine (HE.out _).mono ?_); rintro e uc ⟨rfl, hb⟩; have hz := hb.size; refine (fun hB => ?_ : Below wr.heap.size wr uc → _) ?_; rotate_left; (focus ((repeat' (first | (with_reducible exact Below.refl _ _) | (with_reducible assumption) | (with_reducible refine below_from_drew ?_) | (with_reducible refine Below.alloc ?_ ?_ _) | (with_reducible refine Below.drew ?_) | (with_reducible refine below_drewN ?_ _) | (with_reducible refine Below.setCell ?_ ?_ _) | (with_reducible refine below_via ?_ (by assumption) ?_) | (with_reducible refine below_ov ?_ ?_ _ _) | go_size)); done)); (try simp only [World.size_alloc, World.size_setCell, World.size_drew, ov_size] at hz))); obtain ⟨hca, hfa, hoa⟩ := bcell3 hB))
                all_goals
                  go_roundw
                  case rel => exact ⟨k + 1, by omega, by go_num, below_via HBW.out hB hszw, has_below hB HHW.out, has_below hB HHR.out, has_below hB HHB.out, has_below hB HHI.out⟩
                  case measure => simp [intOf]; try omega
              · go_wp2_with (first | (((go_at_call 25; (with_reducible refine (h_nf NA.out _).mono ?_); rintro e ua ⟨rfl, hb⟩; have hz := hb.size; refine (fun hB => ?_ : Below wr.heap.size wr ua → _) ?_; rotate_left; (focus ((repeat' (first | (with_reducible exact Below.refl _ _) | (with_reducible assumption) | (with_reducible refine below_from_drew ?_) | (with_reducible refine Below.alloc ?_ ?_ _) | (with_reducible refine Below.drew ?_) | (with_reducible refine below_drewN ?_ _) | (with_reducible refine Below.setCell ?_ ?_ _) | (with_reducible refine below_via ?_ (by assumption) ?_) | (with_reducible refine below_ov ?_ ?_ _ _) | go_size)); done)); (try simp only [World.size_alloc, World.size_setCell, World.size_drew, ov_size] at hz))); obtain ⟨hca, hfa, hoa⟩ := bcell3 hB) | (((go_at_call 26; (with_reducible refine (w_nf NA.out _).mono ?_); rintro e ub ⟨rfl, hb⟩; have hz := hb.size; refine (fun hB => ?_ : Below wr.heap.size wr ub → _) ?_; rotate_left; (focus ((repeat' (first | (with_reducible exact Below.refl _ _) | (with_reducible assumption) | (with_reducible refine below_from_drew ?_) | (with_reducible refine Below.alloc ?_ ?_ _) | (with_reducible refine Below.drew ?_) | (with_reducible refine below_drewN ?_ _) | (with_reducible refine Below.setCell ?_ ?_ _) | (with_reducible refine below_via ?_ (by assumption) ?_) | (with_reducible refine below_ov ?_ ?_ _ _) | go_size)); done)); (try simp only [World.size_alloc, World.size_setCell, World.size_drew, ov_size] at hz))); obtain ⟨hca, hfa, hoa⟩ := bcell3 hB) | (((go_at_call 22; (with_reducible refine (HE.out _).mono ?_); rintro e uc ⟨rfl, hb⟩; have hz := hb.size; refine (fun hB => ?_ : Below wr.heap.size wr uc → _) ?_; rotate_left; (focus ((repeat' (first | (with_reducible exact Below.refl _ _) | (with_reducible assumption) | (with_reducible refine below_from_drew ?_) | (with_reducible refine Below.alloc ?_ ?_ _) | (with_reducible refine Below.drew ?_) | (with_reducible refine below_drewN ?_ _) | (with_reducible refine Below.setCell ?_ ?_ _) | (with_reducible refine below_via ?_ (by assumption) ?_) | (with_reducible refine below_ov ?_ ?_ _ _) | go_size)); done)); (try simp only [World.size_alloc, World.size_setCell, World.size_drew, ov_size] at hz))); obtain ⟨hca, hfa, hoa⟩ := bcell3 hB))
                all_goals
                  go_roundw
                  case rel => exact ⟨k + 1, by omega, by go_num, below_via HBW.out hB hszw, has_below hB HHW.out, has_below hB HHR.out, has_below hB HHB.out, has_below hB HHI.out⟩
                  case measure => simp [intOf]; try omega
          · have e0 : ((k : Int) % 2 == 1) = false := by simp; omega
            have hpar2 : k % 2 = 0 := by omega
            have e3 : ((k : Int) % 2 == 0) = true := by simp; omega
            rcases HCASE.out with ⟨d1, d2, _⟩ | ⟨d1, d2⟩
            · have hem := empty_nf NA.out
              rw [show decide (x2 ≤ x0) = false by simp; omega] at hem
              have HE := Lib.hid hem; clear hem
              have d3 := d2 hpar2
              have e1 : (x3 - x1 == n) = true := by simp [d3]
              have e2 : (x3 - x1 != n) = false := by simp [d3]
              clear d1 d2 d3 hpar hpar2
              go_wp2_with (first | (((go_at_call 25; (with_reducible refine (h_nf NA.out _).mono ?_); rintro e ua ⟨rfl, hb⟩; have hz := hb.size; refine (fun hB => ?_ : Below wr.heap.size wr ua → _) ?_; rotate_left; (focus ((repeat' (first | (with_reducible exact Below.refl _ _) | (with_reducible assumption) | (with_reducible refine below_from_drew ?_) | (with_reducible refine Below.alloc ?_ ?_ _) | (with_reducible refine Below.drew ?_) | (with_reducible refine below_drewN ?_ _) | (with_reducible refine Below.setCell ?_ ?_ _) | (with_reducible refine below_via ?_ (by assumption) ?_) | (with_reducible refine below_ov ?_ ?_ _ _) | go_size)); done)); (try simp only [World.size_alloc, World.size_setCell, World.size_drew, ov_size] at hz))); obtain ⟨hca, hfa, hoa⟩ := bcell3 hB) | (((go_at_call 26; (with_reducible refine (w_nf NA.out _).mono ?_); rintro e ub ⟨rfl, hb⟩; have hz := hb.size; refine (fun hB => ?_ : Below wr.heap.size wr ub → _) ?_; rotate_left; (focus ((repeat' (first | (with_reducible exact Below.refl _ _) | (with_reducible assumption) | (with_reducible refine below_from_drew ?_) | (with_reducible refine Below.alloc ?_ ?_ _) | (with_reducible refine Below.drew ?_) | (with_reducible refine below_drewN ?_ _) | (with_reducible refine Below.setCell ?_ ?_ _) | (with_reducible refine below_via ?_ (by assumption) ?_) | (with_reducible refine below_ov ?_ ?_ _ _) | go_size)); done)); (try simp only [World.size_alloc, World.size_setCell, World.size_drew, ov_size] at hz))); obtain ⟨hca, hfa, hoa⟩ := bcell3 hB) | (((go_at_call 22; (with_reducible refine (HE.out _).mono ?_); rintro e uc ⟨rfl, hb⟩; have hz := hb.size; refine (fun hB => ?_ : Below wr.heap.size wr uc → _) ?_; rotate_left; (focus ((repeat' (first | (with_reducible exact Below.refl _ _) | (with_reducible assumption) | (with_reducible refine below_from_drew ?_) | (with_reducible refine Below.alloc ?_ ?_ _) | (with_reducible refine Below.drew ?_) | (with_reducible refine below_drewN ?_ _) | (with_reducible refine Below.setCell ?_ ?_ _) | (with_reducible refine below_via ?_ (by assumption) ?_) | (with_reducible refine below_ov ?_ ?_ _ _) | go_size)); done)); (try simp only [World.size_alloc, World.size_setCell, World.size_drew, ov_size] at hz))); obtain ⟨hca, hfa, hoa⟩ := bcell3 hB))
              all_goals
                go_roundw
                case rel => exact ⟨k + 1, by omega, by go_num, below_via HBW.out hB hszw, has_below hB HHW.out, has_below hB HHR.out, has_below hB HHB.out, has_below hB HHI.out⟩
                case measure => simp [intOf]; try omega
            · have hem := empty_nf NA.out
              rw [show decide (x2 ≤ x0) = true by simp; omega] at hem
              have HE := Lib.hid hem; clear hem
              have e1 : ¬ 0 < n := by have := d2 hpar2; omega
              clear d1 d2 hpar hpar2
              go_wp2_with (first | (((go_at_call 25; (with_reducible refine (h_nf NA.out _).mono ?_); rintro e ua ⟨rfl, hb⟩; have hz := hb.size; refine (fun hB => ?_ : Below wr.heap.size wr ua → _) ?_; rotate_left; (focus ((repeat' (first | (with_reducible exact Below.refl _ _) | (with_reducible assumption) | (with_reducible refine below_from_drew ?_) | (with_reducible refine Below.alloc ?_ ?_ _) | (with_reducible refine Below.drew ?_) | (with_reducible refine below_drewN ?_ _) | (with_reducible refine Below.setCell ?_ ?_ _) | (with_reducible refine below_via ?_ (by assumption) ?_) | (with_reducible refine below_ov ?_ ?_ _ _) | go_size)); done)); (try simp only [World.size_alloc, World.size_setCell, World.size_drew, ov_size] at hz))); obtain ⟨hca, hfa, hoa⟩ := bcell3 hB) | (((go_at_call 26; (with_reducible refine (w_nf NA.out _).mono ?_); rintro e ub ⟨rfl, hb⟩; have hz := hb.size; refine (fun hB => ?_ : Below wr.heap.size wr ub → _) ?_; rotate_left; (focus ((repeat' (first | (with_reducible exact Below.refl _ _) | (with_reducible assumption) | (with_reducible refine below_from_drew ?_) | (with_reducible refine Below.alloc ?_ ?_ _) | (with_reducible refine Below.drew ?_) | (with_reducible refine below_drewN ?_ _) | (with_reducible refine Below.setCell ?_ ?_ _) | (with_reducible refine below_via ?_ (by assumption) ?_) | (with_reducible refine below_ov ?_ ?_ _ _) | go_size)); done)); (try simp only [World.size_alloc, World.size_setCell, World.size_drew, ov_size] at hz))); obtain ⟨hca, hfa, hoa⟩ := bcell3 hB) | (((go_at_call 22; (with_reducible refine (HE.out _).mono ?_); rintro e uc ⟨rfl, hb⟩; have hz := hb.size; refine (fun hB => ?_ : Below wr.heap.size wr uc → _) ?_; rotate_left; (focus ((repeat' (first | (with_reducible exact Below.refl _ _) | (with_reducible assumption) | (with_reducible refine below_from_drew ?_) | (with_reducible refine Below.alloc ?_ ?_ _) | (with_reducible refine Below.drew ?_) | (with_reducible refine below_drewN ?_ _) | (with_reducible refine Below.setCell ?_ ?_ _) | (with_reducible refine below_via ?_ (by assumption) ?_) | (with_reducible refine below_ov ?_ ?_ _ _) | go_size)); done)); (try simp only [World.size_alloc, World.size_setCell, World.size_drew, ov_size] at hz))); obtain ⟨hca, hfa, hoa⟩ := bcell3 hB))
              all_goals
                go_roundw
                case rel => exact ⟨k + 1, by omega, by go_num, below_via HBW.out hB hszw, has_below hB HHW.out, has_below hB HHR.out, has_below hB HHB.out, has_below hB HHI.out⟩
                case measure => simp [intOf]; try omega
      · as_aux_lemma =>
          obtain rfl : k = 4 := by omega
          obtain ⟨c0, c1, c2, c3⟩ := has4 HHW.out
          obtain ⟨f0, f1, f2, f3⟩ := has4 HHR.out
          obtain ⟨g0, g1, g2, g3⟩ := has4 HHI.out
          go_wp2_with (((go_at_call 27; (with_reducible refine (inset_any _ _ _ _ _ _ _ _ _).mono ?_); rintro e ua ⟨rfl, hb⟩; have hz := hb.size; refine (fun hB => ?_ : Below wr.heap.size wr ua → _) ?_; rotate_left; (focus ((repeat' (first | (with_reducible exact Below.refl _ _) | (with_reducible assumption) | (with_reducible refine below_from_drew ?_) | (with_reducible refine Below.alloc ?_ ?_ _) | (with_reducible refine Below.drew ?_) | (with_reducible refine below_drewN ?_ _) | (with_reducible refine Below.setCell ?_ ?_ _) | (with_reducible refine below_via ?_ (by assumption) ?_) | (with_reducible refine below_ov ?_ ?_ _ _) | go_size)); done)); (try simp only [World.size_alloc, World.size_setCell, World.size_drew, ov_size] at hz))); obtain ⟨hca, hfa, hoa⟩ := bcell3 hB)
          go_ret
          have hBW := HBW.out
          exact ⟨ret_bool (eq4_true ⟨rfl, rfl, rfl, rfl⟩), by (repeat' (first | (with_reducible exact Below.refl _ _) | (with_reducible assumption) | (with_reducible refine below_from_drew ?_) | (with_reducible refine Below.alloc ?_ ?_ _) | (with_reducible refine Below.drew ?_) | (with_reducible refine below_drewN ?_ _) | (with_reducible refine Below.setCell ?_ ?_ _) | (with_reducible refine below_via ?_ (by assumption) ?_) | (with_reducible refine below_ov ?_ ?_ _ _) | go_size))⟩
theorem borders_row (a b c d T R B L : Int) (w : World) (h0 : (Lit.int .u8 T).wf = true) (h1 : (Lit.int .u8 R).wf = true) (h2 : (Lit.int .u8 B).wf = true) (h3 : (Lit.int .u8 L).wf = true) : Calls Try.prog 5 #[(.agg #[.int .i64 (a), .int .i64 (b), .int .i64 (c), .int .i64 (d)]), .agg #[.int .u8 T, .int .u8 R, .int .u8 B, .int .u8 L]] w fun e w' => e = .returned (.bool true) ∧ Below w.heap.size w w' :=
  borders_any a b c d T R B L (by simpa [Lit.wf, IntKind.min, IntKind.max, IntKind.bits, IntKind.signed] using h0) (by simpa [Lit.wf, IntKind.min, IntKind.max, IntKind.bits, IntKind.signed] using h1) (by simpa [Lit.wf, IntKind.min, IntKind.max, IntKind.bits, IntKind.signed] using h2) (by simpa [Lit.wf, IntKind.min, IntKind.max, IntKind.bits, IntKind.signed] using h3) w
end Go.Proofs.Ytfppkomffkjciaa
