/- The law SnapTiles, walked. -/
import Derived.Test.YtfppkomffkjciaaSnapH
import Derived.Test.YtfppkomffkjciaaRow
import Derived.Deep.DeepCutAuto
import Derived.LoopTactic
namespace Go.Proofs.Ytfppkomffkjciaa
open Go.RowKit
set_option linter.unusedSimpArgs false
set_option linter.unusedVariables false
-- below_from_drew
attribute [local go_sem] ov_cell_same ov_cell_other ov_frozen_same ov_frozen_other ov_size ov_setCell_same ov_setCell_other cell_alloc_old frozen_alloc_old setCell_alloc_old old_alloc old_ov old_drew old_drewN old_setCell
attribute [local go_sem ↓] run_max2 run_min2 eql_rect

theorem snapped_tile {x y u v c d : Int} (h : cutB x y u v) (hc : 0 ≤ c ∧ c ≤ u) (hd : 0 ≤ d ∧ d ≤ v) (k : Nat) (w : World) : Calls Try.prog 18 #[(.agg #[.int .i64 (lX x (x + c) k), .int .i64 (tY y (y + d) k), .int .i64 (lX c (u - c) k), .int .i64 (tY d (v - d) k)])] w fun e w' =>
    e = .returned (.tuple #[(.agg #[.int .i64 (n0F (ed x) (ed (x + c)) (ed (x + u)) (ed y) (ed (y + d)) (ed (y + v)) k), .int .i64 (n1F (ed x) (ed (x + c)) (ed (x + u)) (ed y) (ed (y + d)) (ed (y + v)) k), .int .i64 (n2F (ed x) (ed (x + c)) (ed (x + u)) (ed y) (ed (y + d)) (ed (y + v)) k), .int .i64 (n3F (ed x) (ed (x + c)) (ed (x + u)) (ed y) (ed (y + d)) (ed (y + v)) k)]), .int .i64 0]) ∧ Below w.heap.size w w' := by
  unfold cutB at h
  have hq : cutB (lX x (x + c) k) (tY y (y + d) k) (lX c (u - c) k) (tY d (v - d) k) ∨ (lX x (x + c) k = x + c ∨ tY y (y + d) k = y + d) := by
    unfold lX tY cutB
    split
    · split
      · left; omega
      · right; right; rfl
    · right; left; rfl
  have hf : boxF (lX x (x + c) k) (tY y (y + d) k) (lX c (u - c) k) (tY d (v - d) k) = some (lX (ed x) (ed (x + c)) k, tY (ed y) (ed (y + d)) k, lX (ed (x + c)) (ed (x + u)) k, tY (ed (y + d)) (ed (y + v)) k) := by
    rw [boxF_in]
    · have e1 : lX x (x + c) k + lX c (u - c) k = lX (x + c) (x + u) k := by unfold lX; split <;> omega
      have e2 : tY y (y + d) k + tY d (v - d) k = tY (y + d) (y + v) k := by unfold tY; split <;> omega
      rw [e1, e2]
      unfold lX tY
      split <;> split <;> rfl
    all_goals (unfold inL; first | (unfold lX; split <;> omega) | (unfold tY; split <;> omega))
  exact s25_ok _ _ _ _ hf w
theorem s25_cut {x y u v : Int} (h : cutB x y u v) (w : World) : Calls Try.prog 18 #[(.agg #[.int .i64 (x), .int .i64 (y), .int .i64 (u), .int .i64 (v)])] w fun e w' => e = .returned (.tuple #[(.agg #[.int .i64 (r0 (ed x) (ed y) (ed (x + u)) (ed (y + v))), .int .i64 (r1 (ed x) (ed y) (ed (x + u)) (ed (y + v))), .int .i64 (r2 (ed x) (ed y) (ed (x + u)) (ed (y + v))), .int .i64 (r3 (ed x) (ed y) (ed (x + u)) (ed (y + v)))]), .int .i64 0]) ∧ Below w.heap.size w w' := s25_ok x y u v (boxF_cut h) w
theorem area_whole {p q r s : Int} (h1 : -1073741824 ≤ p ∧ p ≤ r ∧ r ≤ 1073741824) (h2 : -1073741824 ≤ q ∧ q ≤ s ∧ s ≤ 1073741824) : (r2 p q r s - r0 p q r s) * (r3 p q r s - r1 p q r s) = (r - p) * (s - q) := by
  rcases r_in (a := p) (b := q) (c := r) (d := s) (by omega) (by omega) (by omega) (by omega) with ⟨a1, a2, a3, a4, a5, a6⟩ | ⟨a1, a3, a4, a5, a6⟩
  · rw [a3, a4, a5, a6]
  · rw [a3, a4, a5, a6]
    rcases a1 with a1 | a1
    · rw [show r - p = 0 by omega]; simp
    · rw [show s - q = 0 by omega]; simp
theorem infoR : (Try.prog.info? 28).map (fun i => (i.zero, i.size, i.bytes)) = some (some (.agg #[.int .i64 0, .int .i64 0, .int .i64 0, .int .i64 0]), 4, 32) := by kernel_rfl
/-- The cells of the four parts. -/
def partCells (x y u v c d : Int) : Array Value := #[.int .i64 x, .int .i64 y, .int .i64 c, .int .i64 d, .int .i64 (x + c), .int .i64 y, .int .i64 (u - c), .int .i64 d, .int .i64 x, .int .i64 (y + d), .int .i64 c, .int .i64 (v - d), .int .i64 (x + c), .int .i64 (y + d), .int .i64 (u - c), .int .i64 (v - d)]
theorem part_get (x y u v c d : Int) {k : Nat} (hk : k < 4) : (partCells x y u v c d)[k * 4]? = some (.int .i64 (lX x (x + c) k)) ∧ (partCells x y u v c d)[k * 4 + 1]? = some (.int .i64 (tY y (y + d) k)) ∧ (partCells x y u v c d)[k * 4 + 2]? = some (.int .i64 (lX c (u - c) k)) ∧ (partCells x y u v c d)[k * 4 + 3]? = some (.int .i64 (tY d (v - d) k)) := by
  have : k = 0 ∨ k = 1 ∨ k = 2 ∨ k = 3 := by omega
  rcases this with rfl | rfl | rfl | rfl <;> exact ⟨rfl, rfl, rfl, rfl⟩
set_option maxRecDepth 100000 in
set_option maxHeartbeats 4000000 in
theorem tiles_any (a b c0 d0 m0 m1 : Int) (hm0 : 0 ≤ m0 ∧ m0 ≤ 4294967295) (hm1 : 0 ≤ m1 ∧ m1 ≤ 4294967295) (w : World) : Calls Try.prog 4 #[(.agg #[.int .i64 (a), .int .i64 (b), .int .i64 (c0), .int .i64 (d0)]), .agg #[.int .u32 m0, .int .u32 m1]] w fun e w' => e = .returned (.bool true) ∧ Below w.heap.size w w' := by
  obtain ⟨i0, hi, hz0, hz1, hz2⟩ := info_parts infoR
  have hc := cut_cutB a b c0 d0
  have hcut := cut25_any a b c0 d0
  generalize a.tmod 17179869184 = x at hc hcut
  generalize b.tmod 17179869184 = y at hc hcut
  generalize c0 % 1073741824 = u at hc hcut
  generalize d0 % 1073741824 = v at hc hcut
  obtain ⟨c, hcd, hcb⟩ : ∃ c : Int, c = (if 0 < u then m0 % u else 0) ∧ 0 ≤ c ∧ c ≤ u := ⟨_, rfl, by
    unfold cutB at hc
    split
    · have := Int.emod_nonneg m0 (b := u) (by omega); have := Int.emod_lt_of_pos m0 (b := u) (by omega); omega
    · omega⟩
  obtain ⟨d, hdd, hdb⟩ : ∃ d : Int, d = (if 0 < v then m1 % v else 0) ∧ 0 ≤ d ∧ d ≤ v := ⟨_, rfl, by
    unfold cutB at hc
    split
    · have := Int.emod_nonneg m1 (b := v) (by omega); have := Int.emod_lt_of_pos m1 (b := v) (by omega); omega
    · omega⟩
  have htile := snapped_tile hc hcb hdb
  have hsn := s25_cut hc
  have hed : Edges (ed x) (ed (x + c)) (ed (x + u)) (ed y) (ed (y + d)) (ed (y + v)) := by unfold Edges ed; unfold cutB at hc; omega
  have hcb2 : (-17179869184 ≤ x ∧ x ≤ 17179869184) ∧ (-17179869184 ≤ y ∧ y ≤ 17179869184) ∧ (0 ≤ u ∧ u ≤ 1073800000) ∧ (0 ≤ v ∧ v ≤ 1073800000) := by unfold cutB at hc; omega
  have HC := Lib.hid hcut; clear hcut
  have HT := Lib.hid htile; clear htile
  have HS := Lib.hid hsn; clear hsn
  have HE := Lib.hid hed; clear hed
  have HCD := Lib.hid hcd; clear hcd
  have HDD := Lib.hid hdd; clear hdd
  clear hc
  obtain ⟨⟨x1, x2⟩, ⟨y1, y2⟩, ⟨u1', u2'⟩, v1', v2'⟩ := hcb2
  obtain ⟨c1, c2⟩ := hcb
  obtain ⟨d1, d2⟩ := hdb
  obtain ⟨n01, n02⟩ := hm0
  obtain ⟨n11, n12⟩ := hm1
  go_enter Try.func4, Try.ntmps4
  go_upto_if 25 with (first | (go_at_call 16; (with_reducible refine (speaks25_any _).mono ?_); rintro e w1 ⟨rfl, hb⟩; refine Exists.elim (after2 (w := w) (b0 := w.heap.size) (cs0 := ?_) (T0 := ?_) (b1 := w.heap.size + 1) (cs1 := ?_) (T1 := ?_) hb ?_ ?_ ?_) ?_; rotate_left 4; (focus ((repeat' (first | (with_reducible exact Below.refl _ _) | (with_reducible assumption) | (with_reducible refine below_from_drew ?_) | (with_reducible refine Below.alloc ?_ ?_ _) | (with_reducible refine Below.drew ?_) | (with_reducible refine below_drewN ?_ _) | (with_reducible refine Below.setCell ?_ ?_ _) | (with_reducible refine below_via ?_ (by assumption) ?_) | (with_reducible refine below_ov ?_ ?_ _ _) | go_size)); done)); (focus ((repeat' (first | (with_reducible refine has_drew ?_) | (with_reducible refine has_drewN ?_) | (with_reducible refine has_new ?_; (first | (with_reducible rfl) | omega | (simp; done) | (simp; omega))) | (with_reducible refine has_ov_same ?_; (first | (with_reducible rfl) | omega | (simp; done) | (simp; omega))) | (with_reducible refine has_alloc ?_) | (with_reducible refine has_ov_other ?_ ?_; (focus (first | (with_reducible rfl) | omega | (simp; done) | (simp; omega)))))); done)); (focus ((repeat' (first | (with_reducible refine has_drew ?_) | (with_reducible refine has_drewN ?_) | (with_reducible refine has_new ?_; (first | (with_reducible rfl) | omega | (simp; done) | (simp; omega))) | (with_reducible refine has_ov_same ?_; (first | (with_reducible rfl) | omega | (simp; done) | (simp; omega))) | (with_reducible refine has_alloc ?_) | (with_reducible refine has_ov_other ?_ ?_; (focus (first | (with_reducible rfl) | omega | (simp; done) | (simp; omega)))))); done)); rintro u1 ⟨rfl, hB, hz, z0, o0, z1, o1⟩; (try simp only [World.size_alloc, World.size_setCell, World.size_drew, ov_size] at hz)) | (go_at_call 17; (with_reducible refine (HC.out _).mono ?_); rintro e w1 ⟨rfl, hb⟩; refine Exists.elim (after2 (w := w) (b0 := w.heap.size) (cs0 := ?_) (T0 := ?_) (b1 := w.heap.size + 1) (cs1 := ?_) (T1 := ?_) hb ?_ ?_ ?_) ?_; rotate_left 4; (focus ((repeat' (first | (with_reducible exact Below.refl _ _) | (with_reducible assumption) | (with_reducible refine below_from_drew ?_) | (with_reducible refine Below.alloc ?_ ?_ _) | (with_reducible refine Below.drew ?_) | (with_reducible refine below_drewN ?_ _) | (with_reducible refine Below.setCell ?_ ?_ _) | (with_reducible refine below_via ?_ (by assumption) ?_) | (with_reducible refine below_ov ?_ ?_ _ _) | go_size)); done)); (focus ((repeat' (first | (with_reducible refine has_drew ?_) | (with_reducible refine has_drewN ?_) | (with_reducible refine has_new ?_; (first | (with_reducible rfl) | omega | (simp; done) | (simp; omega))) | (with_reducible refine has_ov_same ?_; (first | (with_reducible rfl) | omega | (simp; done) | (simp; omega))) | (with_reducible refine has_alloc ?_) | (with_reducible refine has_ov_other ?_ ?_; (focus (first | (with_reducible rfl) | omega | (simp; done) | (simp; omega)))))); done)); (focus ((repeat' (first | (with_reducible refine has_drew ?_) | (with_reducible refine has_drewN ?_) | (with_reducible refine has_new ?_; (first | (with_reducible rfl) | omega | (simp; done) | (simp; omega))) | (with_reducible refine has_ov_same ?_; (first | (with_reducible rfl) | omega | (simp; done) | (simp; omega))) | (with_reducible refine has_alloc ?_) | (with_reducible refine has_ov_other ?_ ?_; (focus (first | (with_reducible rfl) | omega | (simp; done) | (simp; omega)))))); done)); rintro u2 ⟨rfl, hB, hz, z0, o0, z1, o1⟩; (try simp only [World.size_alloc, World.size_setCell, World.size_drew, ov_size] at hz)))
  go_cut [5] (fun s wx => s = .int .i64 c ∧ wx = ov (ov u2 w.heap.size #[.int .i64 x, .int .i64 y, .int .i64 u, .int .i64 v] 22) (w.heap.size + 1) #[.int .u32 m0, .int .u32 m1] 35)
  case first =>
    by_cases hu : 0 < u
    · have e := HCD.out
      rw [if_pos hu] at e
      have E := Lib.hid e; clear e
      have hnz : (u == 0) = false := by simp; omega
      go_wp2_with fail
      go_meet
      exact ⟨by rw [E.out], rfl⟩
    · have e := HCD.out
      rw [if_neg hu] at e
      have E := Lib.hid e; clear e
      go_wp2_with fail
      go_meet
      exact ⟨by rw [E.out], rfl⟩
  case rest =>
    obtain ⟨rfl, rfl⟩ := hcut
    go_upto_if 34 with fail
    go_cut [6] (fun s wx => s = .int .i64 d ∧ wx = ov (ov u2 w.heap.size #[.int .i64 x, .int .i64 y, .int .i64 u, .int .i64 v] 22) (w.heap.size + 1) #[.int .u32 m0, .int .u32 m1] 35)
    case first =>
      by_cases hu : 0 < v
      · have e := HDD.out
        rw [if_pos hu] at e
        have E := Lib.hid e; clear e
        have hnz : (v == 0) = false := by simp; omega
        go_wp2_with fail
        go_meet
        exact ⟨by rw [E.out], rfl⟩
      · have e := HDD.out
        rw [if_neg hu] at e
        have E := Lib.hid e; clear e
        go_wp2_with fail
        go_meet
        exact ⟨by rw [E.out], rfl⟩
    case rest =>
      obtain ⟨rfl, rfl⟩ := hcut
      clear HCD HDD
      go_wp2_with (go_at_call 18; (with_reducible refine (HS.out _).mono ?_); rintro e w1 ⟨rfl, hb⟩; refine Exists.elim (after3 (w := w) (b0 := w.heap.size) (cs0 := ?_) (T0 := ?_) (b1 := w.heap.size + 1) (cs1 := ?_) (T1 := ?_) (b2 := u2.heap.size) (cs2 := ?_) (T2 := ?_) hb ?_ ?_ ?_ ?_) ?_; rotate_left 6; (focus ((repeat' (first | (with_reducible exact Below.refl _ _) | (with_reducible assumption) | (with_reducible refine below_from_drew ?_) | (with_reducible refine Below.alloc ?_ ?_ _) | (with_reducible refine Below.drew ?_) | (with_reducible refine below_drewN ?_ _) | (with_reducible refine Below.setCell ?_ ?_ _) | (with_reducible refine below_via ?_ (by assumption) ?_) | (with_reducible refine below_ov ?_ ?_ _ _) | go_size)); done)); (focus ((repeat' (first | (with_reducible refine has_drew ?_) | (with_reducible refine has_drewN ?_) | (with_reducible refine has_new ?_; (first | (with_reducible rfl) | omega | (simp; done) | (simp; omega))) | (with_reducible refine has_ov_same ?_; (first | (with_reducible rfl) | omega | (simp; done) | (simp; omega))) | (with_reducible refine has_alloc ?_) | (with_reducible refine has_ov_other ?_ ?_; (focus (first | (with_reducible rfl) | omega | (simp; done) | (simp; omega)))))); done)); (focus ((repeat' (first | (with_reducible refine has_drew ?_) | (with_reducible refine has_drewN ?_) | (with_reducible refine has_new ?_; (first | (with_reducible rfl) | omega | (simp; done) | (simp; omega))) | (with_reducible refine has_ov_same ?_; (first | (with_reducible rfl) | omega | (simp; done) | (simp; omega))) | (with_reducible refine has_alloc ?_) | (with_reducible refine has_ov_other ?_ ?_; (focus (first | (with_reducible rfl) | omega | (simp; done) | (simp; omega)))))); done)); (focus ((repeat' (first | (with_reducible refine has_drew ?_) | (with_reducible refine has_drewN ?_) | (with_reducible refine has_new ?_; (first | (with_reducible rfl) | omega | (simp; done) | (simp; omega))) | (with_reducible refine has_ov_same ?_; (first | (with_reducible rfl) | omega | (simp; done) | (simp; omega))) | (with_reducible refine has_alloc ?_) | (with_reducible refine has_ov_other ?_ ?_; (focus (first | (with_reducible rfl) | omega | (simp; done) | (simp; omega)))))); done)); rintro u3 ⟨rfl, hB, hz, z0, o0, z1, o1, z2, o2⟩; (try simp only [World.size_alloc, World.size_setCell, World.size_drew, ov_size] at hz))
      have q2 : w.heap.size < u2.heap.size := by omega
      have q3 : u2.heap.size < u3.heap.size := by assumption
      go_loopw [10, 11, 12] (fun s vv i wr => ∃ k : Nat, k ≤ 4 ∧ i = .int .i64 k ∧ s = .int .i64 (sumF (ed x) (ed (x + c)) (ed (x + u)) (ed y) (ed (y + d)) (ed (y + v)) k) ∧ Below w.heap.size w wr ∧ Has wr w.heap.size #[.int .i64 x, .int .i64 y, .int .i64 u, .int .i64 v] 22 ∧ Has wr u2.heap.size (partCells x y u v c d) 22 ∧ Has wr u3.heap.size #[.int .i64 (r0 (ed x) (ed y) (ed (x + u)) (ed (y + v))), .int .i64 (r1 (ed x) (ed y) (ed (x + u)) (ed (y + v))), .int .i64 (r2 (ed x) (ed y) (ed (x + u)) (ed (y + v))), .int .i64 (r3 (ed x) (ed y) (ed (x + u)) (ed (y + v)))] 28 ∧ wr.ownsRow (u3.heap.size + 1) 28 4 vv k (cells4 (n0F (ed x) (ed (x + c)) (ed (x + u)) (ed y) (ed (y + d)) (ed (y + v))) (n1F (ed x) (ed (x + c)) (ed (x + u)) (ed y) (ed (y + d)) (ed (y + v))) (n2F (ed x) (ed (x + c)) (ed (x + u)) (ed y) (ed (y + d)) (ed (y + v))) (n3F (ed x) (ed (x + c)) (ed (x + u)) (ed y) (ed (y + d)) (ed (y + v))) k)) (fun _ _ i _ => (4 - intOf i).toNat)
      case atStart => exact ⟨0, by omega, rfl, rfl, by (repeat' (first | (with_reducible exact Below.refl _ _) | (with_reducible assumption) | (with_reducible refine below_from_drew ?_) | (with_reducible refine Below.alloc ?_ ?_ _) | (with_reducible refine Below.drew ?_) | (with_reducible refine below_drewN ?_ _) | (with_reducible refine Below.setCell ?_ ?_ _) | (with_reducible refine below_via ?_ (by assumption) ?_) | (with_reducible refine below_ov ?_ ?_ _ _) | go_size)), by (repeat' (first | (with_reducible refine has_drew ?_) | (with_reducible refine has_drewN ?_) | (with_reducible refine has_new ?_; (first | (with_reducible rfl) | omega | (simp; done) | (simp; omega))) | (with_reducible refine has_ov_same ?_; (first | (with_reducible rfl) | omega | (simp; done) | (simp; omega))) | (with_reducible refine has_alloc ?_) | (with_reducible refine has_ov_other ?_ ?_; (focus (first | (with_reducible rfl) | omega | (simp; done) | (simp; omega)))))), by unfold partCells; (repeat' (first | (with_reducible refine has_drew ?_) | (with_reducible refine has_drewN ?_) | (with_reducible refine has_new ?_; (first | (with_reducible rfl) | omega | (simp; done) | (simp; omega))) | (with_reducible refine has_ov_same ?_; (first | (with_reducible rfl) | omega | (simp; done) | (simp; omega))) | (with_reducible refine has_alloc ?_) | (with_reducible refine has_ov_other ?_ ?_; (focus (first | (with_reducible rfl) | omega | (simp; done) | (simp; omega)))))), by (repeat' (first | (with_reducible refine has_drew ?_) | (with_reducible refine has_drewN ?_) | (with_reducible refine has_new ?_; (first | (with_reducible rfl) | omega | (simp; done) | (simp; omega))) | (with_reducible refine has_ov_same ?_; (first | (with_reducible rfl) | omega | (simp; done) | (simp; omega))) | (with_reducible refine has_alloc ?_) | (with_reducible refine has_ov_other ?_ ?_; (focus (first | (with_reducible rfl) | omega | (simp; done) | (simp; omega)))))), World.ownsRow_nil _ _ _ _⟩
      case round =>
        obtain ⟨k, hk4, rfl, rfl, hBw, hHb, hHp, hHr, hown⟩ := hrel
        obtain ⟨al, cap, rfl, hkc, hcap, hrd⟩ := row_reads hown
        have HRD := Lib.hid hrd; clear hrd
        have HOWN := Lib.hid hown; clear hown
        have lb := hHb.lt
        have lp := hHp.lt
        have lr := hHr.lt
        have hszw := hBw.size
        obtain ⟨rc0, rc1, rc2, rc3⟩ := has4 hHr
        have HHB := Lib.hid hHb; clear hHb
        have HHR := Lib.hid hHr; clear hHr
        have HHP := Lib.hid hHp; clear hHp
        have HBW := Lib.hid hBw; clear hBw
        by_cases hlt : k < 4
        · obtain ⟨g0, g1, g2, g3⟩ := part_get x y u v c d hlt
          have p0 := has_cell HHP.out g0
          have p1 := has_cell HHP.out g1
          have p2 := has_cell HHP.out g2
          have p3 := has_cell HHP.out g3
          clear g0 g1 g2 g3
          have hho := holds_any (r0 (ed x) (ed y) (ed (x + u)) (ed (y + v))) (r1 (ed x) (ed y) (ed (x + u)) (ed (y + v))) (r2 (ed x) (ed y) (ed (x + u)) (ed (y + v))) (r3 (ed x) (ed y) (ed (x + u)) (ed (y + v))) (n0F (ed x) (ed (x + c)) (ed (x + u)) (ed y) (ed (y + d)) (ed (y + v)) k) (n1F (ed x) (ed (x + c)) (ed (x + u)) (ed y) (ed (y + d)) (ed (y + v)) k) (n2F (ed x) (ed (x + c)) (ed (x + u)) (ed y) (ed (y + d)) (ed (y + v)) k) (n3F (ed x) (ed (x + c)) (ed (x + u)) (ed y) (ed (y + d)) (ed (y + v)) k)
          rw [tile_holds HE.out hlt] at hho
          have HHO := Lib.hid hho; clear hho
          have hlt4 : (k : Int) < 4 := by omega
          go_wp2_with (first | (((go_at_call 18; (with_reducible refine (HT.out k _).mono ?_); rintro e ua ⟨rfl, hb⟩; have hz := hb.size; refine (fun hB => ?_ : Below wr.heap.size wr ua → _) ?_; rotate_left; (focus ((repeat' (first | (with_reducible exact Below.refl _ _) | (with_reducible assumption) | (with_reducible refine below_from_drew ?_) | (with_reducible refine Below.alloc ?_ ?_ _) | (with_reducible refine Below.drew ?_) | (with_reducible refine below_drewN ?_ _) | (with_reducible refine Below.setCell ?_ ?_ _) | (with_reducible refine below_via ?_ (by assumption) ?_) | (with_reducible refine below_ov ?_ ?_ _ _) | go_size)); done)); (try simp only [World.size_alloc, World.size_setCell, World.size_drew, ov_size] at hz))); obtain ⟨hca, hfa, hoa⟩ := bcell3 hB) | (((go_at_call 20; (with_reducible refine (HHO.out _).mono ?_); rintro e w1 ⟨rfl, hb⟩; refine Exists.elim (after1 (w := wr) (b0 := ua.heap.size) (cs0 := ?_) (T0 := ?_) hb ?_ ?_) ?_; rotate_left 2; (focus ((repeat' (first | (with_reducible exact Below.refl _ _) | (with_reducible assumption) | (with_reducible refine below_from_drew ?_) | (with_reducible refine Below.alloc ?_ ?_ _) | (with_reducible refine Below.drew ?_) | (with_reducible refine below_drewN ?_ _) | (with_reducible refine Below.setCell ?_ ?_ _) | (with_reducible refine below_via ?_ (by assumption) ?_) | (with_reducible refine below_ov ?_ ?_ _ _) | go_size)); done)); (focus ((repeat' (first | (with_reducible refine has_drew ?_) | (with_reducible refine has_drewN ?_) | (with_reducible refine has_new ?_; (first | (with_reducible rfl) | omega | (simp; done) | (simp; omega))) | (with_reducible refine has_ov_same ?_; (first | (with_reducible rfl) | omega | (simp; done) | (simp; omega))) | (with_reducible refine has_alloc ?_) | (with_reducible refine has_ov_other ?_ ?_; (focus (first | (with_reducible rfl) | omega | (simp; done) | (simp; omega)))))); done)); rintro ub ⟨rfl, hB, hz, z0, o0⟩; (try simp only [World.size_alloc, World.size_setCell, World.size_drew, ov_size] at hz))); obtain ⟨hcb, hfb, hob⟩ := bcell3 hB))
          have hpu : Has (ov ub ua.heap.size #[.int .i64 (n0F (ed x) (ed (x + c)) (ed (x + u)) (ed y) (ed (y + d)) (ed (y + v)) k), .int .i64 (n1F (ed x) (ed (x + c)) (ed (x + u)) (ed y) (ed (y + d)) (ed (y + v)) k), .int .i64 (n2F (ed x) (ed (x + c)) (ed (x + u)) (ed y) (ed (y + d)) (ed (y + v)) k), .int .i64 (n3F (ed x) (ed (x + c)) (ed (x + u)) (ed y) (ed (y + d)) (ed (y + v)) k)] 28) ua.heap.size #[.int .i64 (n0F (ed x) (ed (x + c)) (ed (x + u)) (ed y) (ed (y + d)) (ed (y + v)) k), .int .i64 (n1F (ed x) (ed (x + c)) (ed (x + u)) (ed y) (ed (y + d)) (ed (y + v)) k), .int .i64 (n2F (ed x) (ed (x + c)) (ed (x + u)) (ed y) (ed (y + d)) (ed (y + v)) k), .int .i64 (n3F (ed x) (ed (x + c)) (ed (x + u)) (ed y) (ed (y + d)) (ed (y + v)) k)] 28 := by (repeat' (first | (with_reducible refine has_drew ?_) | (with_reducible refine has_drewN ?_) | (with_reducible refine has_new ?_; (first | (with_reducible rfl) | omega | (simp; done) | (simp; omega))) | (with_reducible refine has_ov_same ?_; (first | (with_reducible rfl) | omega | (simp; done) | (simp; omega))) | (with_reducible refine has_alloc ?_) | (with_reducible refine has_ov_other ?_ ?_; (focus (first | (with_reducible rfl) | omega | (simp; done) | (simp; omega))))))
          have hbu : Below wr.heap.size wr (ov ub ua.heap.size #[.int .i64 (n0F (ed x) (ed (x + c)) (ed (x + u)) (ed y) (ed (y + d)) (ed (y + v)) k), .int .i64 (n1F (ed x) (ed (x + c)) (ed (x + u)) (ed y) (ed (y + d)) (ed (y + v)) k), .int .i64 (n2F (ed x) (ed (x + c)) (ed (x + u)) (ed y) (ed (y + d)) (ed (y + v)) k), .int .i64 (n3F (ed x) (ed (x + c)) (ed (x + u)) (ed y) (ed (y + d)) (ed (y + v)) k)] 28) := by (repeat' (first | (with_reducible exact Below.refl _ _) | (with_reducible assumption) | (with_reducible refine below_from_drew ?_) | (with_reducible refine Below.alloc ?_ ?_ _) | (with_reducible refine Below.drew ?_) | (with_reducible refine below_drewN ?_ _) | (with_reducible refine Below.setCell ?_ ?_ _) | (with_reducible refine below_via ?_ (by assumption) ?_) | (with_reducible refine below_ov ?_ ?_ _ _) | go_size))
          have HPU := Lib.hid hpu; clear hpu
          have hua : wr.heap.size ≤ ua.heap.size := by omega
          clear hca hfa hoa hcb hfb hob
          obtain ⟨wo, rfl⟩ : ∃ wo : World, wo = wr := ⟨_, rfl⟩
          go_loopw [15] (fun jv wi => ∃ jj : Nat, jj ≤ k ∧ jv = .int .i64 jj ∧ Below wo.heap.size wo wi ∧ Has wi ua.heap.size #[.int .i64 (n0F (ed x) (ed (x + c)) (ed (x + u)) (ed y) (ed (y + d)) (ed (y + v)) k), .int .i64 (n1F (ed x) (ed (x + c)) (ed (x + u)) (ed y) (ed (y + d)) (ed (y + v)) k), .int .i64 (n2F (ed x) (ed (x + c)) (ed (x + u)) (ed y) (ed (y + d)) (ed (y + v)) k), .int .i64 (n3F (ed x) (ed (x + c)) (ed (x + u)) (ed y) (ed (y + d)) (ed (y + v)) k)] 28) (fun jv _ => k - (intOf jv).toNat)
          case atStart => exact ⟨0, by omega, rfl, hbu, HPU.out⟩
          case round =>
            obtain ⟨jj, hjk, rfl, hBi, hHi⟩ := hrel
            have lui := hHi.lt
            have hszi := hBi.size
            by_cases hj : jj < k
            · obtain ⟨g, rfl, hg1, hg2, hcells⟩ := HRD.out (by omega)
              obtain ⟨e0, e1, e2, e3⟩ := cells4_get (n0F (ed x) (ed (x + c)) (ed (x + u)) (ed y) (ed (y + d)) (ed (y + v))) (n1F (ed x) (ed (x + c)) (ed (x + u)) (ed y) (ed (y + d)) (ed (y + v))) (n2F (ed x) (ed (x + c)) (ed (x + u)) (ed y) (ed (y + d)) (ed (y + v))) (n3F (ed x) (ed (x + c)) (ed (x + u)) (ed y) (ed (y + d)) (ed (y + v))) hj
              have k0 := (hBi.cell (p := ⟨g, jj * 4, none⟩) hg2).trans (hcells _ _ e0)
              have k1 := (hBi.cell (p := ⟨g, jj * 4 + 1, none⟩) hg2).trans (hcells _ _ e1)
              have k2 := (hBi.cell (p := ⟨g, jj * 4 + 2, none⟩) hg2).trans (hcells _ _ e2)
              have k3 := (hBi.cell (p := ⟨g, jj * 4 + 3, none⟩) hg2).trans (hcells _ _ e3)
              clear e0 e1 e2 e3 hcells
              obtain ⟨pc0, pc1, pc2, pc3⟩ := has4 hHi
              obtain ⟨z0, z1, z2, z3, hz, hz20, hand⟩ := and_tile HE.out hj hlt
              have hem := empty_nf hz
              rw [show decide (z2 ≤ z0) = true by simpa using hz20] at hem
              have HAN := Lib.hid hand; clear hand
              have HEM := Lib.hid hem; clear hem hz hz20
              have HHI := Lib.hid hHi; clear hHi
              have HBI := Lib.hid hBi; clear hBi
              have hgi : g < wr.heap.size := by omega
              have hjk2 : (jj : Int) < k := by omega
              go_wp2_with fail
              refine region_ord [(0, 0), (1, 0), (2, 0), (3, 0), (4, 0), (5, 1), (6, 1), (7, 0)] (by kernel_rfl) (by kernel_rfl) (fun _ _ d _ _ h => by cases d <;> exact h) (fun hS => ?_)
              (refine wpG_read (v := ?_) rfl (.inl ⟨by rfl, fun wx hbx => ?_⟩) ?_; rotate_left; (focus (obtain ⟨cx0, fx0, zx0⟩ := bk hbx (g) (by first | omega | (simp; done) | (simp; omega)); obtain ⟨cx1, fx1, zx1⟩ := bk hbx (ua.heap.size) (by first | omega | (simp; done) | (simp; omega)); go_simp; (try go_bits); (try with_reducible rfl))); try simp only [Act.put, List.setIfInBounds_toArray, List.set_cons_zero, List.set_cons_succ])
              (refine wpG_read (v := ?_) rfl (.inl ⟨by rfl, fun wx hbx => ?_⟩) ?_; rotate_left; (focus (obtain ⟨cx0, fx0, zx0⟩ := bk hbx (g) (by first | omega | (simp; done) | (simp; omega)); obtain ⟨cx1, fx1, zx1⟩ := bk hbx (ua.heap.size) (by first | omega | (simp; done) | (simp; omega)); go_simp; (try go_bits); (try with_reducible rfl))); try simp only [Act.put, List.setIfInBounds_toArray, List.set_cons_zero, List.set_cons_succ])
              (refine wpG_read (v := ?_) rfl (.inl ⟨by rfl, fun wx hbx => ?_⟩) ?_; rotate_left; (focus (obtain ⟨cx0, fx0, zx0⟩ := bk hbx (g) (by first | omega | (simp; done) | (simp; omega)); obtain ⟨cx1, fx1, zx1⟩ := bk hbx (ua.heap.size) (by first | omega | (simp; done) | (simp; omega)); go_simp; (try go_bits); (try with_reducible rfl))); try simp only [Act.put, List.setIfInBounds_toArray, List.set_cons_zero, List.set_cons_succ])
              (refine wpG_read (v := ?_) rfl (.inl ⟨by rfl, fun wx hbx => ?_⟩) ?_; rotate_left; (focus (obtain ⟨cx0, fx0, zx0⟩ := bk hbx (g) (by first | omega | (simp; done) | (simp; omega)); obtain ⟨cx1, fx1, zx1⟩ := bk hbx (ua.heap.size) (by first | omega | (simp; done) | (simp; omega)); go_simp; (try go_bits); (try with_reducible rfl))); try simp only [Act.put, List.setIfInBounds_toArray, List.set_cons_zero, List.set_cons_succ])
              (refine wpG_read (v := ?_) rfl (.inl ⟨by rfl, fun wx hbx => ?_⟩) ?_; rotate_left; (focus (obtain ⟨cx0, fx0, zx0⟩ := bk hbx (g) (by first | omega | (simp; done) | (simp; omega)); obtain ⟨cx1, fx1, zx1⟩ := bk hbx (ua.heap.size) (by first | omega | (simp; done) | (simp; omega)); go_simp; (try go_bits); (try with_reducible rfl))); try simp only [Act.put, List.setIfInBounds_toArray, List.set_cons_zero, List.set_cons_succ])
              (refine wpG_make rfl (fun K hK => ?_); go_simp; (go_at_call 21; (with_reducible refine (HAN.out _).mono ?_); rintro e ux ⟨rfl, hb⟩; have hz := hb.size; refine (fun hB => ?_ : Below wr.heap.size wr ux → _) ?_; rotate_left; (focus ((repeat' (first | (with_reducible exact Below.refl _ _) | (with_reducible assumption) | (with_reducible refine below_from_drew ?_) | (with_reducible refine Below.alloc ?_ ?_ _) | (with_reducible refine Below.drew ?_) | (with_reducible refine below_drewN ?_ _) | (with_reducible refine Below.setCell ?_ ?_ _) | (with_reducible refine below_via ?_ (by assumption) ?_) | (with_reducible refine below_ov ?_ ?_ _ _) | go_size)); done)); (try simp only [World.size_alloc, World.size_setCell, World.size_drew, ov_size] at hz)); (try simp only []); refine hK _ _ ?_ (fun hS2 => ?_); (focus ((repeat' (first | (with_reducible exact Below.refl _ _) | (with_reducible assumption) | (with_reducible refine below_from_drew ?_) | (with_reducible refine Below.alloc ?_ ?_ _) | (with_reducible refine Below.drew ?_) | (with_reducible refine below_drewN ?_ _) | (with_reducible refine Below.setCell ?_ ?_ _) | (with_reducible refine below_via ?_ (by assumption) ?_) | (with_reducible refine below_ov ?_ ?_ _ _) | go_size)); done)); clear hK K hS; have hS := hS2; clear hS2; (try clear hb); try simp only [Act.put, List.setIfInBounds_toArray, List.set_cons_zero, List.set_cons_succ])
              (refine wpG_make rfl (fun K hK => ?_); go_simp; (go_at_call 22; (with_reducible refine (HEM.out _).mono ?_); rintro e uy ⟨rfl, hb⟩; have hz := hb.size; refine (fun hB => ?_ : Below wr.heap.size wr uy → _) ?_; rotate_left; (focus ((repeat' (first | (with_reducible exact Below.refl _ _) | (with_reducible assumption) | (with_reducible refine below_from_drew ?_) | (with_reducible refine Below.alloc ?_ ?_ _) | (with_reducible refine Below.drew ?_) | (with_reducible refine below_drewN ?_ _) | (with_reducible refine Below.setCell ?_ ?_ _) | (with_reducible refine below_via ?_ (by assumption) ?_) | (with_reducible refine below_ov ?_ ?_ _ _) | go_size)); done)); (try simp only [World.size_alloc, World.size_setCell, World.size_drew, ov_size] at hz)); (try simp only []); refine hK _ _ ?_ (fun hS2 => ?_); (focus ((repeat' (first | (with_reducible exact Below.refl _ _) | (with_reducible assumption) | (with_reducible refine below_from_drew ?_) | (with_reducible refine Below.alloc ?_ ?_ _) | (with_reducible refine Below.drew ?_) | (with_reducible refine below_drewN ?_ _) | (with_reducible refine Below.setCell ?_ ?_ _) | (with_reducible refine below_via ?_ (by assumption) ?_) | (with_reducible refine below_ov ?_ ?_ _ _) | go_size)); done)); clear hK K hS; have hS := hS2; clear hS2; (try clear hb); try simp only [Act.put, List.setIfInBounds_toArray, List.set_cons_zero, List.set_cons_succ])
              (refine wpG_read (v := ?_) rfl (.inl ⟨by rfl, fun wx hbx => ?_⟩) ?_; rotate_left; (focus (obtain ⟨cx0, fx0, zx0⟩ := bk hbx (g) (by first | omega | (simp; done) | (simp; omega)); obtain ⟨cx1, fx1, zx1⟩ := bk hbx (ua.heap.size) (by first | omega | (simp; done) | (simp; omega)); go_simp; (try go_bits); (try with_reducible rfl))); try simp only [Act.put, List.setIfInBounds_toArray, List.set_cons_zero, List.set_cons_succ])
              refine wpG_nil ?_
              go_wp2_with fail
              go_roundw
              case rel => exact ⟨jj + 1, by omega, by go_num, below_via HBI.out hB hszi, has_below hB HHI.out⟩
              case measure => simp [intOf]; omega
            · obtain rfl : jj = k := by omega
              obtain ⟨pc0, pc1, pc2, pc3⟩ := has4 hHi
              have hown2 := row_below hBi HOWN.out
              have hs1 := sum_in HE.out hk4
              have hs2 := ar_in HE.out jj
              obtain ⟨hs11, hs12⟩ := hs1
              have hs3 : sumF (ed x) (ed (x + c)) (ed (x + u)) (ed y) (ed (y + d)) (ed (y + v)) jj + arF (ed x) (ed (x + c)) (ed (x + u)) (ed y) (ed (y + d)) (ed (y + v)) jj ≤ 4611686018427387904 := (sum_in HE.out (k := jj + 1) (by omega)).2
              obtain ⟨hs21, hs22⟩ := hs2
              have HOWN2 := Lib.hid hown2; clear hown2
              have HHI := Lib.hid hHi; clear hHi
              have HBI := Lib.hid hBi; clear hBi
              have hAR := Lib.hid (area_tile HE.out jj)
              go_wp2_with (at_builtin; refine wpList_append_own _ rfl _ _ 37 rfl (u3.heap.size + 1) 28 i0 (.agg #[.int .i64 0, .int .i64 0, .int .i64 0, .int .i64 0]) 4 32 Try.underlying37 hi hz0 hz1 hz2 rfl (by decide) _ _ _ rfl (HOWN2.out.alloc _) ⟨wr.heap.size, 0, none⟩ 1 1 [.int .i64 (n0F (ed x) (ed (x + c)) (ed (x + u)) (ed y) (ed (y + d)) (ed (y + v)) jj), .int .i64 (n1F (ed x) (ed (x + c)) (ed (x + u)) (ed y) (ed (y + d)) (ed (y + v)) jj), .int .i64 (n2F (ed x) (ed (x + c)) (ed (x + u)) (ed y) (ed (y + d)) (ed (y + v)) jj), .int .i64 (n3F (ed x) (ed (x + c)) (ed (x + u)) (ed y) (ed (y + d)) (ed (y + v)) jj)] rfl rfl ?c1 ?c2 ?c3 ?c4 ?c5 ?_)
              case c1 => exact news_new
              case c2 => exact one_of rfl
              case c3 => unfold maxLen; omega
              case c4 => omega
              case c5 => simp; omega
              intro v' w1 hown' hgrow hnil
              clear hnil
              have hne : ∀ bb, bb < u3.heap.size + 1 → (Value.slice al jj cap).ownBlock ≠ some bb := fun bb h => row_ne HOWN.out h
              have hne2 := row_ne_new (b := ua.heap.size) HOWN.out hua
              have hp1 := has_grown hgrow (has_alloc HHI.out) hne2
              have hb1 := has_grown hgrow (has_alloc (has_below HBI.out HHB.out)) (hne _ (by omega))
              have hpa1 := has_grown hgrow (has_alloc (has_below HBI.out HHP.out)) (hne _ (by omega))
              have hr1 := has_grown hgrow (has_alloc (has_below HBI.out HHR.out)) (hne _ (by omega))
              have hB1 : Below w.heap.size w w1 := ((HBW.out.trans (HBI.out.mono (by omega))).alloc (by omega) _).grown hgrow (by simp; omega) (fun bb h => by have := row_block HOWN.out bb h; omega)
              have HO1 := Lib.hid hown'; have HP1 := Lib.hid hp1; have HB1 := Lib.hid hb1; have HPA1 := Lib.hid hpa1; have HR1 := Lib.hid hr1; have HBB1 := Lib.hid hB1
              clear hown' hgrow hp1 hb1 hpa1 hr1 hB1 hne hne2
              obtain ⟨qc0, qc1, qc2, qc3⟩ := has4 HP1.out
              clear pc0 pc1 pc2 pc3
              go_wp2_with (((go_at_call 23; (with_reducible refine (hAR.out _).mono ?_); rintro e uc ⟨rfl, hb⟩; have hz := hb.size; refine (fun hB => ?_ : Below w1.heap.size w1 uc → _) ?_; rotate_left; (focus ((repeat' (first | (with_reducible exact Below.refl _ _) | (with_reducible assumption) | (with_reducible refine below_from_drew ?_) | (with_reducible refine Below.alloc ?_ ?_ _) | (with_reducible refine Below.drew ?_) | (with_reducible refine below_drewN ?_ _) | (with_reducible refine Below.setCell ?_ ?_ _) | (with_reducible refine below_via ?_ (by assumption) ?_) | (with_reducible refine below_ov ?_ ?_ _ _) | go_size)); done)); (try simp only [World.size_alloc, World.size_setCell, World.size_drew, ov_size] at hz))); obtain ⟨hcc, hfc, hoc⟩ := bcell3 hB)
              go_roundw
              case rel =>
                refine ⟨jj + 1, by omega, by go_num, rfl, below_via HBB1.out hB HBB1.out.size, has_below hB HB1.out, has_below hB HPA1.out, has_below hB HR1.out, ?_⟩
                rw [cells4_succ]
                exact row_below hB HO1.out
              case measure => simp [intOf]; omega
        · obtain rfl : k = 4 := by omega
          have q := HE.out
          unfold Edges at q
          obtain ⟨⟨o1, o2, o3, o4⟩, o5, o6, o7, o8⟩ := q
          have har := area_nf (nf_r (ed x) (ed y) (ed (x + u)) (ed (y + v)))
          rw [area_whole (by omega) (by omega), ← sum_all (ed x) (ed (x + c)) (ed (x + u)) (ed y) (ed (y + d)) (ed (y + v))] at har
          have hem := empty_nf (nf_r (ed x) (ed y) (ed (x + u)) (ed (y + v)))
          have hri := r_in (a := ed x) (b := ed y) (c := ed (x + u)) (d := ed (y + v)) (by omega) (by omega) (by omega) (by omega)
          have s1 := sum_in HE.out (k := 4) (by omega)
          obtain ⟨s11, s12⟩ := s1
          have HAR := Lib.hid har; clear har
          by_cases hemp : r2 (ed x) (ed y) (ed (x + u)) (ed (y + v)) ≤ r0 (ed x) (ed y) (ed (x + u)) (ed (y + v))
          · rw [show decide (r2 (ed x) (ed y) (ed (x + u)) (ed (y + v)) ≤ r0 (ed x) (ed y) (ed (x + u)) (ed (y + v))) = true by simpa using hemp] at hem
            have HEM := Lib.hid hem; clear hem hemp hri o1 o2 o3 o4 o5 o6 o7 o8
            go_wp2_with (first | (((go_at_call 23; (with_reducible refine (HAR.out _).mono ?_); rintro e ua ⟨rfl, hb⟩; have hz := hb.size; refine (fun hB => ?_ : Below wr.heap.size wr ua → _) ?_; rotate_left; (focus ((repeat' (first | (with_reducible exact Below.refl _ _) | (with_reducible assumption) | (with_reducible refine below_from_drew ?_) | (with_reducible refine Below.alloc ?_ ?_ _) | (with_reducible refine Below.drew ?_) | (with_reducible refine below_drewN ?_ _) | (with_reducible refine Below.setCell ?_ ?_ _) | (with_reducible refine below_via ?_ (by assumption) ?_) | (with_reducible refine below_ov ?_ ?_ _ _) | go_size)); done)); (try simp only [World.size_alloc, World.size_setCell, World.size_drew, ov_size] at hz))); obtain ⟨hca, hfa, hoa⟩ := bcell3 hB) | (((go_at_call 22; (with_reducible refine (HEM.out _).mono ?_); rintro e ub ⟨rfl, hb⟩; have hz := hb.size; refine (fun hB => ?_ : Below wr.heap.size wr ub → _) ?_; rotate_left; (focus ((repeat' (first | (with_reducible exact Below.refl _ _) | (with_reducible assumption) | (with_reducible refine below_from_drew ?_) | (with_reducible refine Below.alloc ?_ ?_ _) | (with_reducible refine Below.drew ?_) | (with_reducible refine below_drewN ?_ _) | (with_reducible refine Below.setCell ?_ ?_ _) | (with_reducible refine below_via ?_ (by assumption) ?_) | (with_reducible refine below_ov ?_ ?_ _ _) | go_size)); done)); (try simp only [World.size_alloc, World.size_setCell, World.size_drew, ov_size] at hz))); obtain ⟨hcb, hfb, hob⟩ := bcell3 hB))
            go_ret
            exact ⟨rfl, below_via HBW.out hB hszw⟩
          · rw [show decide (r2 (ed x) (ed y) (ed (x + u)) (ed (y + v)) ≤ r0 (ed x) (ed y) (ed (x + u)) (ed (y + v))) = false by simpa using hemp] at hem
            rcases hri with ⟨t1, t2, t3, t4, t5, t6⟩ | ⟨t1, t3, t4, t5, t6⟩
            · have har2 := HAR.out
              clear HAR
              simp only [t3, t4, t5, t6] at hem har2 rc0 rc1 rc2 rc3
              have HAR := Lib.hid har2; clear har2
              have HEM := Lib.hid hem; clear hem hemp t1 t2 t3 t4 t5 t6
              obtain ⟨bc0, bc1, bc2, bc3⟩ := has4 HHB.out
              have f0 : -31 ≤ 64 * ed x - x ∧ 64 * ed x - x ≤ 32 := by unfold ed; omega
              have f1 : -31 ≤ 64 * ed y - y ∧ 64 * ed y - y ≤ 32 := by unfold ed; omega
              have f2 : -31 ≤ 64 * ed (x + u) - (x + u) ∧ 64 * ed (x + u) - (x + u) ≤ 32 := by unfold ed; omega
              have f3 : -31 ≤ 64 * ed (y + v) - (y + v) ∧ 64 * ed (y + v) - (y + v) ≤ 32 := by unfold ed; omega
              obtain ⟨f01, f02⟩ := f0
              obtain ⟨f11, f12⟩ := f1
              obtain ⟨f21, f22⟩ := f2
              obtain ⟨f31, f32⟩ := f3
              go_wp2_with (first | (((go_at_call 23; (with_reducible refine (HAR.out _).mono ?_); rintro e ua ⟨rfl, hb⟩; have hz := hb.size; refine (fun hB => ?_ : Below wr.heap.size wr ua → _) ?_; rotate_left; (focus ((repeat' (first | (with_reducible exact Below.refl _ _) | (with_reducible assumption) | (with_reducible refine below_from_drew ?_) | (with_reducible refine Below.alloc ?_ ?_ _) | (with_reducible refine Below.drew ?_) | (with_reducible refine below_drewN ?_ _) | (with_reducible refine Below.setCell ?_ ?_ _) | (with_reducible refine below_via ?_ (by assumption) ?_) | (with_reducible refine below_ov ?_ ?_ _ _) | go_size)); done)); (try simp only [World.size_alloc, World.size_setCell, World.size_drew, ov_size] at hz))); obtain ⟨hca, hfa, hoa⟩ := bcell3 hB) | (((go_at_call 22; (with_reducible refine (HEM.out _).mono ?_); rintro e ub ⟨rfl, hb⟩; have hz := hb.size; refine (fun hB => ?_ : Below wr.heap.size wr ub → _) ?_; rotate_left; (focus ((repeat' (first | (with_reducible exact Below.refl _ _) | (with_reducible assumption) | (with_reducible refine below_from_drew ?_) | (with_reducible refine Below.alloc ?_ ?_ _) | (with_reducible refine Below.drew ?_) | (with_reducible refine below_drewN ?_ _) | (with_reducible refine Below.setCell ?_ ?_ _) | (with_reducible refine below_via ?_ (by assumption) ?_) | (with_reducible refine below_ov ?_ ?_ _ _) | go_size)); done)); (try simp only [World.size_alloc, World.size_setCell, World.size_drew, ov_size] at hz))); obtain ⟨hcb, hfb, hob⟩ := bcell3 hB))
              refine wp_loop_rounds 5 ?_
              rw [rounds_succ]
              go_wp2_with fail
              refine region_ord [(0, 0), (1, 0), (2, 0), (3, 0), (4, 0), (5, 0), (6, 0), (7, 0), (8, 0), (9, 0), (10, 0)] (by kernel_rfl) (by kernel_rfl) (fun _ _ d _ _ h => by cases d <;> exact h) (fun hS => ?_)
              (refine wpG_read (v := ?_) rfl (.inl ⟨by rfl, fun wx hbx => ?_⟩) ?_; rotate_left; (focus (obtain ⟨cx0, fx0, zx0⟩ := bk hbx (ub.heap.size) (by first | omega | (simp; done) | (simp; omega)); go_simp; (try go_bits); (try with_reducible rfl))); try simp only [Act.put, List.setIfInBounds_toArray, List.set_cons_zero, List.set_cons_succ])
              (refine wpG_read (v := ?_) rfl (.inl ⟨by rfl, fun wx hbx => ?_⟩) ?_; rotate_left; (focus (obtain ⟨cx0, fx0, zx0⟩ := bk hbx (ub.heap.size) (by first | omega | (simp; done) | (simp; omega)); go_simp; (try go_bits); (try with_reducible rfl))); try simp only [Act.put, List.setIfInBounds_toArray, List.set_cons_zero, List.set_cons_succ])
              (refine wpG_read (v := ?_) rfl (.inl ⟨by rfl, fun wx hbx => ?_⟩) ?_; rotate_left; (focus (obtain ⟨cx0, fx0, zx0⟩ := bk hbx (ub.heap.size) (by first | omega | (simp; done) | (simp; omega)); go_simp; (try go_bits); (try with_reducible rfl))); try simp only [Act.put, List.setIfInBounds_toArray, List.set_cons_zero, List.set_cons_succ])
              (refine wpG_read (v := ?_) rfl (.inl ⟨by rfl, fun wx hbx => ?_⟩) ?_; rotate_left; (focus (obtain ⟨cx0, fx0, zx0⟩ := bk hbx (ub.heap.size) (by first | omega | (simp; done) | (simp; omega)); go_simp; (try go_bits); (try with_reducible rfl))); try simp only [Act.put, List.setIfInBounds_toArray, List.set_cons_zero, List.set_cons_succ])
              (refine wpG_read (v := ?_) rfl (.inl ⟨by rfl, fun wx hbx => ?_⟩) ?_; rotate_left; (focus (obtain ⟨cx0, fx0, zx0⟩ := bk hbx (ub.heap.size) (by first | omega | (simp; done) | (simp; omega)); go_simp; (try go_bits); (try with_reducible rfl))); try simp only [Act.put, List.setIfInBounds_toArray, List.set_cons_zero, List.set_cons_succ])
              (refine wpG_read (v := ?_) rfl (.inl ⟨by rfl, fun wx hbx => ?_⟩) ?_; rotate_left; (focus (obtain ⟨cx0, fx0, zx0⟩ := bk hbx (ub.heap.size) (by first | omega | (simp; done) | (simp; omega)); go_simp; (try go_bits); (try with_reducible rfl))); try simp only [Act.put, List.setIfInBounds_toArray, List.set_cons_zero, List.set_cons_succ])
              (refine wpG_read (v := ?_) rfl (.inl ⟨by rfl, fun wx hbx => ?_⟩) ?_; rotate_left; (focus (obtain ⟨cx0, fx0, zx0⟩ := bk hbx (ub.heap.size) (by first | omega | (simp; done) | (simp; omega)); go_simp; (try go_bits); (try with_reducible rfl))); try simp only [Act.put, List.setIfInBounds_toArray, List.set_cons_zero, List.set_cons_succ])
              (refine wpG_read (v := ?_) rfl (.inl ⟨by rfl, fun wx hbx => ?_⟩) ?_; rotate_left; (focus (obtain ⟨cx0, fx0, zx0⟩ := bk hbx (ub.heap.size) (by first | omega | (simp; done) | (simp; omega)); go_simp; (try go_bits); (try with_reducible rfl))); try simp only [Act.put, List.setIfInBounds_toArray, List.set_cons_zero, List.set_cons_succ])
              (refine wpG_read (v := ?_) rfl (.inl ⟨by rfl, fun wx hbx => ?_⟩) ?_; rotate_left; (focus (obtain ⟨cx0, fx0, zx0⟩ := bk hbx (ub.heap.size) (by first | omega | (simp; done) | (simp; omega)); go_simp; (try go_bits); (try with_reducible rfl))); try simp only [Act.put, List.setIfInBounds_toArray, List.set_cons_zero, List.set_cons_succ])
              (refine wpG_read (v := ?_) rfl (.inl ⟨by rfl, fun wx hbx => ?_⟩) ?_; rotate_left; (focus (obtain ⟨cx0, fx0, zx0⟩ := bk hbx (ub.heap.size) (by first | omega | (simp; done) | (simp; omega)); go_simp; (try go_bits); (try with_reducible rfl))); try simp only [Act.put, List.setIfInBounds_toArray, List.set_cons_zero, List.set_cons_succ])
              (refine wpG_read (v := ?_) rfl (.inl ⟨by rfl, fun wx hbx => ?_⟩) ?_; rotate_left; (focus (obtain ⟨cx0, fx0, zx0⟩ := bk hbx (ub.heap.size) (by first | omega | (simp; done) | (simp; omega)); go_simp; (try go_bits); (try with_reducible rfl))); try simp only [Act.put, List.setIfInBounds_toArray, List.set_cons_zero, List.set_cons_succ])
              refine wpG_nil ?_
              go_wp2_with fail
              rw [rounds_succ]
              go_wp2_with fail
              refine region_ord [(0, 0), (1, 0), (2, 0), (3, 0), (4, 0), (5, 0), (6, 0), (7, 0), (8, 0), (9, 0), (10, 0)] (by kernel_rfl) (by kernel_rfl) (fun _ _ d _ _ h => by cases d <;> exact h) (fun hS => ?_)
              (refine wpG_read (v := ?_) rfl (.inl ⟨by rfl, fun wx hbx => ?_⟩) ?_; rotate_left; (focus (obtain ⟨cx0, fx0, zx0⟩ := bk hbx (ub.heap.size) (by first | omega | (simp; done) | (simp; omega)); go_simp; (try go_bits); (try with_reducible rfl))); try simp only [Act.put, List.setIfInBounds_toArray, List.set_cons_zero, List.set_cons_succ])
              (refine wpG_read (v := ?_) rfl (.inl ⟨by rfl, fun wx hbx => ?_⟩) ?_; rotate_left; (focus (obtain ⟨cx0, fx0, zx0⟩ := bk hbx (ub.heap.size) (by first | omega | (simp; done) | (simp; omega)); go_simp; (try go_bits); (try with_reducible rfl))); try simp only [Act.put, List.setIfInBounds_toArray, List.set_cons_zero, List.set_cons_succ])
              (refine wpG_read (v := ?_) rfl (.inl ⟨by rfl, fun wx hbx => ?_⟩) ?_; rotate_left; (focus (obtain ⟨cx0, fx0, zx0⟩ := bk hbx (ub.heap.size) (by first | omega | (simp; done) | (simp; omega)); go_simp; (try go_bits); (try with_reducible rfl))); try simp only [Act.put, List.setIfInBounds_toArray, List.set_cons_zero, List.set_cons_succ])
              (refine wpG_read (v := ?_) rfl (.inl ⟨by rfl, fun wx hbx => ?_⟩) ?_; rotate_left; (focus (obtain ⟨cx0, fx0, zx0⟩ := bk hbx (ub.heap.size) (by first | omega | (simp; done) | (simp; omega)); go_simp; (try go_bits); (try with_reducible rfl))); try simp only [Act.put, List.setIfInBounds_toArray, List.set_cons_zero, List.set_cons_succ])
              (refine wpG_read (v := ?_) rfl (.inl ⟨by rfl, fun wx hbx => ?_⟩) ?_; rotate_left; (focus (obtain ⟨cx0, fx0, zx0⟩ := bk hbx (ub.heap.size) (by first | omega | (simp; done) | (simp; omega)); go_simp; (try go_bits); (try with_reducible rfl))); try simp only [Act.put, List.setIfInBounds_toArray, List.set_cons_zero, List.set_cons_succ])
              (refine wpG_read (v := ?_) rfl (.inl ⟨by rfl, fun wx hbx => ?_⟩) ?_; rotate_left; (focus (obtain ⟨cx0, fx0, zx0⟩ := bk hbx (ub.heap.size) (by first | omega | (simp; done) | (simp; omega)); go_simp; (try go_bits); (try with_reducible rfl))); try simp only [Act.put, List.setIfInBounds_toArray, List.set_cons_zero, List.set_cons_succ])
              (refine wpG_read (v := ?_) rfl (.inl ⟨by rfl, fun wx hbx => ?_⟩) ?_; rotate_left; (focus (obtain ⟨cx0, fx0, zx0⟩ := bk hbx (ub.heap.size) (by first | omega | (simp; done) | (simp; omega)); go_simp; (try go_bits); (try with_reducible rfl))); try simp only [Act.put, List.setIfInBounds_toArray, List.set_cons_zero, List.set_cons_succ])
              (refine wpG_read (v := ?_) rfl (.inl ⟨by rfl, fun wx hbx => ?_⟩) ?_; rotate_left; (focus (obtain ⟨cx0, fx0, zx0⟩ := bk hbx (ub.heap.size) (by first | omega | (simp; done) | (simp; omega)); go_simp; (try go_bits); (try with_reducible rfl))); try simp only [Act.put, List.setIfInBounds_toArray, List.set_cons_zero, List.set_cons_succ])
              (refine wpG_read (v := ?_) rfl (.inl ⟨by rfl, fun wx hbx => ?_⟩) ?_; rotate_left; (focus (obtain ⟨cx0, fx0, zx0⟩ := bk hbx (ub.heap.size) (by first | omega | (simp; done) | (simp; omega)); go_simp; (try go_bits); (try with_reducible rfl))); try simp only [Act.put, List.setIfInBounds_toArray, List.set_cons_zero, List.set_cons_succ])
              (refine wpG_read (v := ?_) rfl (.inl ⟨by rfl, fun wx hbx => ?_⟩) ?_; rotate_left; (focus (obtain ⟨cx0, fx0, zx0⟩ := bk hbx (ub.heap.size) (by first | omega | (simp; done) | (simp; omega)); go_simp; (try go_bits); (try with_reducible rfl))); try simp only [Act.put, List.setIfInBounds_toArray, List.set_cons_zero, List.set_cons_succ])
              (refine wpG_read (v := ?_) rfl (.inl ⟨by rfl, fun wx hbx => ?_⟩) ?_; rotate_left; (focus (obtain ⟨cx0, fx0, zx0⟩ := bk hbx (ub.heap.size) (by first | omega | (simp; done) | (simp; omega)); go_simp; (try go_bits); (try with_reducible rfl))); try simp only [Act.put, List.setIfInBounds_toArray, List.set_cons_zero, List.set_cons_succ])
              refine wpG_nil ?_
              go_wp2_with fail
              rw [rounds_succ]
              go_wp2_with fail
              refine region_ord [(0, 0), (1, 0), (2, 0), (3, 0), (4, 0), (5, 0), (6, 0), (7, 0), (8, 0), (9, 0), (10, 0)] (by kernel_rfl) (by kernel_rfl) (fun _ _ d _ _ h => by cases d <;> exact h) (fun hS => ?_)
              (refine wpG_read (v := ?_) rfl (.inl ⟨by rfl, fun wx hbx => ?_⟩) ?_; rotate_left; (focus (obtain ⟨cx0, fx0, zx0⟩ := bk hbx (ub.heap.size) (by first | omega | (simp; done) | (simp; omega)); go_simp; (try go_bits); (try with_reducible rfl))); try simp only [Act.put, List.setIfInBounds_toArray, List.set_cons_zero, List.set_cons_succ])
              (refine wpG_read (v := ?_) rfl (.inl ⟨by rfl, fun wx hbx => ?_⟩) ?_; rotate_left; (focus (obtain ⟨cx0, fx0, zx0⟩ := bk hbx (ub.heap.size) (by first | omega | (simp; done) | (simp; omega)); go_simp; (try go_bits); (try with_reducible rfl))); try simp only [Act.put, List.setIfInBounds_toArray, List.set_cons_zero, List.set_cons_succ])
              (refine wpG_read (v := ?_) rfl (.inl ⟨by rfl, fun wx hbx => ?_⟩) ?_; rotate_left; (focus (obtain ⟨cx0, fx0, zx0⟩ := bk hbx (ub.heap.size) (by first | omega | (simp; done) | (simp; omega)); go_simp; (try go_bits); (try with_reducible rfl))); try simp only [Act.put, List.setIfInBounds_toArray, List.set_cons_zero, List.set_cons_succ])
              (refine wpG_read (v := ?_) rfl (.inl ⟨by rfl, fun wx hbx => ?_⟩) ?_; rotate_left; (focus (obtain ⟨cx0, fx0, zx0⟩ := bk hbx (ub.heap.size) (by first | omega | (simp; done) | (simp; omega)); go_simp; (try go_bits); (try with_reducible rfl))); try simp only [Act.put, List.setIfInBounds_toArray, List.set_cons_zero, List.set_cons_succ])
              (refine wpG_read (v := ?_) rfl (.inl ⟨by rfl, fun wx hbx => ?_⟩) ?_; rotate_left; (focus (obtain ⟨cx0, fx0, zx0⟩ := bk hbx (ub.heap.size) (by first | omega | (simp; done) | (simp; omega)); go_simp; (try go_bits); (try with_reducible rfl))); try simp only [Act.put, List.setIfInBounds_toArray, List.set_cons_zero, List.set_cons_succ])
              (refine wpG_read (v := ?_) rfl (.inl ⟨by rfl, fun wx hbx => ?_⟩) ?_; rotate_left; (focus (obtain ⟨cx0, fx0, zx0⟩ := bk hbx (ub.heap.size) (by first | omega | (simp; done) | (simp; omega)); go_simp; (try go_bits); (try with_reducible rfl))); try simp only [Act.put, List.setIfInBounds_toArray, List.set_cons_zero, List.set_cons_succ])
              (refine wpG_read (v := ?_) rfl (.inl ⟨by rfl, fun wx hbx => ?_⟩) ?_; rotate_left; (focus (obtain ⟨cx0, fx0, zx0⟩ := bk hbx (ub.heap.size) (by first | omega | (simp; done) | (simp; omega)); go_simp; (try go_bits); (try with_reducible rfl))); try simp only [Act.put, List.setIfInBounds_toArray, List.set_cons_zero, List.set_cons_succ])
              (refine wpG_read (v := ?_) rfl (.inl ⟨by rfl, fun wx hbx => ?_⟩) ?_; rotate_left; (focus (obtain ⟨cx0, fx0, zx0⟩ := bk hbx (ub.heap.size) (by first | omega | (simp; done) | (simp; omega)); go_simp; (try go_bits); (try with_reducible rfl))); try simp only [Act.put, List.setIfInBounds_toArray, List.set_cons_zero, List.set_cons_succ])
              (refine wpG_read (v := ?_) rfl (.inl ⟨by rfl, fun wx hbx => ?_⟩) ?_; rotate_left; (focus (obtain ⟨cx0, fx0, zx0⟩ := bk hbx (ub.heap.size) (by first | omega | (simp; done) | (simp; omega)); go_simp; (try go_bits); (try with_reducible rfl))); try simp only [Act.put, List.setIfInBounds_toArray, List.set_cons_zero, List.set_cons_succ])
              (refine wpG_read (v := ?_) rfl (.inl ⟨by rfl, fun wx hbx => ?_⟩) ?_; rotate_left; (focus (obtain ⟨cx0, fx0, zx0⟩ := bk hbx (ub.heap.size) (by first | omega | (simp; done) | (simp; omega)); go_simp; (try go_bits); (try with_reducible rfl))); try simp only [Act.put, List.setIfInBounds_toArray, List.set_cons_zero, List.set_cons_succ])
              (refine wpG_read (v := ?_) rfl (.inl ⟨by rfl, fun wx hbx => ?_⟩) ?_; rotate_left; (focus (obtain ⟨cx0, fx0, zx0⟩ := bk hbx (ub.heap.size) (by first | omega | (simp; done) | (simp; omega)); go_simp; (try go_bits); (try with_reducible rfl))); try simp only [Act.put, List.setIfInBounds_toArray, List.set_cons_zero, List.set_cons_succ])
              refine wpG_nil ?_
              go_wp2_with fail
              rw [rounds_succ]
              go_wp2_with fail
              refine region_ord [(0, 0), (1, 0), (2, 0), (3, 0), (4, 0), (5, 0), (6, 0), (7, 0), (8, 0), (9, 0), (10, 0)] (by kernel_rfl) (by kernel_rfl) (fun _ _ d _ _ h => by cases d <;> exact h) (fun hS => ?_)
              (refine wpG_read (v := ?_) rfl (.inl ⟨by rfl, fun wx hbx => ?_⟩) ?_; rotate_left; (focus (obtain ⟨cx0, fx0, zx0⟩ := bk hbx (ub.heap.size) (by first | omega | (simp; done) | (simp; omega)); go_simp; (try go_bits); (try with_reducible rfl))); try simp only [Act.put, List.setIfInBounds_toArray, List.set_cons_zero, List.set_cons_succ])
              (refine wpG_read (v := ?_) rfl (.inl ⟨by rfl, fun wx hbx => ?_⟩) ?_; rotate_left; (focus (obtain ⟨cx0, fx0, zx0⟩ := bk hbx (ub.heap.size) (by first | omega | (simp; done) | (simp; omega)); go_simp; (try go_bits); (try with_reducible rfl))); try simp only [Act.put, List.setIfInBounds_toArray, List.set_cons_zero, List.set_cons_succ])
              (refine wpG_read (v := ?_) rfl (.inl ⟨by rfl, fun wx hbx => ?_⟩) ?_; rotate_left; (focus (obtain ⟨cx0, fx0, zx0⟩ := bk hbx (ub.heap.size) (by first | omega | (simp; done) | (simp; omega)); go_simp; (try go_bits); (try with_reducible rfl))); try simp only [Act.put, List.setIfInBounds_toArray, List.set_cons_zero, List.set_cons_succ])
              (refine wpG_read (v := ?_) rfl (.inl ⟨by rfl, fun wx hbx => ?_⟩) ?_; rotate_left; (focus (obtain ⟨cx0, fx0, zx0⟩ := bk hbx (ub.heap.size) (by first | omega | (simp; done) | (simp; omega)); go_simp; (try go_bits); (try with_reducible rfl))); try simp only [Act.put, List.setIfInBounds_toArray, List.set_cons_zero, List.set_cons_succ])
              (refine wpG_read (v := ?_) rfl (.inl ⟨by rfl, fun wx hbx => ?_⟩) ?_; rotate_left; (focus (obtain ⟨cx0, fx0, zx0⟩ := bk hbx (ub.heap.size) (by first | omega | (simp; done) | (simp; omega)); go_simp; (try go_bits); (try with_reducible rfl))); try simp only [Act.put, List.setIfInBounds_toArray, List.set_cons_zero, List.set_cons_succ])
              (refine wpG_read (v := ?_) rfl (.inl ⟨by rfl, fun wx hbx => ?_⟩) ?_; rotate_left; (focus (obtain ⟨cx0, fx0, zx0⟩ := bk hbx (ub.heap.size) (by first | omega | (simp; done) | (simp; omega)); go_simp; (try go_bits); (try with_reducible rfl))); try simp only [Act.put, List.setIfInBounds_toArray, List.set_cons_zero, List.set_cons_succ])
              (refine wpG_read (v := ?_) rfl (.inl ⟨by rfl, fun wx hbx => ?_⟩) ?_; rotate_left; (focus (obtain ⟨cx0, fx0, zx0⟩ := bk hbx (ub.heap.size) (by first | omega | (simp; done) | (simp; omega)); go_simp; (try go_bits); (try with_reducible rfl))); try simp only [Act.put, List.setIfInBounds_toArray, List.set_cons_zero, List.set_cons_succ])
              (refine wpG_read (v := ?_) rfl (.inl ⟨by rfl, fun wx hbx => ?_⟩) ?_; rotate_left; (focus (obtain ⟨cx0, fx0, zx0⟩ := bk hbx (ub.heap.size) (by first | omega | (simp; done) | (simp; omega)); go_simp; (try go_bits); (try with_reducible rfl))); try simp only [Act.put, List.setIfInBounds_toArray, List.set_cons_zero, List.set_cons_succ])
              (refine wpG_read (v := ?_) rfl (.inl ⟨by rfl, fun wx hbx => ?_⟩) ?_; rotate_left; (focus (obtain ⟨cx0, fx0, zx0⟩ := bk hbx (ub.heap.size) (by first | omega | (simp; done) | (simp; omega)); go_simp; (try go_bits); (try with_reducible rfl))); try simp only [Act.put, List.setIfInBounds_toArray, List.set_cons_zero, List.set_cons_succ])
              (refine wpG_read (v := ?_) rfl (.inl ⟨by rfl, fun wx hbx => ?_⟩) ?_; rotate_left; (focus (obtain ⟨cx0, fx0, zx0⟩ := bk hbx (ub.heap.size) (by first | omega | (simp; done) | (simp; omega)); go_simp; (try go_bits); (try with_reducible rfl))); try simp only [Act.put, List.setIfInBounds_toArray, List.set_cons_zero, List.set_cons_succ])
              (refine wpG_read (v := ?_) rfl (.inl ⟨by rfl, fun wx hbx => ?_⟩) ?_; rotate_left; (focus (obtain ⟨cx0, fx0, zx0⟩ := bk hbx (ub.heap.size) (by first | omega | (simp; done) | (simp; omega)); go_simp; (try go_bits); (try with_reducible rfl))); try simp only [Act.put, List.setIfInBounds_toArray, List.set_cons_zero, List.set_cons_succ])
              refine wpG_nil ?_
              go_wp2_with fail
              rw [rounds_succ]
              go_wp2_with fail
              go_ret
              have hq := HBW.out
              exact ⟨rfl, by (repeat' (first | (with_reducible exact Below.refl _ _) | (with_reducible assumption) | (with_reducible refine below_from_drew ?_) | (with_reducible refine Below.alloc ?_ ?_ _) | (with_reducible refine Below.drew ?_) | (with_reducible refine below_drewN ?_ _) | (with_reducible refine Below.setCell ?_ ?_ _) | (with_reducible refine below_via ?_ (by assumption) ?_) | (with_reducible refine below_ov ?_ ?_ _ _) | go_size))⟩
            · exact absurd (by omega) hemp
theorem tiles_row (a b c d n0 n1 : Int) (w : World) (h0 : (Lit.int .u32 n0).wf = true) (h1 : (Lit.int .u32 n1).wf = true) : Calls Try.prog 4 #[(.agg #[.int .i64 (a), .int .i64 (b), .int .i64 (c), .int .i64 (d)]), .agg #[.int .u32 n0, .int .u32 n1]] w fun e w' => e = .returned (.bool true) ∧ Below w.heap.size w w' :=
  tiles_any a b c d n0 n1 (by simpa [Lit.wf, IntKind.min, IntKind.max, IntKind.bits, IntKind.signed] using h0) (by simpa [Lit.wf, IntKind.min, IntKind.max, IntKind.bits, IntKind.signed] using h1) w
end Go.Proofs.Ytfppkomffkjciaa
