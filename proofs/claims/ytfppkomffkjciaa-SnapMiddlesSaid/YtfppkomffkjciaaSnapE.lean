/- The law SnapMiddles, walked. -/
import Derived.Test.YtfppkomffkjciaaSnapD
import Derived.Deep.DeepCutAuto
namespace Go.Proofs.Ytfppkomffkjciaa
open Go.RowKit
set_option linter.unusedSimpArgs false
set_option linter.unusedVariables false
-- below_from_drew
attribute [local go_sem] ov_cell_same ov_cell_other ov_frozen_same ov_frozen_other ov_size ov_setCell_same ov_setCell_other cell_alloc_old frozen_alloc_old setCell_alloc_old old_alloc old_ov old_drew old_drewN old_setCell
attribute [local go_sem ↓] run_max2 run_min2 eql_rect

theorem s25_cut {x y u v : Int} (h : cutB x y u v) (w : World) : Calls Try.prog 18 #[(.agg #[.int .i64 (x), .int .i64 (y), .int .i64 (u), .int .i64 (v)])] w fun e w' => e = .returned (.tuple #[(.agg #[.int .i64 (r0 (ed x) (ed y) (ed (x + u)) (ed (y + v))), .int .i64 (r1 (ed x) (ed y) (ed (x + u)) (ed (y + v))), .int .i64 (r2 (ed x) (ed y) (ed (x + u)) (ed (y + v))), .int .i64 (r3 (ed x) (ed y) (ed (x + u)) (ed (y + v)))]), .int .i64 0]) ∧ Below w.heap.size w w' := s25_ok x y u v (boxF_cut h) w
/-- Is the pixel's middle in the box? -/
def midB (x y u v px py : Int) : Bool := decide (x < 64 * px + 32) && decide (64 * px + 32 ≤ x + u) && decide (y < 64 * py + 32) && decide (64 * py + 32 ≤ y + v)
theorem mid_has {x y u v : Int} (h : cutB x y u v) (px py : Int) : hasR (r0 (ed x) (ed y) (ed (x + u)) (ed (y + v))) (r1 (ed x) (ed y) (ed (x + u)) (ed (y + v))) (r2 (ed x) (ed y) (ed (x + u)) (ed (y + v))) (r3 (ed x) (ed y) (ed (x + u)) (ed (y + v))) px py = midB x y u v px py := by
  have n := nf_r (ed x) (ed y) (ed (x + u)) (ed (y + v))
  obtain ⟨s0, s1, s2, s3⟩ := r_same n
  rw [hasR_of s0 s1 s2 s3]
  have q := r_all (ed x) (ed y) (ed (x + u)) (ed (y + v))
  obtain ⟨⟨h1, h2⟩, ⟨h3, h4⟩, ⟨h5, h6⟩, h7, h8⟩ := h
  have e0 : bnd (ed x) = ed x := bnd_in (by unfold ed; omega)
  have e1 : bnd (ed y) = ed y := bnd_in (by unfold ed; omega)
  have e2 : bnd (ed (x + u)) = ed (x + u) := bnd_in (by unfold ed; omega)
  have e3 : bnd (ed (y + v)) = ed (y + v) := bnd_in (by unfold ed; omega)
  rw [e0, e1, e2, e3] at q
  have d0 : ed x ≤ px ↔ x < 64 * px + 32 := by unfold ed; omega
  have d1 : ed y ≤ py ↔ y < 64 * py + 32 := by unfold ed; omega
  have d2 : px < ed (x + u) ↔ 64 * px + 32 ≤ x + u := by unfold ed; omega
  have d3 : py < ed (y + v) ↔ 64 * py + 32 ≤ y + v := by unfold ed; omega
  rw [Bool.eq_iff_iff]
  simp only [midB, Bool.and_eq_true, decide_eq_true_eq, ← d0, ← d1, ← d2, ← d3]
  omega
set_option maxRecDepth 100000 in
set_option maxHeartbeats 4000000 in
theorem mid_any (a b c d n0 n1 : Int) (hn0 : -128 ≤ n0 ∧ n0 ≤ 127) (hn1 : -128 ≤ n1 ∧ n1 ≤ 127) (w : World) : Calls Try.prog 3 #[(.agg #[.int .i64 (a), .int .i64 (b), .int .i64 (c), .int .i64 (d)]), .agg #[.int .i8 n0, .int .i8 n1]] w fun e w' => e = .returned (.bool true) ∧ Below w.heap.size w w' := by
  have hc := cut_cutB a b c d
  have hcut := cut25_any a b c d
  generalize a.tmod 17179869184 = x at hc hcut
  generalize b.tmod 17179869184 = y at hc hcut
  generalize c % 1073741824 = u at hc hcut
  generalize d % 1073741824 = v at hc hcut
  obtain ⟨n01, n02⟩ := hn0
  obtain ⟨n11, n12⟩ := hn1
  have HC := Lib.hid hcut; clear hcut
  have HB := Lib.hid hc
  have hhm : ∀ (px py : Int) (w : World), Calls Try.prog 19 #[(.agg #[.int .i64 (r0 (ed x) (ed y) (ed (x + u)) (ed (y + v))), .int .i64 (r1 (ed x) (ed y) (ed (x + u)) (ed (y + v))), .int .i64 (r2 (ed x) (ed y) (ed (x + u)) (ed (y + v))), .int .i64 (r3 (ed x) (ed y) (ed (x + u)) (ed (y + v)))]), .int .i64 px, .int .i64 py] w fun e w' => e = .returned (.bool (midB x y u v px py)) ∧ Below w.heap.size w w' := fun px py w => by
    have := has_any (r0 (ed x) (ed y) (ed (x + u)) (ed (y + v))) (r1 (ed x) (ed y) (ed (x + u)) (ed (y + v))) (r2 (ed x) (ed y) (ed (x + u)) (ed (y + v))) (r3 (ed x) (ed y) (ed (x + u)) (ed (y + v))) px py w
    rw [mid_has hc] at this
    exact this
  have HM := Lib.hid hhm; clear hhm
  obtain ⟨⟨h1, h2⟩, ⟨h3, h4⟩, ⟨h5, h6⟩, h7, h8⟩ := hc
  go_enter Try.func3, Try.ntmps3
  go_wp2_with (first | (go_at_call 16; (with_reducible refine (speaks25_any _).mono ?_); rintro e w1 ⟨rfl, hb⟩; refine Exists.elim (after2 (w := w) (b0 := w.heap.size) (cs0 := ?_) (T0 := ?_) (b1 := w.heap.size + 1) (cs1 := ?_) (T1 := ?_) hb ?_ ?_ ?_) ?_; rotate_left 4; (focus ((repeat' (first | (with_reducible exact Below.refl _ _) | (with_reducible assumption) | (with_reducible refine below_from_drew ?_) | (with_reducible refine Below.alloc ?_ ?_ _) | (with_reducible refine Below.drew ?_) | (with_reducible refine below_drewN ?_ _) | (with_reducible refine Below.setCell ?_ ?_ _) | (with_reducible refine below_via ?_ (by assumption) ?_) | (with_reducible refine below_ov ?_ ?_ _ _) | go_size)); done)); (focus ((repeat' (first | (with_reducible refine has_drew ?_) | (with_reducible refine has_drewN ?_) | (with_reducible refine has_new ?_; (first | (with_reducible rfl) | omega | (simp; done) | (simp; omega))) | (with_reducible refine has_ov_same ?_; (first | (with_reducible rfl) | omega | (simp; done) | (simp; omega))) | (with_reducible refine has_alloc ?_) | (with_reducible refine has_ov_other ?_ ?_; (focus (first | (with_reducible rfl) | omega | (simp; done) | (simp; omega)))))); done)); (focus ((repeat' (first | (with_reducible refine has_drew ?_) | (with_reducible refine has_drewN ?_) | (with_reducible refine has_new ?_; (first | (with_reducible rfl) | omega | (simp; done) | (simp; omega))) | (with_reducible refine has_ov_same ?_; (first | (with_reducible rfl) | omega | (simp; done) | (simp; omega))) | (with_reducible refine has_alloc ?_) | (with_reducible refine has_ov_other ?_ ?_; (focus (first | (with_reducible rfl) | omega | (simp; done) | (simp; omega)))))); done)); rintro u1 ⟨rfl, hB, hz, z0, o0, z1, o1⟩; (try simp only [World.size_alloc, World.size_setCell, World.size_drew, ov_size] at hz)) | (go_at_call 17; (with_reducible refine (HC.out _).mono ?_); rintro e w1 ⟨rfl, hb⟩; refine Exists.elim (after2 (w := w) (b0 := w.heap.size) (cs0 := ?_) (T0 := ?_) (b1 := w.heap.size + 1) (cs1 := ?_) (T1 := ?_) hb ?_ ?_ ?_) ?_; rotate_left 4; (focus ((repeat' (first | (with_reducible exact Below.refl _ _) | (with_reducible assumption) | (with_reducible refine below_from_drew ?_) | (with_reducible refine Below.alloc ?_ ?_ _) | (with_reducible refine Below.drew ?_) | (with_reducible refine below_drewN ?_ _) | (with_reducible refine Below.setCell ?_ ?_ _) | (with_reducible refine below_via ?_ (by assumption) ?_) | (with_reducible refine below_ov ?_ ?_ _ _) | go_size)); done)); (focus ((repeat' (first | (with_reducible refine has_drew ?_) | (with_reducible refine has_drewN ?_) | (with_reducible refine has_new ?_; (first | (with_reducible rfl) | omega | (simp; done) | (simp; omega))) | (with_reducible refine has_ov_same ?_; (first | (with_reducible rfl) | omega | (simp; done) | (simp; omega))) | (with_reducible refine has_alloc ?_) | (with_reducible refine has_ov_other ?_ ?_; (focus (first | (with_reducible rfl) | omega | (simp; done) | (simp; omega)))))); done)); (focus ((repeat' (first | (with_reducible refine has_drew ?_) | (with_reducible refine has_drewN ?_) | (with_reducible refine has_new ?_; (first | (with_reducible rfl) | omega | (simp; done) | (simp; omega))) | (with_reducible refine has_ov_same ?_; (first | (with_reducible rfl) | omega | (simp; done) | (simp; omega))) | (with_reducible refine has_alloc ?_) | (with_reducible refine has_ov_other ?_ ?_; (focus (first | (with_reducible rfl) | omega | (simp; done) | (simp; omega)))))); done)); rintro u2 ⟨rfl, hB, hz, z0, o0, z1, o1⟩; (try simp only [World.size_alloc, World.size_setCell, World.size_drew, ov_size] at hz)) | (go_at_call 18; (with_reducible refine (s25_cut HB.out _).mono ?_); rintro e w1 ⟨rfl, hb⟩; refine Exists.elim (after2 (w := w) (b0 := w.heap.size) (cs0 := ?_) (T0 := ?_) (b1 := w.heap.size + 1) (cs1 := ?_) (T1 := ?_) hb ?_ ?_ ?_) ?_; rotate_left 4; (focus ((repeat' (first | (with_reducible exact Below.refl _ _) | (with_reducible assumption) | (with_reducible refine below_from_drew ?_) | (with_reducible refine Below.alloc ?_ ?_ _) | (with_reducible refine Below.drew ?_) | (with_reducible refine below_drewN ?_ _) | (with_reducible refine Below.setCell ?_ ?_ _) | (with_reducible refine below_via ?_ (by assumption) ?_) | (with_reducible refine below_ov ?_ ?_ _ _) | go_size)); done)); (focus ((repeat' (first | (with_reducible refine has_drew ?_) | (with_reducible refine has_drewN ?_) | (with_reducible refine has_new ?_; (first | (with_reducible rfl) | omega | (simp; done) | (simp; omega))) | (with_reducible refine has_ov_same ?_; (first | (with_reducible rfl) | omega | (simp; done) | (simp; omega))) | (with_reducible refine has_alloc ?_) | (with_reducible refine has_ov_other ?_ ?_; (focus (first | (with_reducible rfl) | omega | (simp; done) | (simp; omega)))))); done)); (focus ((repeat' (first | (with_reducible refine has_drew ?_) | (with_reducible refine has_drewN ?_) | (with_reducible refine has_new ?_; (first | (with_reducible rfl) | omega | (simp; done) | (simp; omega))) | (with_reducible refine has_ov_same ?_; (first | (with_reducible rfl) | omega | (simp; done) | (simp; omega))) | (with_reducible refine has_alloc ?_) | (with_reducible refine has_ov_other ?_ ?_; (focus (first | (with_reducible rfl) | omega | (simp; done) | (simp; omega)))))); done)); rintro u3 ⟨rfl, hB, hz, z0, o0, z1, o1⟩; (try simp only [World.size_alloc, World.size_setCell, World.size_drew, ov_size] at hz)))
  refine wp_loop_rounds 3 ?_
  rw [rounds_succ]
  go_upto_region 15 with fail
  go_cut [12] (fun s wx => s = .bool (midB x y u v (x / 64 + n0) (y / 64 + n1)) ∧ wx = (ov (ov u3 w.heap.size #[.int .i64 x, .int .i64 y, .int .i64 u, .int .i64 v] 22) (w.heap.size + 1) #[.int .i8 n0, .int .i8 n1] 24).alloc (.cells #[.int .i64 (r0 (ed x) (ed y) (ed (x + u)) (ed (y + v))), .int .i64 (r1 (ed x) (ed y) (ed (x + u)) (ed (y + v))), .int .i64 (r2 (ed x) (ed y) (ed (x + u)) (ed (y + v))), .int .i64 (r3 (ed x) (ed y) (ed (x + u)) (ed (y + v)))] 28))
  case first =>
    by_cases c1 : x < 64 * (x / 64 + n0) + 32
    · by_cases c2 : 64 * (x / 64 + n0) + 32 ≤ x + u
      · by_cases c3 : y < 64 * (y / 64 + n1) + 32
        · by_cases c4 : 64 * (y / 64 + n1) + 32 ≤ y + v
          · have hm : midB x y u v (x / 64 + n0) (y / 64 + n1) = true := by simp [midB, c1, c2, c3, c4]
            have HH := Lib.hid hm; clear hm
            go_wp2_with fail
            go_meet
            exact ⟨by rw [HH.out], rfl⟩
          · have hm : midB x y u v (x / 64 + n0) (y / 64 + n1) = false := by simp [midB, c1, c2, c3, c4]
            have HH := Lib.hid hm; clear hm
            go_wp2_with fail
            go_meet
            exact ⟨by rw [HH.out], rfl⟩
        · have hm : midB x y u v (x / 64 + n0) (y / 64 + n1) = false := by simp [midB, c1, c2, c3]
          have HH := Lib.hid hm; clear hm
          go_wp2_with fail
          go_meet
          exact ⟨by rw [HH.out], rfl⟩
      · have hm : midB x y u v (x / 64 + n0) (y / 64 + n1) = false := by simp [midB, c1, c2]
        have HH := Lib.hid hm; clear hm
        go_wp2_with fail
        go_meet
        exact ⟨by rw [HH.out], rfl⟩
    · have hm : midB x y u v (x / 64 + n0) (y / 64 + n1) = false := by simp [midB, c1]
      have HH := Lib.hid hm; clear hm
      go_wp2_with fail
      go_meet
      exact ⟨by rw [HH.out], rfl⟩
  case rest =>
    obtain ⟨rfl, rfl⟩ := hcut
    go_upto_region 16 with fail
    go_wp2_with (go_at_call 19; (with_reducible refine (HM.out _ _ _).mono ?_); rintro e w1 ⟨rfl, hb⟩; refine Exists.elim (after3 (w := w) (b0 := w.heap.size) (cs0 := ?_) (T0 := ?_) (b1 := w.heap.size + 1) (cs1 := ?_) (T1 := ?_) (b2 := u3.heap.size) (cs2 := ?_) (T2 := ?_) hb ?_ ?_ ?_ ?_) ?_; rotate_left 6; (focus ((repeat' (first | (with_reducible exact Below.refl _ _) | (with_reducible assumption) | (with_reducible refine below_from_drew ?_) | (with_reducible refine Below.alloc ?_ ?_ _) | (with_reducible refine Below.drew ?_) | (with_reducible refine below_drewN ?_ _) | (with_reducible refine Below.setCell ?_ ?_ _) | (with_reducible refine below_via ?_ (by assumption) ?_) | (with_reducible refine below_ov ?_ ?_ _ _) | go_size)); done)); (focus ((repeat' (first | (with_reducible refine has_drew ?_) | (with_reducible refine has_drewN ?_) | (with_reducible refine has_new ?_; (first | (with_reducible rfl) | omega | (simp; done) | (simp; omega))) | (with_reducible refine has_ov_same ?_; (first | (with_reducible rfl) | omega | (simp; done) | (simp; omega))) | (with_reducible refine has_alloc ?_) | (with_reducible refine has_ov_other ?_ ?_; (focus (first | (with_reducible rfl) | omega | (simp; done) | (simp; omega)))))); done)); (focus ((repeat' (first | (with_reducible refine has_drew ?_) | (with_reducible refine has_drewN ?_) | (with_reducible refine has_new ?_; (first | (with_reducible rfl) | omega | (simp; done) | (simp; omega))) | (with_reducible refine has_ov_same ?_; (first | (with_reducible rfl) | omega | (simp; done) | (simp; omega))) | (with_reducible refine has_alloc ?_) | (with_reducible refine has_ov_other ?_ ?_; (focus (first | (with_reducible rfl) | omega | (simp; done) | (simp; omega)))))); done)); (focus ((repeat' (first | (with_reducible refine has_drew ?_) | (with_reducible refine has_drewN ?_) | (with_reducible refine has_new ?_; (first | (with_reducible rfl) | omega | (simp; done) | (simp; omega))) | (with_reducible refine has_ov_same ?_; (first | (with_reducible rfl) | omega | (simp; done) | (simp; omega))) | (with_reducible refine has_alloc ?_) | (with_reducible refine has_ov_other ?_ ?_; (focus (first | (with_reducible rfl) | omega | (simp; done) | (simp; omega)))))); done)); rintro u4 ⟨rfl, hB, hz, z0, o0, z1, o1, z2, o2⟩; (try simp only [World.size_alloc, World.size_setCell, World.size_drew, ov_size] at hz))
    rw [rounds_succ]
    go_upto_region 13 with fail
    refine region_ord [(0, 0), (1, 0), (2, 0), (3, 0), (4, 0), (5, 0), (6, 0), (7, 0), (8, 0), (9, 0), (10, 0), (11, 0), (12, 0), (13, 0), (14, 0), (15, 0), (16, 0), (17, 0), (18, 0), (19, 0), (20, 0), (21, 0)] (by kernel_rfl) (by kernel_rfl) (fun _ _ d _ _ h => by cases d <;> exact h) (fun hS => ?_)
    (refine wpG_read (v := ?_) rfl (.inl ⟨by rfl, fun wx hbx => ?_⟩) ?_; rotate_left; (focus (obtain ⟨cx0, fx0, zx0⟩ := bk hbx (w.heap.size) (by first | omega | (simp; done) | (simp; omega)); obtain ⟨cx1, fx1, zx1⟩ := bk hbx (w.heap.size + 1) (by first | omega | (simp; done) | (simp; omega)); obtain ⟨cx2, fx2, zx2⟩ := bk hbx (u3.heap.size) (by first | omega | (simp; done) | (simp; omega)); go_simp; (try go_bits); (try with_reducible rfl))); try simp only [Act.put, List.setIfInBounds_toArray, List.set_cons_zero, List.set_cons_succ])
    (refine wpG_read (v := ?_) rfl (.inl ⟨by rfl, fun wx hbx => ?_⟩) ?_; rotate_left; (focus (obtain ⟨cx0, fx0, zx0⟩ := bk hbx (w.heap.size) (by first | omega | (simp; done) | (simp; omega)); obtain ⟨cx1, fx1, zx1⟩ := bk hbx (w.heap.size + 1) (by first | omega | (simp; done) | (simp; omega)); obtain ⟨cx2, fx2, zx2⟩ := bk hbx (u3.heap.size) (by first | omega | (simp; done) | (simp; omega)); go_simp; (try go_bits); (try with_reducible rfl))); try simp only [Act.put, List.setIfInBounds_toArray, List.set_cons_zero, List.set_cons_succ])
    (refine wpG_read (v := ?_) rfl (.inl ⟨by rfl, fun wx hbx => ?_⟩) ?_; rotate_left; (focus (obtain ⟨cx0, fx0, zx0⟩ := bk hbx (w.heap.size) (by first | omega | (simp; done) | (simp; omega)); obtain ⟨cx1, fx1, zx1⟩ := bk hbx (w.heap.size + 1) (by first | omega | (simp; done) | (simp; omega)); obtain ⟨cx2, fx2, zx2⟩ := bk hbx (u3.heap.size) (by first | omega | (simp; done) | (simp; omega)); go_simp; (try go_bits); (try with_reducible rfl))); try simp only [Act.put, List.setIfInBounds_toArray, List.set_cons_zero, List.set_cons_succ])
    (refine wpG_read (v := ?_) rfl (.inl ⟨by rfl, fun wx hbx => ?_⟩) ?_; rotate_left; (focus (obtain ⟨cx0, fx0, zx0⟩ := bk hbx (w.heap.size) (by first | omega | (simp; done) | (simp; omega)); obtain ⟨cx1, fx1, zx1⟩ := bk hbx (w.heap.size + 1) (by first | omega | (simp; done) | (simp; omega)); obtain ⟨cx2, fx2, zx2⟩ := bk hbx (u3.heap.size) (by first | omega | (simp; done) | (simp; omega)); go_simp; (try go_bits); (try with_reducible rfl))); try simp only [Act.put, List.setIfInBounds_toArray, List.set_cons_zero, List.set_cons_succ])
    (refine wpG_read (v := ?_) rfl (.inl ⟨by rfl, fun wx hbx => ?_⟩) ?_; rotate_left; (focus (obtain ⟨cx0, fx0, zx0⟩ := bk hbx (w.heap.size) (by first | omega | (simp; done) | (simp; omega)); obtain ⟨cx1, fx1, zx1⟩ := bk hbx (w.heap.size + 1) (by first | omega | (simp; done) | (simp; omega)); obtain ⟨cx2, fx2, zx2⟩ := bk hbx (u3.heap.size) (by first | omega | (simp; done) | (simp; omega)); go_simp; (try go_bits); (try with_reducible rfl))); try simp only [Act.put, List.setIfInBounds_toArray, List.set_cons_zero, List.set_cons_succ])
    (refine wpG_read (v := ?_) rfl (.inl ⟨by rfl, fun wx hbx => ?_⟩) ?_; rotate_left; (focus (obtain ⟨cx0, fx0, zx0⟩ := bk hbx (w.heap.size) (by first | omega | (simp; done) | (simp; omega)); obtain ⟨cx1, fx1, zx1⟩ := bk hbx (w.heap.size + 1) (by first | omega | (simp; done) | (simp; omega)); obtain ⟨cx2, fx2, zx2⟩ := bk hbx (u3.heap.size) (by first | omega | (simp; done) | (simp; omega)); go_simp; (try go_bits); (try with_reducible rfl))); try simp only [Act.put, List.setIfInBounds_toArray, List.set_cons_zero, List.set_cons_succ])
    (refine wpG_read (v := ?_) rfl (.inl ⟨by rfl, fun wx hbx => ?_⟩) ?_; rotate_left; (focus (obtain ⟨cx0, fx0, zx0⟩ := bk hbx (w.heap.size) (by first | omega | (simp; done) | (simp; omega)); obtain ⟨cx1, fx1, zx1⟩ := bk hbx (w.heap.size + 1) (by first | omega | (simp; done) | (simp; omega)); obtain ⟨cx2, fx2, zx2⟩ := bk hbx (u3.heap.size) (by first | omega | (simp; done) | (simp; omega)); go_simp; (try go_bits); (try with_reducible rfl))); try simp only [Act.put, List.setIfInBounds_toArray, List.set_cons_zero, List.set_cons_succ])
    (refine wpG_read (v := ?_) rfl (.inl ⟨by rfl, fun wx hbx => ?_⟩) ?_; rotate_left; (focus (obtain ⟨cx0, fx0, zx0⟩ := bk hbx (w.heap.size) (by first | omega | (simp; done) | (simp; omega)); obtain ⟨cx1, fx1, zx1⟩ := bk hbx (w.heap.size + 1) (by first | omega | (simp; done) | (simp; omega)); obtain ⟨cx2, fx2, zx2⟩ := bk hbx (u3.heap.size) (by first | omega | (simp; done) | (simp; omega)); go_simp; (try go_bits); (try with_reducible rfl))); try simp only [Act.put, List.setIfInBounds_toArray, List.set_cons_zero, List.set_cons_succ])
    (refine wpG_read (v := ?_) rfl (.inl ⟨by rfl, fun wx hbx => ?_⟩) ?_; rotate_left; (focus (obtain ⟨cx0, fx0, zx0⟩ := bk hbx (w.heap.size) (by first | omega | (simp; done) | (simp; omega)); obtain ⟨cx1, fx1, zx1⟩ := bk hbx (w.heap.size + 1) (by first | omega | (simp; done) | (simp; omega)); obtain ⟨cx2, fx2, zx2⟩ := bk hbx (u3.heap.size) (by first | omega | (simp; done) | (simp; omega)); go_simp; (try go_bits); (try with_reducible rfl))); try simp only [Act.put, List.setIfInBounds_toArray, List.set_cons_zero, List.set_cons_succ])
    (refine wpG_read (v := ?_) rfl (.inl ⟨by rfl, fun wx hbx => ?_⟩) ?_; rotate_left; (focus (obtain ⟨cx0, fx0, zx0⟩ := bk hbx (w.heap.size) (by first | omega | (simp; done) | (simp; omega)); obtain ⟨cx1, fx1, zx1⟩ := bk hbx (w.heap.size + 1) (by first | omega | (simp; done) | (simp; omega)); obtain ⟨cx2, fx2, zx2⟩ := bk hbx (u3.heap.size) (by first | omega | (simp; done) | (simp; omega)); go_simp; (try go_bits); (try with_reducible rfl))); try simp only [Act.put, List.setIfInBounds_toArray, List.set_cons_zero, List.set_cons_succ])
    (refine wpG_read (v := ?_) rfl (.inl ⟨by rfl, fun wx hbx => ?_⟩) ?_; rotate_left; (focus (obtain ⟨cx0, fx0, zx0⟩ := bk hbx (w.heap.size) (by first | omega | (simp; done) | (simp; omega)); obtain ⟨cx1, fx1, zx1⟩ := bk hbx (w.heap.size + 1) (by first | omega | (simp; done) | (simp; omega)); obtain ⟨cx2, fx2, zx2⟩ := bk hbx (u3.heap.size) (by first | omega | (simp; done) | (simp; omega)); go_simp; (try go_bits); (try with_reducible rfl))); try simp only [Act.put, List.setIfInBounds_toArray, List.set_cons_zero, List.set_cons_succ])
    (refine wpG_read (v := ?_) rfl (.inl ⟨by rfl, fun wx hbx => ?_⟩) ?_; rotate_left; (focus (obtain ⟨cx0, fx0, zx0⟩ := bk hbx (w.heap.size) (by first | omega | (simp; done) | (simp; omega)); obtain ⟨cx1, fx1, zx1⟩ := bk hbx (w.heap.size + 1) (by first | omega | (simp; done) | (simp; omega)); obtain ⟨cx2, fx2, zx2⟩ := bk hbx (u3.heap.size) (by first | omega | (simp; done) | (simp; omega)); go_simp; (try go_bits); (try with_reducible rfl))); try simp only [Act.put, List.setIfInBounds_toArray, List.set_cons_zero, List.set_cons_succ])
    (refine wpG_read (v := ?_) rfl (.inl ⟨by rfl, fun wx hbx => ?_⟩) ?_; rotate_left; (focus (obtain ⟨cx0, fx0, zx0⟩ := bk hbx (w.heap.size) (by first | omega | (simp; done) | (simp; omega)); obtain ⟨cx1, fx1, zx1⟩ := bk hbx (w.heap.size + 1) (by first | omega | (simp; done) | (simp; omega)); obtain ⟨cx2, fx2, zx2⟩ := bk hbx (u3.heap.size) (by first | omega | (simp; done) | (simp; omega)); go_simp; (try go_bits); (try with_reducible rfl))); try simp only [Act.put, List.setIfInBounds_toArray, List.set_cons_zero, List.set_cons_succ])
    (refine wpG_read (v := ?_) rfl (.inl ⟨by rfl, fun wx hbx => ?_⟩) ?_; rotate_left; (focus (obtain ⟨cx0, fx0, zx0⟩ := bk hbx (w.heap.size) (by first | omega | (simp; done) | (simp; omega)); obtain ⟨cx1, fx1, zx1⟩ := bk hbx (w.heap.size + 1) (by first | omega | (simp; done) | (simp; omega)); obtain ⟨cx2, fx2, zx2⟩ := bk hbx (u3.heap.size) (by first | omega | (simp; done) | (simp; omega)); go_simp; (try go_bits); (try with_reducible rfl))); try simp only [Act.put, List.setIfInBounds_toArray, List.set_cons_zero, List.set_cons_succ])
    (refine wpG_read (v := ?_) rfl (.inl ⟨by rfl, fun wx hbx => ?_⟩) ?_; rotate_left; (focus (obtain ⟨cx0, fx0, zx0⟩ := bk hbx (w.heap.size) (by first | omega | (simp; done) | (simp; omega)); obtain ⟨cx1, fx1, zx1⟩ := bk hbx (w.heap.size + 1) (by first | omega | (simp; done) | (simp; omega)); obtain ⟨cx2, fx2, zx2⟩ := bk hbx (u3.heap.size) (by first | omega | (simp; done) | (simp; omega)); go_simp; (try go_bits); (try with_reducible rfl))); try simp only [Act.put, List.setIfInBounds_toArray, List.set_cons_zero, List.set_cons_succ])
    (refine wpG_read (v := ?_) rfl (.inl ⟨by rfl, fun wx hbx => ?_⟩) ?_; rotate_left; (focus (obtain ⟨cx0, fx0, zx0⟩ := bk hbx (w.heap.size) (by first | omega | (simp; done) | (simp; omega)); obtain ⟨cx1, fx1, zx1⟩ := bk hbx (w.heap.size + 1) (by first | omega | (simp; done) | (simp; omega)); obtain ⟨cx2, fx2, zx2⟩ := bk hbx (u3.heap.size) (by first | omega | (simp; done) | (simp; omega)); go_simp; (try go_bits); (try with_reducible rfl))); try simp only [Act.put, List.setIfInBounds_toArray, List.set_cons_zero, List.set_cons_succ])
    (refine wpG_read (v := ?_) rfl (.inl ⟨by rfl, fun wx hbx => ?_⟩) ?_; rotate_left; (focus (obtain ⟨cx0, fx0, zx0⟩ := bk hbx (w.heap.size) (by first | omega | (simp; done) | (simp; omega)); obtain ⟨cx1, fx1, zx1⟩ := bk hbx (w.heap.size + 1) (by first | omega | (simp; done) | (simp; omega)); obtain ⟨cx2, fx2, zx2⟩ := bk hbx (u3.heap.size) (by first | omega | (simp; done) | (simp; omega)); go_simp; (try go_bits); (try with_reducible rfl))); try simp only [Act.put, List.setIfInBounds_toArray, List.set_cons_zero, List.set_cons_succ])
    (refine wpG_read (v := ?_) rfl (.inl ⟨by rfl, fun wx hbx => ?_⟩) ?_; rotate_left; (focus (obtain ⟨cx0, fx0, zx0⟩ := bk hbx (w.heap.size) (by first | omega | (simp; done) | (simp; omega)); obtain ⟨cx1, fx1, zx1⟩ := bk hbx (w.heap.size + 1) (by first | omega | (simp; done) | (simp; omega)); obtain ⟨cx2, fx2, zx2⟩ := bk hbx (u3.heap.size) (by first | omega | (simp; done) | (simp; omega)); go_simp; (try go_bits); (try with_reducible rfl))); try simp only [Act.put, List.setIfInBounds_toArray, List.set_cons_zero, List.set_cons_succ])
    (refine wpG_read (v := ?_) rfl (.inl ⟨by rfl, fun wx hbx => ?_⟩) ?_; rotate_left; (focus (obtain ⟨cx0, fx0, zx0⟩ := bk hbx (w.heap.size) (by first | omega | (simp; done) | (simp; omega)); obtain ⟨cx1, fx1, zx1⟩ := bk hbx (w.heap.size + 1) (by first | omega | (simp; done) | (simp; omega)); obtain ⟨cx2, fx2, zx2⟩ := bk hbx (u3.heap.size) (by first | omega | (simp; done) | (simp; omega)); go_simp; (try go_bits); (try with_reducible rfl))); try simp only [Act.put, List.setIfInBounds_toArray, List.set_cons_zero, List.set_cons_succ])
    (refine wpG_read (v := ?_) rfl (.inl ⟨by rfl, fun wx hbx => ?_⟩) ?_; rotate_left; (focus (obtain ⟨cx0, fx0, zx0⟩ := bk hbx (w.heap.size) (by first | omega | (simp; done) | (simp; omega)); obtain ⟨cx1, fx1, zx1⟩ := bk hbx (w.heap.size + 1) (by first | omega | (simp; done) | (simp; omega)); obtain ⟨cx2, fx2, zx2⟩ := bk hbx (u3.heap.size) (by first | omega | (simp; done) | (simp; omega)); go_simp; (try go_bits); (try with_reducible rfl))); try simp only [Act.put, List.setIfInBounds_toArray, List.set_cons_zero, List.set_cons_succ])
    (refine wpG_read (v := ?_) rfl (.inl ⟨by rfl, fun wx hbx => ?_⟩) ?_; rotate_left; (focus (obtain ⟨cx0, fx0, zx0⟩ := bk hbx (w.heap.size) (by first | omega | (simp; done) | (simp; omega)); obtain ⟨cx1, fx1, zx1⟩ := bk hbx (w.heap.size + 1) (by first | omega | (simp; done) | (simp; omega)); obtain ⟨cx2, fx2, zx2⟩ := bk hbx (u3.heap.size) (by first | omega | (simp; done) | (simp; omega)); go_simp; (try go_bits); (try with_reducible rfl))); try simp only [Act.put, List.setIfInBounds_toArray, List.set_cons_zero, List.set_cons_succ])
    (refine wpG_read (v := ?_) rfl (.inl ⟨by rfl, fun wx hbx => ?_⟩) ?_; rotate_left; (focus (obtain ⟨cx0, fx0, zx0⟩ := bk hbx (w.heap.size) (by first | omega | (simp; done) | (simp; omega)); obtain ⟨cx1, fx1, zx1⟩ := bk hbx (w.heap.size + 1) (by first | omega | (simp; done) | (simp; omega)); obtain ⟨cx2, fx2, zx2⟩ := bk hbx (u3.heap.size) (by first | omega | (simp; done) | (simp; omega)); go_simp; (try go_bits); (try with_reducible rfl))); try simp only [Act.put, List.setIfInBounds_toArray, List.set_cons_zero, List.set_cons_succ])
    refine wpG_nil ?_
    go_upto_region 15 with fail
    go_cut [12] (fun s wx => s = .bool (midB x y u v ((x + u) / 64 + n0) ((y + v) / 64 + n1)) ∧ wx = (ov (ov (ov u4 w.heap.size #[.int .i64 x, .int .i64 y, .int .i64 u, .int .i64 v] 22) (w.heap.size + 1) #[.int .i8 n0, .int .i8 n1] 24) u3.heap.size #[.int .i64 (r0 (ed x) (ed y) (ed (x + u)) (ed (y + v))), .int .i64 (r1 (ed x) (ed y) (ed (x + u)) (ed (y + v))), .int .i64 (r2 (ed x) (ed y) (ed (x + u)) (ed (y + v))), .int .i64 (r3 (ed x) (ed y) (ed (x + u)) (ed (y + v)))] 28).drew)
    case first =>
      by_cases c1 : x < 64 * ((x + u) / 64 + n0) + 32
      · by_cases c2 : 64 * ((x + u) / 64 + n0) + 32 ≤ x + u
        · by_cases c3 : y < 64 * ((y + v) / 64 + n1) + 32
          · by_cases c4 : 64 * ((y + v) / 64 + n1) + 32 ≤ y + v
            · have hm : midB x y u v ((x + u) / 64 + n0) ((y + v) / 64 + n1) = true := by simp [midB, c1, c2, c3, c4]
              have HH := Lib.hid hm; clear hm
              go_wp2_with fail
              go_meet
              exact ⟨by rw [HH.out], rfl⟩
            · have hm : midB x y u v ((x + u) / 64 + n0) ((y + v) / 64 + n1) = false := by simp [midB, c1, c2, c3, c4]
              have HH := Lib.hid hm; clear hm
              go_wp2_with fail
              go_meet
              exact ⟨by rw [HH.out], rfl⟩
          · have hm : midB x y u v ((x + u) / 64 + n0) ((y + v) / 64 + n1) = false := by simp [midB, c1, c2, c3]
            have HH := Lib.hid hm; clear hm
            go_wp2_with fail
            go_meet
            exact ⟨by rw [HH.out], rfl⟩
        · have hm : midB x y u v ((x + u) / 64 + n0) ((y + v) / 64 + n1) = false := by simp [midB, c1, c2]
          have HH := Lib.hid hm; clear hm
          go_wp2_with fail
          go_meet
          exact ⟨by rw [HH.out], rfl⟩
      · have hm : midB x y u v ((x + u) / 64 + n0) ((y + v) / 64 + n1) = false := by simp [midB, c1]
        have HH := Lib.hid hm; clear hm
        go_wp2_with fail
        go_meet
        exact ⟨by rw [HH.out], rfl⟩
    case rest =>
      obtain ⟨rfl, rfl⟩ := hcut
      go_wp2_with (go_at_call 19; (with_reducible refine (HM.out _ _ _).mono ?_); rintro e w1 ⟨rfl, hb⟩; refine Exists.elim (after3 (w := w) (b0 := w.heap.size) (cs0 := ?_) (T0 := ?_) (b1 := w.heap.size + 1) (cs1 := ?_) (T1 := ?_) (b2 := u3.heap.size) (cs2 := ?_) (T2 := ?_) hb ?_ ?_ ?_ ?_) ?_; rotate_left 6; (focus ((repeat' (first | (with_reducible exact Below.refl _ _) | (with_reducible assumption) | (with_reducible refine below_from_drew ?_) | (with_reducible refine Below.alloc ?_ ?_ _) | (with_reducible refine Below.drew ?_) | (with_reducible refine below_drewN ?_ _) | (with_reducible refine Below.setCell ?_ ?_ _) | (with_reducible refine below_via ?_ (by assumption) ?_) | (with_reducible refine below_ov ?_ ?_ _ _) | go_size)); done)); (focus ((repeat' (first | (with_reducible refine has_drew ?_) | (with_reducible refine has_drewN ?_) | (with_reducible refine has_new ?_; (first | (with_reducible rfl) | omega | (simp; done) | (simp; omega))) | (with_reducible refine has_ov_same ?_; (first | (with_reducible rfl) | omega | (simp; done) | (simp; omega))) | (with_reducible refine has_alloc ?_) | (with_reducible refine has_ov_other ?_ ?_; (focus (first | (with_reducible rfl) | omega | (simp; done) | (simp; omega)))))); done)); (focus ((repeat' (first | (with_reducible refine has_drew ?_) | (with_reducible refine has_drewN ?_) | (with_reducible refine has_new ?_; (first | (with_reducible rfl) | omega | (simp; done) | (simp; omega))) | (with_reducible refine has_ov_same ?_; (first | (with_reducible rfl) | omega | (simp; done) | (simp; omega))) | (with_reducible refine has_alloc ?_) | (with_reducible refine has_ov_other ?_ ?_; (focus (first | (with_reducible rfl) | omega | (simp; done) | (simp; omega)))))); done)); (focus ((repeat' (first | (with_reducible refine has_drew ?_) | (with_reducible refine has_drewN ?_) | (with_reducible refine has_new ?_; (first | (with_reducible rfl) | omega | (simp; done) | (simp; omega))) | (with_reducible refine has_ov_same ?_; (first | (with_reducible rfl) | omega | (simp; done) | (simp; omega))) | (with_reducible refine has_alloc ?_) | (with_reducible refine has_ov_other ?_ ?_; (focus (first | (with_reducible rfl) | omega | (simp; done) | (simp; omega)))))); done)); rintro u5 ⟨rfl, hB, hz, z0, o0, z1, o1, z2, o2⟩; (try simp only [World.size_alloc, World.size_setCell, World.size_drew, ov_size] at hz))
      rw [rounds_succ]
      go_wp2_with fail
      go_ret
      exact ⟨rfl, by (repeat' (first | (with_reducible exact Below.refl _ _) | (with_reducible assumption) | (with_reducible refine below_from_drew ?_) | (with_reducible refine Below.alloc ?_ ?_ _) | (with_reducible refine Below.drew ?_) | (with_reducible refine below_drewN ?_ _) | (with_reducible refine Below.setCell ?_ ?_ _) | (with_reducible refine below_via ?_ (by assumption) ?_) | (with_reducible refine below_ov ?_ ?_ _ _) | go_size))⟩
theorem mid_row (a b c d n0 n1 : Int) (w : World) (h0 : (Lit.int .i8 n0).wf = true) (h1 : (Lit.int .i8 n1).wf = true) : Calls Try.prog 3 #[(.agg #[.int .i64 (a), .int .i64 (b), .int .i64 (c), .int .i64 (d)]), .agg #[.int .i8 n0, .int .i8 n1]] w fun e w' => e = .returned (.bool true) ∧ Below w.heap.size w w' :=
  mid_any a b c d n0 n1 (by simpa [Lit.wf, IntKind.min, IntKind.max, IntKind.bits, IntKind.signed] using h0) (by simpa [Lit.wf, IntKind.min, IntKind.max, IntKind.bits, IntKind.signed] using h1) w
end Go.Proofs.Ytfppkomffkjciaa
