/- clapboardlaw28.RasterNew: the walk. -/
import Derived.Test.YtkpamofamcndnaaRasS
namespace Go.Proofs.Ytkpamofamcndnaa
open Go.RowKit Go.Shelf
set_option linter.unusedSimpArgs false
set_option linter.unusedVariables false
-- below_from_drew
attribute [local go_sem] ov_cell_same ov_cell_other ov_frozen_same ov_frozen_other ov_size ov_setCell_same ov_setCell_other cell_alloc_old frozen_alloc_old setCell_alloc_old old_alloc old_ov old_drew old_drewN old_setCell
attribute [local go_sem ↓] run_max2 run_min2 eql_rect eq_nil8
theorem at_nil' (x y : Int) (w : World) :
    Calls Try.prog 48 #[.pointer none, .int .i64 x, .int .i64 y] w fun e w' => e = .returned (.int .u8 0) ∧ Below w.heap.size w w' := by
  have hh : hasR 0 0 0 0 x y = false := by
    have z : r0 0 0 0 0 = 0 ∧ r1 0 0 0 0 = 0 ∧ r2 0 0 0 0 = 0 ∧ r3 0 0 0 0 = 0 := by decide
    unfold hasR
    rw [z.1, z.2.1, z.2.2.1, z.2.2.2, decide_eq_false]
    omega
  have HH := Lib.hid (fun u => has_any 0 0 0 0 x y u)
  rw [hh] at HH
  clear hh
  go_enter Try.func48, Try.ntmps48
  go_wp2_with (first | (go_at_call 67; (with_reducible refine (whole_nil _).mono ?_); rintro e u1 ⟨rfl, hb⟩; have hz := hb.size; refine (fun hB => ?_ : Below w.heap.size w u1 → _) ?_; rotate_left; (focus ((repeat' (first | (with_reducible exact Below.refl _ _) | (with_reducible assumption) | (with_reducible refine below_from_drew ?_) | (with_reducible refine Below.alloc ?_ ?_ _) | (with_reducible refine Below.drew ?_) | (with_reducible refine below_drewN ?_ _) | (with_reducible refine Below.setCell ?_ ?_ _) | (with_reducible refine below_via ?_ (by assumption) ?_) | (with_reducible refine below_ov ?_ ?_ _ _) | go_size)); done)); (try simp only [World.size_alloc, World.size_setCell, World.size_drew, ov_size] at hz)) | (go_at_call 35; (with_reducible refine (HH.out _).mono ?_); rintro e u2 ⟨rfl, hb⟩; have hz := hb.size; refine (fun hB => ?_ : Below w.heap.size w u2 → _) ?_; rotate_left; (focus ((repeat' (first | (with_reducible exact Below.refl _ _) | (with_reducible assumption) | (with_reducible refine below_from_drew ?_) | (with_reducible refine Below.alloc ?_ ?_ _) | (with_reducible refine Below.drew ?_) | (with_reducible refine below_drewN ?_ _) | (with_reducible refine Below.setCell ?_ ?_ _) | (with_reducible refine below_via ?_ (by assumption) ?_) | (with_reducible refine below_ov ?_ ?_ _ _) | go_size)); done)); (try simp only [World.size_alloc, World.size_setCell, World.size_drew, ov_size] at hz)))
  go_ret
  exact ⟨rfl, by (repeat' (first | (with_reducible exact Below.refl _ _) | (with_reducible assumption) | (with_reducible refine below_from_drew ?_) | (with_reducible refine Below.alloc ?_ ?_ _) | (with_reducible refine Below.drew ?_) | (with_reducible refine below_drewN ?_ _) | (with_reducible refine Below.setCell ?_ ?_ _) | (with_reducible refine below_via ?_ (by assumption) ?_) | (with_reducible refine below_ov ?_ ?_ _ _) | go_size))⟩
/-- One pixel painted. -/
theorem pixel_nf {x y : Int} (hx : 0 ≤ x ∧ x ≤ 255) (hy : 0 ≤ y ∧ y ≤ 255) : NF x y (x + 1) (y + 1) := by unfold NF; omega
theorem pixel_new {x y : Int} (hx : 0 ≤ x ∧ x ≤ 255) (hy : 0 ≤ y ∧ y ≤ 255) (w : World) : Calls Try.prog 22 #[.int .i64 x, .int .i64 y, .int .i64 (x + 1), .int .i64 (y + 1)] w fun e w' => e = .returned (.agg #[.int .i64 (x), .int .i64 (y), .int .i64 (x+1), .int .i64 (y+1)]) ∧ Below w.heap.size w w' := by
  have q := new_any x y (x + 1) (y + 1) w
  obtain ⟨s0, s1, s2, s3⟩ := r_same (pixel_nf hx hy)
  rw [s0, s1, s2, s3] at q
  exact q
theorem rn_2000 (w : World) : Calls Try.prog 22 #[.int .i64 0, .int .i64 0, .int .i64 2000, .int .i64 2000] w fun e w' => e = .returned (.agg #[.int .i64 (0), .int .i64 (0), .int .i64 (2000), .int .i64 (2000)]) ∧ Below w.heap.size w w' := inst (new_any 0 0 2000 2000 w) (by kernel_rfl)
theorem rn_9 (w : World) : Calls Try.prog 22 #[.int .i64 0, .int .i64 0, .int .i64 9, .int .i64 9] w fun e w' => e = .returned (.agg #[.int .i64 (0), .int .i64 (0), .int .i64 (9), .int .i64 (9)]) ∧ Below w.heap.size w w' := inst (new_any 0 0 9 9 w) (by kernel_rfl)
theorem rn_rects : rectsZ (oneQ (0, 0, 2000, 2000)) = [(0, 0, 2000, 2000)] := by kernel_rfl
theorem rn_rects9 : rectsZ (oneQ (0, 0, 9, 9)) = [(0, 0, 9, 9)] := by kernel_rfl
def pixI (x y : Int) : List ItemZ := [⟨0, 0, (x, y, x + 1, y + 1), 7⟩]
theorem pixel_paint {W H : Nat} {x y : Int} (hs : W ≤ 1024 ∧ H ≤ 1024) (hx : 0 ≤ x ∧ x ≤ 255) (hy : 0 ≤ y ∧ y ≤ 255) {i j : Nat} (hi : i < H) (hj : j < W) :
    paintF W H (pixI x y) [(0, 0, 2000, 2000)] (fun _ _ => 0) i j = if (j : Int) = x ∧ (i : Int) = y then 7 else 0 := by
  have hin : InQ W H (andQ (0, 0, 2000, 2000) (wholeQ W H)) := (inQ_whole hs).and
  show fillF (andQ (x, y, x + 1, y + 1) (andQ (0, 0, 2000, 2000) (wholeQ W H))) 7 (fillF (andQ (0, 0, 2000, 2000) (wholeQ W H)) 0 fun _ _ => 0) i j = _
  have h1 : inR' (andQ (x, y, x + 1, y + 1) (andQ (0, 0, 2000, 2000) (wholeQ W H))) j i = decide ((j : Int) = x ∧ (i : Int) = y) := by
    rw [inR'_nf (hin.and).2, and_has, and_has, whole_has hs.1 hs.2]
    rw [← inR'_nf (q := (x, y, x + 1, y + 1)) (pixel_nf hx hy), ← inR'_nf (q := (0, 0, 2000, 2000)) (by unfold NF; simp only; omega)]
    unfold inR'
    simp only [← Bool.decide_and]
    congr 1
    apply propext
    omega
  unfold fillF
  simp only [h1, decide_eq_true_eq]
  split
  · rfl
  · split <;> rfl
theorem itemsT_pixel {w : World} {b : Nat} {x y : Int} (h : Has w b #[.int .i64 0, .int .i64 0, .int .i64 x, .int .i64 y, .int .i64 (x + 1), .int .i64 (y + 1), .int .u8 7] 88) : ItemsT w (some ⟨b, 0, none⟩) (pixI x y) := fun _ =>
  ⟨b, 0, _, rfl, h, fun i hi => by
    rcases i with _ | i
    · exact ⟨⟨show (0 : Int) ≤ 7 by decide, show (7 : Int) ≤ 255 by decide⟩, rfl, rfl, rfl, rfl, rfl, rfl, rfl⟩
    · simp [pixI] at hi⟩
set_option maxRecDepth 100000 in
set_option maxHeartbeats 8000000 in
theorem rnew_bad (a b x y : Int) (w : World) (hx : 0 ≤ x ∧ x ≤ 255) (hy : 0 ≤ y ∧ y ≤ 255) (h : a < 0 ∨ b < 0 ∨ 1024 < a ∨ 1024 < b) :
    Calls Try.prog 7 #[.int .i64 a, .int .i64 b, .agg #[.int .u8 x, .int .u8 y]] w fun e w' => e = .returned (.bool true) ∧ Below w.heap.size w w' := by
  have HNB := Lib.hid (fun u => new8_bad a b u h)
  have HPN := Lib.hid (fun u => pixel_new hx hy u)
  have d1 := hx.1; have d2 := hx.2; have d3 := hy.1; have d4 := hy.2
  have w1 : wrap64 (x + 1) = x + 1 := by unfold wrap64; omega
  have w2 : wrap64 (y + 1) = y + 1 := by unfold wrap64; omega
  have h4 : a < 0 ∨ (0 ≤ a ∧ b < 0) ∨ (0 ≤ a ∧ 0 ≤ b ∧ 1024 < a) ∨ (0 ≤ a ∧ 0 ≤ b ∧ a ≤ 1024 ∧ 1024 < b) := by omega
  clear h
  rcases h4 with k1 | ⟨k1, k2⟩ | ⟨k1, k2, k3⟩ | ⟨k1, k2, k3, k4⟩
  all_goals
    go_enter Try.func7, Try.ntmps7
    go_wp2_with (first | (go_at_call 36; (with_reducible refine (speaks28_any _).mono ?_); rintro e w1 ⟨rfl, hb⟩; refine Exists.elim (after1 (w := w) (b0 := w.heap.size) (cs0 := ?_) (T0 := ?_) hb ?_ ?_) ?_; rotate_left 2; (focus ((repeat' (first | (with_reducible exact Below.refl _ _) | (with_reducible assumption) | (with_reducible refine below_from_drew ?_) | (with_reducible refine Below.alloc ?_ ?_ _) | (with_reducible refine Below.drew ?_) | (with_reducible refine below_drewN ?_ _) | (with_reducible refine Below.setCell ?_ ?_ _) | (with_reducible refine below_via ?_ (by assumption) ?_) | (with_reducible refine below_ov ?_ ?_ _ _) | go_size)); done)); (focus ((repeat' (first | (with_reducible refine has_drew ?_) | (with_reducible refine has_drewN ?_) | (with_reducible refine has_new ?_; (first | (with_reducible rfl) | omega | (simp; done) | (simp; omega))) | (with_reducible refine has_ov_same ?_; (first | (with_reducible rfl) | omega | (simp; done) | (simp; omega))) | (with_reducible refine has_alloc ?_) | (with_reducible refine has_ov_other ?_ ?_; (focus (first | (with_reducible rfl) | omega | (simp; done) | (simp; omega)))) | (with_reducible assumption) | (with_reducible exact has_below hB (by assumption)))); done)); rintro u1 ⟨rfl, hB, hz, z0, o0⟩; (try simp only [World.size_alloc, World.size_setCell, World.size_drew, ov_size] at hz)) | (go_at_call 37; (with_reducible refine (HNB.out _).mono ?_); rintro e w1 ⟨rfl, hb⟩; refine Exists.elim (after1 (w := w) (b0 := w.heap.size) (cs0 := ?_) (T0 := ?_) hb ?_ ?_) ?_; rotate_left 2; (focus ((repeat' (first | (with_reducible exact Below.refl _ _) | (with_reducible assumption) | (with_reducible refine below_from_drew ?_) | (with_reducible refine Below.alloc ?_ ?_ _) | (with_reducible refine Below.drew ?_) | (with_reducible refine below_drewN ?_ _) | (with_reducible refine Below.setCell ?_ ?_ _) | (with_reducible refine below_via ?_ (by assumption) ?_) | (with_reducible refine below_ov ?_ ?_ _ _) | go_size)); done)); (focus ((repeat' (first | (with_reducible refine has_drew ?_) | (with_reducible refine has_drewN ?_) | (with_reducible refine has_new ?_; (first | (with_reducible rfl) | omega | (simp; done) | (simp; omega))) | (with_reducible refine has_ov_same ?_; (first | (with_reducible rfl) | omega | (simp; done) | (simp; omega))) | (with_reducible refine has_alloc ?_) | (with_reducible refine has_ov_other ?_ ?_; (focus (first | (with_reducible rfl) | omega | (simp; done) | (simp; omega)))) | (with_reducible assumption) | (with_reducible exact has_below hB (by assumption)))); done)); rintro u2 ⟨rfl, hB, hz, z0, o0⟩; (try simp only [World.size_alloc, World.size_setCell, World.size_drew, ov_size] at hz)) | (go_at_call 46; (with_reducible refine (size_nil _).mono ?_); rintro e w1 ⟨rfl, hb⟩; refine Exists.elim (after1 (w := w) (b0 := w.heap.size) (cs0 := ?_) (T0 := ?_) hb ?_ ?_) ?_; rotate_left 2; (focus ((repeat' (first | (with_reducible exact Below.refl _ _) | (with_reducible assumption) | (with_reducible refine below_from_drew ?_) | (with_reducible refine Below.alloc ?_ ?_ _) | (with_reducible refine Below.drew ?_) | (with_reducible refine below_drewN ?_ _) | (with_reducible refine Below.setCell ?_ ?_ _) | (with_reducible refine below_via ?_ (by assumption) ?_) | (with_reducible refine below_ov ?_ ?_ _ _) | go_size)); done)); (focus ((repeat' (first | (with_reducible refine has_drew ?_) | (with_reducible refine has_drewN ?_) | (with_reducible refine has_new ?_; (first | (with_reducible rfl) | omega | (simp; done) | (simp; omega))) | (with_reducible refine has_ov_same ?_; (first | (with_reducible rfl) | omega | (simp; done) | (simp; omega))) | (with_reducible refine has_alloc ?_) | (with_reducible refine has_ov_other ?_ ?_; (focus (first | (with_reducible rfl) | omega | (simp; done) | (simp; omega)))) | (with_reducible assumption) | (with_reducible exact has_below hB (by assumption)))); done)); rintro u3 ⟨rfl, hB, hz, z0, o0⟩; (try simp only [World.size_alloc, World.size_setCell, World.size_drew, ov_size] at hz)) | (go_at_call 39; (with_reducible refine (copy8_nil _).mono ?_); rintro e w1 ⟨rfl, hb⟩; refine Exists.elim (after1 (w := w) (b0 := w.heap.size) (cs0 := ?_) (T0 := ?_) hb ?_ ?_) ?_; rotate_left 2; (focus ((repeat' (first | (with_reducible exact Below.refl _ _) | (with_reducible assumption) | (with_reducible refine below_from_drew ?_) | (with_reducible refine Below.alloc ?_ ?_ _) | (with_reducible refine Below.drew ?_) | (with_reducible refine below_drewN ?_ _) | (with_reducible refine Below.setCell ?_ ?_ _) | (with_reducible refine below_via ?_ (by assumption) ?_) | (with_reducible refine below_ov ?_ ?_ _ _) | go_size)); done)); (focus ((repeat' (first | (with_reducible refine has_drew ?_) | (with_reducible refine has_drewN ?_) | (with_reducible refine has_new ?_; (first | (with_reducible rfl) | omega | (simp; done) | (simp; omega))) | (with_reducible refine has_ov_same ?_; (first | (with_reducible rfl) | omega | (simp; done) | (simp; omega))) | (with_reducible refine has_alloc ?_) | (with_reducible refine has_ov_other ?_ ?_; (focus (first | (with_reducible rfl) | omega | (simp; done) | (simp; omega)))) | (with_reducible assumption) | (with_reducible exact has_below hB (by assumption)))); done)); rintro u4 ⟨rfl, hB, hz, z0, o0⟩; (try simp only [World.size_alloc, World.size_setCell, World.size_drew, ov_size] at hz)) | (go_at_call 47; (with_reducible refine (same8_nils _).mono ?_); rintro e w1 ⟨rfl, hb⟩; refine Exists.elim (after1 (w := w) (b0 := w.heap.size) (cs0 := ?_) (T0 := ?_) hb ?_ ?_) ?_; rotate_left 2; (focus ((repeat' (first | (with_reducible exact Below.refl _ _) | (with_reducible assumption) | (with_reducible refine below_from_drew ?_) | (with_reducible refine Below.alloc ?_ ?_ _) | (with_reducible refine Below.drew ?_) | (with_reducible refine below_drewN ?_ _) | (with_reducible refine Below.setCell ?_ ?_ _) | (with_reducible refine below_via ?_ (by assumption) ?_) | (with_reducible refine below_ov ?_ ?_ _ _) | go_size)); done)); (focus ((repeat' (first | (with_reducible refine has_drew ?_) | (with_reducible refine has_drewN ?_) | (with_reducible refine has_new ?_; (first | (with_reducible rfl) | omega | (simp; done) | (simp; omega))) | (with_reducible refine has_ov_same ?_; (first | (with_reducible rfl) | omega | (simp; done) | (simp; omega))) | (with_reducible refine has_alloc ?_) | (with_reducible refine has_ov_other ?_ ?_; (focus (first | (with_reducible rfl) | omega | (simp; done) | (simp; omega)))) | (with_reducible assumption) | (with_reducible exact has_below hB (by assumption)))); done)); rintro u5 ⟨rfl, hB, hz, z0, o0⟩; (try simp only [World.size_alloc, World.size_setCell, World.size_drew, ov_size] at hz)))
    refine region_ord [(0, 0), (1, 0), (2, 0), (3, 0), (4, 0), (5, 0), (6, 0), (7, 0)] (by kernel_rfl) (by kernel_rfl) (fun _ _ d _ _ h => by cases d <;> exact h) (fun hS => ?_)
    (refine wpG_read (v := ?_) rfl (.inl ⟨by rfl, fun wx hbx => ?_⟩) ?_; rotate_left; (focus (obtain ⟨cx0, fx0, zx0⟩ := bk hbx (w.heap.size) (by first | omega | (simp; done) | (simp; omega)); go_simp; (try go_bits); (try with_reducible rfl))); try simp only [Act.put, List.setIfInBounds_toArray, List.set_cons_zero, List.set_cons_succ])
    (refine wpG_read (v := ?_) rfl (.inl ⟨by rfl, fun wx hbx => ?_⟩) ?_; rotate_left; (focus (obtain ⟨cx0, fx0, zx0⟩ := bk hbx (w.heap.size) (by first | omega | (simp; done) | (simp; omega)); go_simp; (try go_bits); (try with_reducible rfl))); try simp only [Act.put, List.setIfInBounds_toArray, List.set_cons_zero, List.set_cons_succ])
    (refine wpG_read (v := ?_) rfl (.inl ⟨by rfl, fun wx hbx => ?_⟩) ?_; rotate_left; (focus (obtain ⟨cx0, fx0, zx0⟩ := bk hbx (w.heap.size) (by first | omega | (simp; done) | (simp; omega)); go_simp; (try go_bits); (try with_reducible rfl))); try simp only [Act.put, List.setIfInBounds_toArray, List.set_cons_zero, List.set_cons_succ])
    (refine wpG_read (v := ?_) rfl (.inl ⟨by rfl, fun wx hbx => ?_⟩) ?_; rotate_left; (focus (obtain ⟨cx0, fx0, zx0⟩ := bk hbx (w.heap.size) (by first | omega | (simp; done) | (simp; omega)); go_simp; (try go_bits); (try with_reducible rfl))); try simp only [Act.put, List.setIfInBounds_toArray, List.set_cons_zero, List.set_cons_succ])
    (refine wpG_read (v := ?_) rfl (.inl ⟨by rfl, fun wx hbx => ?_⟩) ?_; rotate_left; (focus (obtain ⟨cx0, fx0, zx0⟩ := bk hbx (w.heap.size) (by first | omega | (simp; done) | (simp; omega)); go_simp; (try go_bits); (try with_reducible rfl))); try simp only [Act.put, List.setIfInBounds_toArray, List.set_cons_zero, List.set_cons_succ])
    (refine wpG_read (v := ?_) rfl (.inl ⟨by rfl, fun wx hbx => ?_⟩) ?_; rotate_left; (focus (obtain ⟨cx0, fx0, zx0⟩ := bk hbx (w.heap.size) (by first | omega | (simp; done) | (simp; omega)); go_simp; (try go_bits); (try with_reducible rfl))); try simp only [Act.put, List.setIfInBounds_toArray, List.set_cons_zero, List.set_cons_succ])
    (refine wpG_read (v := ?_) rfl (.inl ⟨by rfl, fun wx hbx => ?_⟩) ?_; rotate_left; (focus (obtain ⟨cx0, fx0, zx0⟩ := bk hbx (w.heap.size) (by first | omega | (simp; done) | (simp; omega)); go_simp; (try go_bits); (try with_reducible rfl))); try simp only [Act.put, List.setIfInBounds_toArray, List.set_cons_zero, List.set_cons_succ])
    (refine wpG_read (v := ?_) rfl (.inl ⟨by rfl, fun wx hbx => ?_⟩) ?_; rotate_left; (focus (obtain ⟨cx0, fx0, zx0⟩ := bk hbx (w.heap.size) (by first | omega | (simp; done) | (simp; omega)); go_simp; (try go_bits); (try with_reducible rfl))); try simp only [Act.put, List.setIfInBounds_toArray, List.set_cons_zero, List.set_cons_succ])
    refine wpG_nil ?_
    refine name_world (f := Exit.then _ _ Exit.normal _) (fun X hX => ?_)
    have hBX : Below w.heap.size w X := by rw [hX]; (repeat' (first | (with_reducible exact Below.refl _ _) | (with_reducible assumption) | (with_reducible refine below_from_drew ?_) | (with_reducible refine Below.alloc ?_ ?_ _) | (with_reducible refine Below.drew ?_) | (with_reducible refine below_drewN ?_ _) | (with_reducible refine Below.setCell ?_ ?_ _) | (with_reducible refine below_via ?_ (by assumption) ?_) | (with_reducible refine below_ov ?_ ?_ _ _) | go_size))
    have HBX := Lib.hid hBX
    have hzX : w.heap.size ≤ X.heap.size := hBX.size
    clear hX hBX hb hB hz z0 o0 hS
    go_wp2_with (first | (go_at_call 22; (with_reducible refine (HPN.out _).mono ?_); rintro e u6 ⟨rfl, hb⟩; have hz := hb.size; refine (fun hB => ?_ : Below X.heap.size X u6 → _) ?_; rotate_left; (focus ((repeat' (first | (with_reducible exact Below.refl _ _) | (with_reducible assumption) | (with_reducible refine below_from_drew ?_) | (with_reducible refine Below.alloc ?_ ?_ _) | (with_reducible refine Below.drew ?_) | (with_reducible refine below_drewN ?_ _) | (with_reducible refine Below.setCell ?_ ?_ _) | (with_reducible refine below_via ?_ (by assumption) ?_) | (with_reducible refine below_ov ?_ ?_ _ _) | go_size)); done)); (try simp only [World.size_alloc, World.size_setCell, World.size_drew, ov_size] at hz)) | (go_at_call 22; (with_reducible refine (rn_2000 _).mono ?_); rintro e u7 ⟨rfl, hb⟩; have hz := hb.size; refine (fun hB => ?_ : Below X.heap.size X u7 → _) ?_; rotate_left; (focus ((repeat' (first | (with_reducible exact Below.refl _ _) | (with_reducible assumption) | (with_reducible refine below_from_drew ?_) | (with_reducible refine Below.alloc ?_ ?_ _) | (with_reducible refine Below.drew ?_) | (with_reducible refine below_drewN ?_ _) | (with_reducible refine Below.setCell ?_ ?_ _) | (with_reducible refine below_via ?_ (by assumption) ?_) | (with_reducible refine below_ov ?_ ?_ _ _) | go_size)); done)); (try simp only [World.size_alloc, World.size_setCell, World.size_drew, ov_size] at hz)))
    have hit := itemsT_pixel (has_below hb (has_new rfl))
    generalize u6.heap.size = pi at *
    refine name_world (f := fun V => Calls _ _ _ V _) (fun Y hY => ?_)
    obtain ⟨pr, hpr⟩ : ∃ k, u7.heap.size = k := ⟨_, rfl⟩
    have hrY : Has Y pr #[.int .i64 0, .int .i64 0, .int .i64 2000, .int .i64 2000] 40 := by rw [hY, ← hpr]; exact has_new rfl
    have hbY : Below X.heap.size X Y := by rw [hY]; (repeat' (first | (with_reducible exact Below.refl _ _) | (with_reducible assumption) | (with_reducible refine below_from_drew ?_) | (with_reducible refine Below.alloc ?_ ?_ _) | (with_reducible refine Below.drew ?_) | (with_reducible refine below_drewN ?_ _) | (with_reducible refine Below.setCell ?_ ?_ _) | (with_reducible refine below_via ?_ (by assumption) ?_) | (with_reducible refine below_ov ?_ ?_ _ _) | go_size))
    have hit2 := hit.below ((Below.refl _ u7).alloc (Nat.le_refl _) (.cells #[.int .i64 0, .int .i64 0, .int .i64 2000, .int .i64 2000] 40))
    rw [← hY] at hit2
    rw [hpr]
    have HBY := Lib.hid (HBX.out.trans (hbY.mono hzX)); have HIY := Lib.hid hit2
    clear hY hit hit2 hbY hb hB hz hpr HBX
    refine (of_one pr 0 0 2000 2000 _ Y hrY).mono ?_
    rintro e Z ⟨al, ca, rfl, hba, hb⟩
    have CP := Lib.hid (paint8_nil (some ⟨pi, 0, none⟩) al 1 1 ca (pixI x y) (oneQ (0, 0, 2000, 2000)) [(0, 0, 2000, 2000)] Z rfl (by omega) (HIY.out.below hb) (oneQ_ok _) hba rn_rects (by simp))
    have HBZ := Lib.hid (HBY.out.trans (hb.mono HBY.out.size)); have HIZ := Lib.hid (HIY.out.below hb)
    clear hba hb HBY HIY hrY hzX
    obtain ⟨len, hlen⟩ : ∃ n, (oneQ (0, 0, 2000, 2000)).length = n := ⟨_, rfl⟩
    rw [hlen] at CP ⊢
    clear hlen
    go_wp2_with ((go_at_call 43); (with_reducible refine CP.out.mono ?_); rintro e U ⟨rfl, hb⟩)
    have HBU := Lib.hid (HBZ.out.trans (hb.mono HBZ.out.size)); have HIU := Lib.hid (HIZ.out.below hb)
    have hzU : w.heap.size ≤ U.heap.size := HBU.out.size
    clear hb HBZ HIZ CP
    go_wp2_with (go_at_call 22; (with_reducible refine (rn_9 _).mono ?_); rintro e u8 ⟨rfl, hb⟩; have hz := hb.size; refine (fun hB => ?_ : Below U.heap.size U u8 → _) ?_; rotate_left; (focus ((repeat' (first | (with_reducible exact Below.refl _ _) | (with_reducible assumption) | (with_reducible refine below_from_drew ?_) | (with_reducible refine Below.alloc ?_ ?_ _) | (with_reducible refine Below.drew ?_) | (with_reducible refine below_drewN ?_ _) | (with_reducible refine Below.setCell ?_ ?_ _) | (with_reducible refine below_via ?_ (by assumption) ?_) | (with_reducible refine below_ov ?_ ?_ _ _) | go_size)); done)); (try simp only [World.size_alloc, World.size_setCell, World.size_drew, ov_size] at hz))
    refine name_world (f := fun V => Calls _ _ _ V _) (fun Y2 hY => ?_)
    obtain ⟨p2, hp2⟩ : ∃ k, u8.heap.size = k := ⟨_, rfl⟩
    have hrY : Has Y2 p2 #[.int .i64 0, .int .i64 0, .int .i64 9, .int .i64 9] 40 := by rw [hY, ← hp2]; exact has_new rfl
    have hbY : Below U.heap.size U Y2 := by rw [hY]; (repeat' (first | (with_reducible exact Below.refl _ _) | (with_reducible assumption) | (with_reducible refine below_from_drew ?_) | (with_reducible refine Below.alloc ?_ ?_ _) | (with_reducible refine Below.drew ?_) | (with_reducible refine below_drewN ?_ _) | (with_reducible refine Below.setCell ?_ ?_ _) | (with_reducible refine below_via ?_ (by assumption) ?_) | (with_reducible refine below_ov ?_ ?_ _ _) | go_size))
    rw [hp2]
    have HBY := Lib.hid (HBU.out.trans (hbY.mono hzU)); have HIY := Lib.hid (HIU.out.below hbY)
    clear hY hbY hb hB hz hp2 HBU HIU
    refine (of_one p2 0 0 9 9 _ Y2 hrY).mono ?_
    rintro e Z2 ⟨al2, ca2, rfl, hba, hb⟩
    have CP := Lib.hid (paint8_nil (some ⟨pi, 0, none⟩) al2 1 1 ca2 (pixI x y) (oneQ (0, 0, 9, 9)) [(0, 0, 9, 9)] Z2 rfl (by omega) (HIY.out.below hb) (oneQ_ok _) hba rn_rects9 (by simp))
    have HBZ := Lib.hid (HBY.out.trans (hb.mono HBY.out.size))
    clear hba hb HBY HIY hrY hzU
    obtain ⟨len2, hlen⟩ : ∃ n, (oneQ (0, 0, 9, 9)).length = n := ⟨_, rfl⟩
    rw [hlen] at CP ⊢
    clear hlen
    go_wp2_with ((go_at_call 43); (with_reducible refine CP.out.mono ?_); rintro e V ⟨rfl, hb⟩)
    have HBV := Lib.hid (HBZ.out.trans (hb.mono HBZ.out.size))
    have hzV : w.heap.size ≤ V.heap.size := HBV.out.size
    clear hb HBZ CP
    go_wp2_with (first | (go_at_call 22; (with_reducible refine (rn_9 _).mono ?_); rintro e x1 ⟨rfl, hb⟩; have hz := hb.size; refine (fun hB => ?_ : Below V.heap.size V x1 → _) ?_; rotate_left; (focus ((repeat' (first | (with_reducible exact Below.refl _ _) | (with_reducible assumption) | (with_reducible refine below_from_drew ?_) | (with_reducible refine Below.alloc ?_ ?_ _) | (with_reducible refine Below.drew ?_) | (with_reducible refine below_drewN ?_ _) | (with_reducible refine Below.setCell ?_ ?_ _) | (with_reducible refine below_via ?_ (by assumption) ?_) | (with_reducible refine below_ov ?_ ?_ _ _) | go_size)); done)); (try simp only [World.size_alloc, World.size_setCell, World.size_drew, ov_size] at hz)) | (go_at_call 40; (with_reducible refine (move8_nil _ _ _ _ _ _ _).mono ?_); rintro e x2 ⟨rfl, hb⟩; have hz := hb.size; refine (fun hB => ?_ : Below V.heap.size V x2 → _) ?_; rotate_left; (focus ((repeat' (first | (with_reducible exact Below.refl _ _) | (with_reducible assumption) | (with_reducible refine below_from_drew ?_) | (with_reducible refine Below.alloc ?_ ?_ _) | (with_reducible refine Below.drew ?_) | (with_reducible refine below_drewN ?_ _) | (with_reducible refine Below.setCell ?_ ?_ _) | (with_reducible refine below_via ?_ (by assumption) ?_) | (with_reducible refine below_ov ?_ ?_ _ _) | go_size)); done)); (try simp only [World.size_alloc, World.size_setCell, World.size_drew, ov_size] at hz)) | (go_at_call 47; (with_reducible refine (same8_nils _).mono ?_); rintro e x3 ⟨rfl, hb⟩; have hz := hb.size; refine (fun hB => ?_ : Below V.heap.size V x3 → _) ?_; rotate_left; (focus ((repeat' (first | (with_reducible exact Below.refl _ _) | (with_reducible assumption) | (with_reducible refine below_from_drew ?_) | (with_reducible refine Below.alloc ?_ ?_ _) | (with_reducible refine Below.drew ?_) | (with_reducible refine below_drewN ?_ _) | (with_reducible refine Below.setCell ?_ ?_ _) | (with_reducible refine below_via ?_ (by assumption) ?_) | (with_reducible refine below_ov ?_ ?_ _ _) | go_size)); done)); (try simp only [World.size_alloc, World.size_setCell, World.size_drew, ov_size] at hz)) | (go_at_call 48; (with_reducible refine (at_nil' _ _ _).mono ?_); rintro e x4 ⟨rfl, hb⟩; have hz := hb.size; refine (fun hB => ?_ : Below V.heap.size V x4 → _) ?_; rotate_left; (focus ((repeat' (first | (with_reducible exact Below.refl _ _) | (with_reducible assumption) | (with_reducible refine below_from_drew ?_) | (with_reducible refine Below.alloc ?_ ?_ _) | (with_reducible refine Below.drew ?_) | (with_reducible refine below_drewN ?_ _) | (with_reducible refine Below.setCell ?_ ?_ _) | (with_reducible refine below_via ?_ (by assumption) ?_) | (with_reducible refine below_ov ?_ ?_ _ _) | go_size)); done)); (try simp only [World.size_alloc, World.size_setCell, World.size_drew, ov_size] at hz)) | (go_at_call 39; (with_reducible refine (copy8_nil _).mono ?_); rintro e x5 ⟨rfl, hb⟩; have hz := hb.size; refine (fun hB => ?_ : Below V.heap.size V x5 → _) ?_; rotate_left; (focus ((repeat' (first | (with_reducible exact Below.refl _ _) | (with_reducible assumption) | (with_reducible refine below_from_drew ?_) | (with_reducible refine Below.alloc ?_ ?_ _) | (with_reducible refine Below.drew ?_) | (with_reducible refine below_drewN ?_ _) | (with_reducible refine Below.setCell ?_ ?_ _) | (with_reducible refine below_via ?_ (by assumption) ?_) | (with_reducible refine below_ov ?_ ?_ _ _) | go_size)); done)); (try simp only [World.size_alloc, World.size_setCell, World.size_drew, ov_size] at hz)))
    go_ret
    exact ⟨rfl, HBV.out.trans (hB.mono hzV)⟩
end Go.Proofs.Ytkpamofamcndnaa
