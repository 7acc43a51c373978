/- clapboardlaw28.RasterNew: the walk, of a good size. -/
import Derived.Test.YtkpamofamcndnaaRasU
namespace Go.Proofs.Ytkpamofamcndnaa
open Go.RowKit Go.Shelf
set_option linter.unusedSimpArgs false
set_option linter.unusedVariables false
-- below_from_drew
attribute [local go_sem] ov_cell_same ov_cell_other ov_frozen_same ov_frozen_other ov_size ov_setCell_same ov_setCell_other cell_alloc_old frozen_alloc_old setCell_alloc_old old_alloc old_ov old_drew old_drewN old_setCell
attribute [local go_sem ↓] run_max2 run_min2 eql_rect eq_nil8
def pixF (W H : Nat) (x y : Int) : Nat → Nat → Int := paintF W H (pixI x y) [(0, 0, 2000, 2000)] (fun _ _ => 0)
theorem pix_in {W H : Nat} {x y : Int} (hs : W ≤ 1024 ∧ H ≤ 1024) (hx : 0 ≤ x ∧ x ≤ 255) (hy : 0 ≤ y ∧ y ≤ 255) (h1 : x < W) (h2 : y < H) :
    decide (imgL W H (pixF W H x y) = imgL W H (fun _ _ => 0)) = false ∧ atF W H (pixF W H x y) x y = 7 := by
  have e : pixF W H x y y.toNat x.toNat = 7 := by
    unfold pixF
    rw [pixel_paint hs hx hy (by omega) (by omega), if_pos (by omega)]
  refine ⟨?_, ?_⟩
  · rw [decide_eq_false]
    intro q
    have := imgL_eq.1 q y.toNat x.toNat (by omega) (by omega)
    rw [e] at this
    cases this
  · unfold atF
    rw [if_pos (by omega), e]
theorem pix_out {W H : Nat} {x y : Int} (hs : W ≤ 1024 ∧ H ≤ 1024) (hx : 0 ≤ x ∧ x ≤ 255) (hy : 0 ≤ y ∧ y ≤ 255) (h : (W : Int) ≤ x ∨ (H : Int) ≤ y) :
    decide (imgL W H (pixF W H x y) = imgL W H (fun _ _ => 0)) = true ∧ atF W H (pixF W H x y) x y = 0 := by
  refine ⟨?_, ?_⟩
  · rw [decide_eq_true]
    refine imgL_eq.2 fun i j hi hj => ?_
    unfold pixF
    rw [pixel_paint hs hx hy hi hj, if_neg (by omega)]
  · unfold atF
    rw [if_neg (by omega)]
set_option maxRecDepth 100000 in
set_option maxHeartbeats 8000000 in
theorem rnew_good (W H : Nat) (x y : Int) (w : World) (hx : 0 ≤ x ∧ x ≤ 255) (hy : 0 ≤ y ∧ y ≤ 255) (hs : W ≤ 1024 ∧ H ≤ 1024) :
    Calls Try.prog 7 #[.int .i64 W, .int .i64 H, .agg #[.int .u8 x, .int .u8 y]] w fun e w' => e = .returned (.bool true) ∧ Below w.heap.size w w' := by
  have HPN := Lib.hid (fun u => pixel_new hx hy u)
  have d1 := hx.1; have d2 := hx.2; have d3 := hy.1; have d4 := hy.2
  have w1 : wrap64 (x + 1) = x + 1 := by unfold wrap64; omega
  have w2 : wrap64 (y + 1) = y + 1 := by unfold wrap64; omega
  have g1 : (0 : Int) ≤ W := by omega
  have g2 : (0 : Int) ≤ H := by omega
  have g3 : (W : Int) ≤ 1024 := by omega
  have g4 : (H : Int) ≤ 1024 := by omega
  go_enter Try.func7, Try.ntmps7
  go_wp2_with (go_at_call 36; (with_reducible refine (speaks28_any _).mono ?_); rintro e w1 ⟨rfl, hb⟩; refine Exists.elim (after1 (w := w) (b0 := w.heap.size) (cs0 := ?_) (T0 := ?_) hb ?_ ?_) ?_; rotate_left 2; (focus ((repeat' (first | (with_reducible exact Below.refl _ _) | (with_reducible assumption) | (with_reducible refine below_from_drew ?_) | (with_reducible refine Below.alloc ?_ ?_ _) | (with_reducible refine Below.drew ?_) | (with_reducible refine below_drewN ?_ _) | (with_reducible refine Below.setCell ?_ ?_ _) | (with_reducible refine below_via ?_ (by assumption) ?_) | (with_reducible refine below_ov ?_ ?_ _ _) | go_size)); done)); (focus ((repeat' (first | (with_reducible refine has_drew ?_) | (with_reducible refine has_drewN ?_) | (with_reducible refine has_new ?_; (first | (with_reducible rfl) | omega | (simp; done) | (simp; omega))) | (with_reducible refine has_ov_same ?_; (first | (with_reducible rfl) | omega | (simp; done) | (simp; omega))) | (with_reducible refine has_alloc ?_) | (with_reducible refine has_ov_other ?_ ?_; (focus (first | (with_reducible rfl) | omega | (simp; done) | (simp; omega)))) | (with_reducible assumption) | (with_reducible exact has_below hB (by assumption)))); done)); rintro u1 ⟨rfl, hB, hz, z0, o0⟩; (try simp only [World.size_alloc, World.size_setCell, World.size_drew, ov_size] at hz))
  refine name_world (f := fun V => Calls _ _ _ V _) (fun X0 hX => ?_)
  have hbX : Below w.heap.size w X0 := by rw [hX]; (repeat' (first | (with_reducible exact Below.refl _ _) | (with_reducible assumption) | (with_reducible refine below_from_drew ?_) | (with_reducible refine Below.alloc ?_ ?_ _) | (with_reducible refine Below.drew ?_) | (with_reducible refine below_drewN ?_ _) | (with_reducible refine Below.setCell ?_ ?_ _) | (with_reducible refine below_via ?_ (by assumption) ?_) | (with_reducible refine below_ov ?_ ?_ _ _) | go_size))
  have hbox : Has X0 w.heap.size #[.int .u8 x, .int .u8 y] 96 := by rw [hX]; (repeat' (first | (with_reducible refine has_drew ?_) | (with_reducible refine has_drewN ?_) | (with_reducible refine has_new ?_; (first | (with_reducible rfl) | omega | (simp; done) | (simp; omega))) | (with_reducible refine has_ov_same ?_; (first | (with_reducible rfl) | omega | (simp; done) | (simp; omega))) | (with_reducible refine has_alloc ?_) | (with_reducible refine has_ov_other ?_ ?_; (focus (first | (with_reducible rfl) | omega | (simp; done) | (simp; omega)))) | (with_reducible assumption) | (with_reducible exact has_below hB (by assumption))))
  have hz0 : w.heap.size ≤ X0.heap.size := hbX.size
  obtain ⟨p0, hp0⟩ : ∃ k, w.heap.size = k := ⟨_, rfl⟩
  have HB0 := Lib.hid hbX
  rw [hp0] at hbox ⊢
  clear hX hbX hb hB hz z0 o0
  refine (new8_any W H X0 hs.1 hs.2).mono ?_
  rintro e X1 ⟨L, ⟨rfl, hW, hH, him, hnew⟩, hb⟩
  have hm1 := has_below hb hbox
  have HI1 := Lib.hid him; have HN1 := Lib.hid hnew; have HX1 := Lib.hid hm1; have HB1 := Lib.hid (HB0.out.trans (hb.mono hz0))
  have hz1 : w.heap.size ≤ X1.heap.size := HB1.out.size
  have HSZ := Lib.hid (fun u (hb : Below X1.heap.size X1 u) => size_any L (fun _ _ => 0) u (HI1.out.below hb))
  have HCP := Lib.hid (fun u (hb : Below X1.heap.size X1 u) => copy8_any L (fun _ _ => 0) u (HI1.out.below hb))
  rw [hW, hH] at HSZ
  have HW := Lib.hid hW; have HH := Lib.hid hH
  clear him hnew hm1 hb hbox hz0 HB0 hW hH
  go_wp2_with (first | (go_at_call 46; (with_reducible refine (HSZ.out _ (by (repeat' (first | (with_reducible exact Below.refl _ _) | (with_reducible assumption) | (with_reducible refine below_from_drew ?_) | (with_reducible refine Below.alloc ?_ ?_ _) | (with_reducible refine Below.drew ?_) | (with_reducible refine below_drewN ?_ _) | (with_reducible refine Below.setCell ?_ ?_ _) | (with_reducible refine below_via ?_ (by assumption) ?_) | (with_reducible refine below_ov ?_ ?_ _ _) | go_size)))).mono ?_); rintro e u3 ⟨rfl, hb⟩; have hz := hb.size; refine (fun hB => ?_ : Below X1.heap.size X1 u3 → _) ?_; rotate_left; (focus ((repeat' (first | (with_reducible exact Below.refl _ _) | (with_reducible assumption) | (with_reducible refine below_from_drew ?_) | (with_reducible refine Below.alloc ?_ ?_ _) | (with_reducible refine Below.drew ?_) | (with_reducible refine below_drewN ?_ _) | (with_reducible refine Below.setCell ?_ ?_ _) | (with_reducible refine below_via ?_ (by assumption) ?_) | (with_reducible refine below_ov ?_ ?_ _ _) | go_size)); done)); (try simp only [World.size_alloc, World.size_setCell, World.size_drew, ov_size] at hz)) | ((go_at_call 39); (with_reducible refine (HCP.out _ (by (repeat' (first | (with_reducible exact Below.refl _ _) | (with_reducible assumption) | (with_reducible refine below_from_drew ?_) | (with_reducible refine Below.alloc ?_ ?_ _) | (with_reducible refine Below.drew ?_) | (with_reducible refine below_drewN ?_ _) | (with_reducible refine Below.setCell ?_ ?_ _) | (with_reducible refine below_via ?_ (by assumption) ?_) | (with_reducible refine below_ov ?_ ?_ _ _) | go_size)))).mono ?_); rintro e u4 ⟨M, ⟨rfl, hMW, hMH, him, hnew⟩, hb⟩))
  have hb14 : Below X1.heap.size X1 u4 := hB.trans (hb.mono hB.size)
  have hl4 := HI1.out.below hb14
  have hdis := (ImgL.New.apart (HI1.out.below hB) hnew).1
  have hnw : M.New w.heap.size := ⟨Nat.le_trans (Nat.le_trans hz1 hB.size) hnew.1, fun b q => Nat.le_trans (Nat.le_trans hz1 hB.size) (hnew.2 b q)⟩
  have HS1 := Lib.hid (fun u (hb : Below u4.heap.size u4 u) => same8_any M L _ _ u (him.below hb) (hl4.below hb))
  have he : (decide (M.W = L.W) && decide (imgL M.W M.H (fun _ _ => (0 : Int)) = imgL M.W L.H (fun _ _ => 0))) = true := by rw [hMW, hMH]; simp
  rw [he] at HS1
  have HL4 := Lib.hid hl4; have HM4 := Lib.hid him; have HD := Lib.hid hdis; have HNW := Lib.hid hnw; have HMW := Lib.hid (hMW.trans HW.out); have HMH := Lib.hid (hMH.trans HH.out)
  have HX4 := Lib.hid (has_below hb14 HX1.out); have HB4 := Lib.hid (HB1.out.trans (hb14.mono hz1))
  have hz4 : w.heap.size ≤ u4.heap.size := HB4.out.size
  clear hb14 hl4 hdis hnw he him hnew hMW hMH hb hB hz HSZ HCP HI1 HN1 HX1 HB1 hz1 hp0
  go_wp2_with (first | (go_at_call 47; (with_reducible refine (HS1.out _ (by (repeat' (first | (with_reducible exact Below.refl _ _) | (with_reducible assumption) | (with_reducible refine below_from_drew ?_) | (with_reducible refine Below.alloc ?_ ?_ _) | (with_reducible refine Below.drew ?_) | (with_reducible refine below_drewN ?_ _) | (with_reducible refine Below.setCell ?_ ?_ _) | (with_reducible refine below_via ?_ (by assumption) ?_) | (with_reducible refine below_ov ?_ ?_ _ _) | go_size)))).mono ?_); rintro e u5 ⟨rfl, hb⟩; have hz := hb.size; refine (fun hB => ?_ : Below u4.heap.size u4 u5 → _) ?_; rotate_left; (focus ((repeat' (first | (with_reducible exact Below.refl _ _) | (with_reducible assumption) | (with_reducible refine below_from_drew ?_) | (with_reducible refine Below.alloc ?_ ?_ _) | (with_reducible refine Below.drew ?_) | (with_reducible refine below_drewN ?_ _) | (with_reducible refine Below.setCell ?_ ?_ _) | (with_reducible refine below_via ?_ (by assumption) ?_) | (with_reducible refine below_ov ?_ ?_ _ _) | go_size)); done)); (try simp only [World.size_alloc, World.size_setCell, World.size_drew, ov_size] at hz)) | (go_at_call 47; (with_reducible refine (same8_nil _ _).mono ?_); rintro e u6 ⟨rfl, hb⟩; have hz := hb.size; refine (fun hB => ?_ : Below u4.heap.size u4 u6 → _) ?_; rotate_left; (focus ((repeat' (first | (with_reducible exact Below.refl _ _) | (with_reducible assumption) | (with_reducible refine below_from_drew ?_) | (with_reducible refine Below.alloc ?_ ?_ _) | (with_reducible refine Below.drew ?_) | (with_reducible refine below_drewN ?_ _) | (with_reducible refine Below.setCell ?_ ?_ _) | (with_reducible refine below_via ?_ (by assumption) ?_) | (with_reducible refine below_ov ?_ ?_ _ _) | go_size)); done)); (try simp only [World.size_alloc, World.size_setCell, World.size_drew, ov_size] at hz)))
  have hx6 := has_below hB HX4.out
  have c6 := hx6.cells; have l6 := hx6.lt; have o6 : Old u6 p0 := l6
  refine region_ord [(0, 0), (1, 0), (2, 0), (3, 0), (4, 0), (5, 0), (6, 0), (7, 0)] (by kernel_rfl) (by kernel_rfl) (fun _ _ d _ _ h => by cases d <;> exact h) (fun hS => ?_)
  (refine wpG_read (v := ?_) rfl (.inl ⟨by rfl, fun wx hbx => ?_⟩) ?_; rotate_left; (focus (obtain ⟨cx0, fx0, zx0⟩ := bk hbx (p0) (by first | omega | (simp; done) | (simp; omega)); go_simp; (try go_bits); (try with_reducible rfl))); try simp only [Act.put, List.setIfInBounds_toArray, List.set_cons_zero, List.set_cons_succ])
  (refine wpG_read (v := ?_) rfl (.inl ⟨by rfl, fun wx hbx => ?_⟩) ?_; rotate_left; (focus (obtain ⟨cx0, fx0, zx0⟩ := bk hbx (p0) (by first | omega | (simp; done) | (simp; omega)); go_simp; (try go_bits); (try with_reducible rfl))); try simp only [Act.put, List.setIfInBounds_toArray, List.set_cons_zero, List.set_cons_succ])
  (refine wpG_read (v := ?_) rfl (.inl ⟨by rfl, fun wx hbx => ?_⟩) ?_; rotate_left; (focus (obtain ⟨cx0, fx0, zx0⟩ := bk hbx (p0) (by first | omega | (simp; done) | (simp; omega)); go_simp; (try go_bits); (try with_reducible rfl))); try simp only [Act.put, List.setIfInBounds_toArray, List.set_cons_zero, List.set_cons_succ])
  (refine wpG_read (v := ?_) rfl (.inl ⟨by rfl, fun wx hbx => ?_⟩) ?_; rotate_left; (focus (obtain ⟨cx0, fx0, zx0⟩ := bk hbx (p0) (by first | omega | (simp; done) | (simp; omega)); go_simp; (try go_bits); (try with_reducible rfl))); try simp only [Act.put, List.setIfInBounds_toArray, List.set_cons_zero, List.set_cons_succ])
  (refine wpG_read (v := ?_) rfl (.inl ⟨by rfl, fun wx hbx => ?_⟩) ?_; rotate_left; (focus (obtain ⟨cx0, fx0, zx0⟩ := bk hbx (p0) (by first | omega | (simp; done) | (simp; omega)); go_simp; (try go_bits); (try with_reducible rfl))); try simp only [Act.put, List.setIfInBounds_toArray, List.set_cons_zero, List.set_cons_succ])
  (refine wpG_read (v := ?_) rfl (.inl ⟨by rfl, fun wx hbx => ?_⟩) ?_; rotate_left; (focus (obtain ⟨cx0, fx0, zx0⟩ := bk hbx (p0) (by first | omega | (simp; done) | (simp; omega)); go_simp; (try go_bits); (try with_reducible rfl))); try simp only [Act.put, List.setIfInBounds_toArray, List.set_cons_zero, List.set_cons_succ])
  (refine wpG_read (v := ?_) rfl (.inl ⟨by rfl, fun wx hbx => ?_⟩) ?_; rotate_left; (focus (obtain ⟨cx0, fx0, zx0⟩ := bk hbx (p0) (by first | omega | (simp; done) | (simp; omega)); go_simp; (try go_bits); (try with_reducible rfl))); try simp only [Act.put, List.setIfInBounds_toArray, List.set_cons_zero, List.set_cons_succ])
  (refine wpG_read (v := ?_) rfl (.inl ⟨by rfl, fun wx hbx => ?_⟩) ?_; rotate_left; (focus (obtain ⟨cx0, fx0, zx0⟩ := bk hbx (p0) (by first | omega | (simp; done) | (simp; omega)); go_simp; (try go_bits); (try with_reducible rfl))); try simp only [Act.put, List.setIfInBounds_toArray, List.set_cons_zero, List.set_cons_succ])
  refine wpG_nil ?_
  refine name_world (f := Exit.then _ _ Exit.normal _) (fun X hX => ?_)
  have hBX : Below u4.heap.size u4 X := by rw [hX]; (repeat' (first | (with_reducible exact Below.refl _ _) | (with_reducible assumption) | (with_reducible refine below_from_drew ?_) | (with_reducible refine Below.alloc ?_ ?_ _) | (with_reducible refine Below.drew ?_) | (with_reducible refine below_drewN ?_ _) | (with_reducible refine Below.setCell ?_ ?_ _) | (with_reducible refine below_via ?_ (by assumption) ?_) | (with_reducible refine below_ov ?_ ?_ _ _) | go_size))
  have HLX := Lib.hid (HL4.out.below hBX); have HMX := Lib.hid (HM4.out.below hBX); have HBX := Lib.hid (HB4.out.trans (hBX.mono hz4))
  have hzX : w.heap.size ≤ X.heap.size := HBX.out.size
  clear hX hBX hb hB hz hS hx6 c6 l6 o6 HL4 HM4 HB4 HX4 HS1 hz4
  go_wp2_with (first | (go_at_call 22; (with_reducible refine (HPN.out _).mono ?_); rintro e u7 ⟨rfl, hb⟩; have hz := hb.size; refine (fun hB => ?_ : Below X.heap.size X u7 → _) ?_; rotate_left; (focus ((repeat' (first | (with_reducible exact Below.refl _ _) | (with_reducible assumption) | (with_reducible refine below_from_drew ?_) | (with_reducible refine Below.alloc ?_ ?_ _) | (with_reducible refine Below.drew ?_) | (with_reducible refine below_drewN ?_ _) | (with_reducible refine Below.setCell ?_ ?_ _) | (with_reducible refine below_via ?_ (by assumption) ?_) | (with_reducible refine below_ov ?_ ?_ _ _) | go_size)); done)); (try simp only [World.size_alloc, World.size_setCell, World.size_drew, ov_size] at hz)) | (go_at_call 22; (with_reducible refine (rn_2000 _).mono ?_); rintro e u8 ⟨rfl, hb⟩; have hz := hb.size; refine (fun hB => ?_ : Below X.heap.size X u8 → _) ?_; rotate_left; (focus ((repeat' (first | (with_reducible exact Below.refl _ _) | (with_reducible assumption) | (with_reducible refine below_from_drew ?_) | (with_reducible refine Below.alloc ?_ ?_ _) | (with_reducible refine Below.drew ?_) | (with_reducible refine below_drewN ?_ _) | (with_reducible refine Below.setCell ?_ ?_ _) | (with_reducible refine below_via ?_ (by assumption) ?_) | (with_reducible refine below_ov ?_ ?_ _ _) | go_size)); done)); (try simp only [World.size_alloc, World.size_setCell, World.size_drew, ov_size] at hz)))
  have hit := itemsT_pixel (has_below hb (has_new rfl))
  generalize u7.heap.size = pi at *
  refine name_world (f := fun V => Calls _ _ _ V _) (fun Y hY => ?_)
  obtain ⟨pr, hpr⟩ : ∃ k, u8.heap.size = k := ⟨_, rfl⟩
  have hrY : Has Y pr #[.int .i64 0, .int .i64 0, .int .i64 2000, .int .i64 2000] 40 := by rw [hY, ← hpr]; exact has_new rfl
  have hbY : Below X.heap.size X Y := by rw [hY]; (repeat' (first | (with_reducible exact Below.refl _ _) | (with_reducible assumption) | (with_reducible refine below_from_drew ?_) | (with_reducible refine Below.alloc ?_ ?_ _) | (with_reducible refine Below.drew ?_) | (with_reducible refine below_drewN ?_ _) | (with_reducible refine Below.setCell ?_ ?_ _) | (with_reducible refine below_via ?_ (by assumption) ?_) | (with_reducible refine below_ov ?_ ?_ _ _) | go_size))
  have hit2 := hit.below ((Below.refl _ u8).alloc (Nat.le_refl _) (.cells #[.int .i64 0, .int .i64 0, .int .i64 2000, .int .i64 2000] 40))
  rw [← hY] at hit2
  rw [hpr]
  have HBY := Lib.hid (HBX.out.trans (hbY.mono hzX)); have HIY := Lib.hid hit2; have HLY := Lib.hid (HLX.out.below hbY); have HMY := Lib.hid (HMX.out.below hbY)
  clear hY hit hit2 hbY hb hB hz hpr HBX HLX HMX
  refine (of_one pr 0 0 2000 2000 _ Y hrY).mono ?_
  rintro e Z ⟨al, ca, rfl, hba, hb⟩
  have HIZ := Lib.hid (HIY.out.below hb); have HLZ := Lib.hid (HLY.out.below hb); have HMZ := Lib.hid (HMY.out.below hb)
  have CP := Lib.hid (paint8_any M _ (some ⟨pi, 0, none⟩) al 1 1 ca (pixI x y) (oneQ (0, 0, 2000, 2000)) [(0, 0, 2000, 2000)] Z HMZ.out rfl (by omega) HIZ.out (oneQ_ok _) hba rn_rects (by simp))
  have HBZ := Lib.hid (HBY.out.trans (hb.mono HBY.out.size))
  have hzZ : w.heap.size ≤ Z.heap.size := HBZ.out.size
  clear hba hb HBY HIY hrY hzX HLY HMY
  obtain ⟨len, hlen⟩ : ∃ n, (oneQ (0, 0, 2000, 2000)).length = n := ⟨_, rfl⟩
  rw [hlen] at CP ⊢
  clear hlen
  have hin : ∃ b : Bool, decide (imgL W H (pixF W H x y) = imgL W H (fun _ _ => 0)) = (!b) ∧ atF W H (pixF W H x y) x y = (if b = true then 7 else 0) ∧ ((b = true ∧ x < W ∧ y < H) ∨ (b = false ∧ (W : Int) ≤ x) ∨ (b = false ∧ x < W ∧ (H : Int) ≤ y)) := by
    by_cases c : x < W ∧ y < H
    · obtain ⟨h1, h2⟩ := pix_in hs hx hy c.1 c.2
      exact ⟨true, h1, h2, .inl ⟨rfl, c⟩⟩
    · obtain ⟨h1, h2⟩ := pix_out hs hx hy (by omega)
      exact ⟨false, h1, h2, .inr (by simp only [true_and]; omega)⟩
  obtain ⟨b, hb1, hb2, hin⟩ := hin
  have HB1 := Lib.hid hb1; have HB2 := Lib.hid hb2
  clear hb1 hb2 hx hy
  rcases hin with ⟨rfl, k1, k2⟩ | ⟨rfl, k1⟩ | ⟨rfl, k1, k2⟩
  all_goals
    go_wp2_with ((go_at_call 43); (with_reducible refine CP.out.mono ?_); rintro e U ⟨rfl, him, hbut⟩)
    have HMU := Lib.hid (show ImgAt U M (pixF W H x y) from by rw [HMW.out, HMH.out] at him; exact him)
    have HLU := Lib.hid (HLZ.out.apart HMZ.out hbut HD.out)
    have HIU := Lib.hid (HIZ.out.buts hbut rfl (fun b cs q hh => HMZ.out.S_not hh (by decide) q))
    have HBU := Lib.hid (HBZ.out.trans (below_buts HNW.out hbut hzZ))
    have hzU : w.heap.size ≤ U.heap.size := HBU.out.size
    clear him hbut CP HLZ HMZ HIZ HBZ hzZ
    go_wp2_with (go_at_call 22; (with_reducible refine (rn_9 _).mono ?_); rintro e u8 ⟨rfl, hb⟩; have hz := hb.size; refine (fun hB => ?_ : Below U.heap.size U u8 → _) ?_; rotate_left; (focus ((repeat' (first | (with_reducible exact Below.refl _ _) | (with_reducible assumption) | (with_reducible refine below_from_drew ?_) | (with_reducible refine Below.alloc ?_ ?_ _) | (with_reducible refine Below.drew ?_) | (with_reducible refine below_drewN ?_ _) | (with_reducible refine Below.setCell ?_ ?_ _) | (with_reducible refine below_via ?_ (by assumption) ?_) | (with_reducible refine below_ov ?_ ?_ _ _) | go_size)); done)); (try simp only [World.size_alloc, World.size_setCell, World.size_drew, ov_size] at hz))
    refine name_world (f := fun V => Calls _ _ _ V _) (fun Y2 hY => ?_)
    obtain ⟨p2, hp2⟩ : ∃ k, u8.heap.size = k := ⟨_, rfl⟩
    have hrY : Has Y2 p2 #[.int .i64 0, .int .i64 0, .int .i64 9, .int .i64 9] 40 := by rw [hY, ← hp2]; exact has_new rfl
    have hbY : Below U.heap.size U Y2 := by rw [hY]; (repeat' (first | (with_reducible exact Below.refl _ _) | (with_reducible assumption) | (with_reducible refine below_from_drew ?_) | (with_reducible refine Below.alloc ?_ ?_ _) | (with_reducible refine Below.drew ?_) | (with_reducible refine below_drewN ?_ _) | (with_reducible refine Below.setCell ?_ ?_ _) | (with_reducible refine below_via ?_ (by assumption) ?_) | (with_reducible refine below_ov ?_ ?_ _ _) | go_size))
    rw [hp2]
    have HBY := Lib.hid (HBU.out.trans (hbY.mono hzU)); have HIY := Lib.hid (HIU.out.below hbY); have HLY := Lib.hid (HLU.out.below hbY); have HMY := Lib.hid (HMU.out.below hbY)
    clear hY hbY hb hB hz hp2 HBU HIU HLU HMU
    refine (of_one p2 0 0 9 9 _ Y2 hrY).mono ?_
    rintro e Z2 ⟨al2, ca2, rfl, hba, hb⟩
    have CP := Lib.hid (paint8_nil (some ⟨pi, 0, none⟩) al2 1 1 ca2 (pixI x y) (oneQ (0, 0, 9, 9)) [(0, 0, 9, 9)] Z2 rfl (by omega) (HIY.out.below hb) (oneQ_ok _) hba rn_rects9 (by simp))
    have HBZ := Lib.hid (HBY.out.trans (hb.mono HBY.out.size)); have HLZ := Lib.hid (HLY.out.below hb); have HMZ := Lib.hid (HMY.out.below hb)
    clear hba hb HBY HIY hrY hzU HLY HMY
    obtain ⟨len2, hlen⟩ : ∃ n, (oneQ (0, 0, 9, 9)).length = n := ⟨_, rfl⟩
    rw [hlen] at CP ⊢
    clear hlen
    go_wp2_with ((go_at_call 43); (with_reducible refine CP.out.mono ?_); rintro e V ⟨rfl, hb⟩)
    have HBV := Lib.hid (HBZ.out.trans (hb.mono HBZ.out.size)); have HLV := Lib.hid (HLZ.out.below hb); have HMV := Lib.hid (HMZ.out.below hb)
    have hzV : w.heap.size ≤ V.heap.size := HBV.out.size
    have HS2 := Lib.hid (fun u (hb : Below V.heap.size V u) => same8_any M L _ _ u (HMV.out.below hb) (HLV.out.below hb))
    have HAT := Lib.hid (fun u (hb : Below V.heap.size V u) => at_any M _ x y u (HMV.out.below hb))
    rw [HMW.out, HMH.out, HW.out, HH.out, HB1.out, decide_eq_true (show W = W from rfl)] at HS2
    rw [HMW.out, HMH.out, HB2.out] at HAT
    simp only [Bool.not_true, Bool.not_false, Bool.and_true, Bool.and_false, if_true, Bool.false_eq_true, if_false] at HS2 HAT
    clear hb HBZ CP HLZ HMZ
    go_wp2_with (first | (go_at_call 22; (with_reducible refine (rn_9 _).mono ?_); rintro e x1 ⟨rfl, hb⟩; have hz := hb.size; refine (fun hB => ?_ : Below V.heap.size V x1 → _) ?_; rotate_left; (focus ((repeat' (first | (with_reducible exact Below.refl _ _) | (with_reducible assumption) | (with_reducible refine below_from_drew ?_) | (with_reducible refine Below.alloc ?_ ?_ _) | (with_reducible refine Below.drew ?_) | (with_reducible refine below_drewN ?_ _) | (with_reducible refine Below.setCell ?_ ?_ _) | (with_reducible refine below_via ?_ (by assumption) ?_) | (with_reducible refine below_ov ?_ ?_ _ _) | go_size)); done)); (try simp only [World.size_alloc, World.size_setCell, World.size_drew, ov_size] at hz)) | (go_at_call 40; (with_reducible refine (move8_nil _ _ _ _ _ _ _).mono ?_); rintro e x2 ⟨rfl, hb⟩; have hz := hb.size; refine (fun hB => ?_ : Below V.heap.size V x2 → _) ?_; rotate_left; (focus ((repeat' (first | (with_reducible exact Below.refl _ _) | (with_reducible assumption) | (with_reducible refine below_from_drew ?_) | (with_reducible refine Below.alloc ?_ ?_ _) | (with_reducible refine Below.drew ?_) | (with_reducible refine below_drewN ?_ _) | (with_reducible refine Below.setCell ?_ ?_ _) | (with_reducible refine below_via ?_ (by assumption) ?_) | (with_reducible refine below_ov ?_ ?_ _ _) | go_size)); done)); (try simp only [World.size_alloc, World.size_setCell, World.size_drew, ov_size] at hz)) | (go_at_call 47; (with_reducible refine (same8_nils _).mono ?_); rintro e x3 ⟨rfl, hb⟩; have hz := hb.size; refine (fun hB => ?_ : Below V.heap.size V x3 → _) ?_; rotate_left; (focus ((repeat' (first | (with_reducible exact Below.refl _ _) | (with_reducible assumption) | (with_reducible refine below_from_drew ?_) | (with_reducible refine Below.alloc ?_ ?_ _) | (with_reducible refine Below.drew ?_) | (with_reducible refine below_drewN ?_ _) | (with_reducible refine Below.setCell ?_ ?_ _) | (with_reducible refine below_via ?_ (by assumption) ?_) | (with_reducible refine below_ov ?_ ?_ _ _) | go_size)); done)); (try simp only [World.size_alloc, World.size_setCell, World.size_drew, ov_size] at hz)) | (go_at_call 47; (with_reducible refine (HS2.out _ (by (repeat' (first | (with_reducible exact Below.refl _ _) | (with_reducible assumption) | (with_reducible refine below_from_drew ?_) | (with_reducible refine Below.alloc ?_ ?_ _) | (with_reducible refine Below.drew ?_) | (with_reducible refine below_drewN ?_ _) | (with_reducible refine Below.setCell ?_ ?_ _) | (with_reducible refine below_via ?_ (by assumption) ?_) | (with_reducible refine below_ov ?_ ?_ _ _) | go_size)))).mono ?_); rintro e x6 ⟨rfl, hb⟩; have hz := hb.size; refine (fun hB => ?_ : Below V.heap.size V x6 → _) ?_; rotate_left; (focus ((repeat' (first | (with_reducible exact Below.refl _ _) | (with_reducible assumption) | (with_reducible refine below_from_drew ?_) | (with_reducible refine Below.alloc ?_ ?_ _) | (with_reducible refine Below.drew ?_) | (with_reducible refine below_drewN ?_ _) | (with_reducible refine Below.setCell ?_ ?_ _) | (with_reducible refine below_via ?_ (by assumption) ?_) | (with_reducible refine below_ov ?_ ?_ _ _) | go_size)); done)); (try simp only [World.size_alloc, World.size_setCell, World.size_drew, ov_size] at hz)) | (go_at_call 48; (with_reducible refine (HAT.out _ (by (repeat' (first | (with_reducible exact Below.refl _ _) | (with_reducible assumption) | (with_reducible refine below_from_drew ?_) | (with_reducible refine Below.alloc ?_ ?_ _) | (with_reducible refine Below.drew ?_) | (with_reducible refine below_drewN ?_ _) | (with_reducible refine Below.setCell ?_ ?_ _) | (with_reducible refine below_via ?_ (by assumption) ?_) | (with_reducible refine below_ov ?_ ?_ _ _) | go_size)))).mono ?_); rintro e x7 ⟨rfl, hb⟩; have hz := hb.size; refine (fun hB => ?_ : Below V.heap.size V x7 → _) ?_; rotate_left; (focus ((repeat' (first | (with_reducible exact Below.refl _ _) | (with_reducible assumption) | (with_reducible refine below_from_drew ?_) | (with_reducible refine Below.alloc ?_ ?_ _) | (with_reducible refine Below.drew ?_) | (with_reducible refine below_drewN ?_ _) | (with_reducible refine Below.setCell ?_ ?_ _) | (with_reducible refine below_via ?_ (by assumption) ?_) | (with_reducible refine below_ov ?_ ?_ _ _) | go_size)); done)); (try simp only [World.size_alloc, World.size_setCell, World.size_drew, ov_size] at hz)) | (go_at_call 48; (with_reducible refine (at_nil' _ _ _).mono ?_); rintro e x4 ⟨rfl, hb⟩; have hz := hb.size; refine (fun hB => ?_ : Below V.heap.size V x4 → _) ?_; rotate_left; (focus ((repeat' (first | (with_reducible exact Below.refl _ _) | (with_reducible assumption) | (with_reducible refine below_from_drew ?_) | (with_reducible refine Below.alloc ?_ ?_ _) | (with_reducible refine Below.drew ?_) | (with_reducible refine below_drewN ?_ _) | (with_reducible refine Below.setCell ?_ ?_ _) | (with_reducible refine below_via ?_ (by assumption) ?_) | (with_reducible refine below_ov ?_ ?_ _ _) | go_size)); done)); (try simp only [World.size_alloc, World.size_setCell, World.size_drew, ov_size] at hz)) | (go_at_call 39; (with_reducible refine (copy8_nil _).mono ?_); rintro e x5 ⟨rfl, hb⟩; have hz := hb.size; refine (fun hB => ?_ : Below V.heap.size V x5 → _) ?_; rotate_left; (focus ((repeat' (first | (with_reducible exact Below.refl _ _) | (with_reducible assumption) | (with_reducible refine below_from_drew ?_) | (with_reducible refine Below.alloc ?_ ?_ _) | (with_reducible refine Below.drew ?_) | (with_reducible refine below_drewN ?_ _) | (with_reducible refine Below.setCell ?_ ?_ _) | (with_reducible refine below_via ?_ (by assumption) ?_) | (with_reducible refine below_ov ?_ ?_ _ _) | go_size)); done)); (try simp only [World.size_alloc, World.size_setCell, World.size_drew, ov_size] at hz)))
    go_ret
    exact ⟨(by first | rfl | (show Ending.returned (.bool (!decide (y < (H : Int)))) = _; rw [decide_eq_false (by omega)]; rfl)), HBV.out.trans (hB.mono hzV)⟩
theorem rnew_any (a b x y : Int) (w : World) (hx : 0 ≤ x ∧ x ≤ 255) (hy : 0 ≤ y ∧ y ≤ 255) :
    Calls Try.prog 7 #[.int .i64 a, .int .i64 b, .agg #[.int .u8 x, .int .u8 y]] w fun e w' => e = .returned (.bool true) ∧ Below w.heap.size w w' := by
  by_cases h : a < 0 ∨ b < 0 ∨ 1024 < a ∨ 1024 < b
  · exact rnew_bad a b x y w hx hy h
  · obtain ⟨W, rfl⟩ : ∃ n : Nat, a = n := ⟨a.toNat, by omega⟩
    obtain ⟨H, rfl⟩ : ∃ n : Nat, b = n := ⟨b.toNat, by omega⟩
    exact rnew_good W H x y w hx hy (by omega)
theorem rnew_row (a b x y : Int) (w : World) (hx : (Lit.int .u8 x).wf = true) (hy : (Lit.int .u8 y).wf = true) :
    Calls Try.prog 7 #[.int .i64 a, .int .i64 b, .agg #[.int .u8 x, .int .u8 y]] w fun e w' => e = .returned (.bool true) ∧ Below w.heap.size w w' :=
  rnew_any a b x y w (by simpa [Lit.wf, IntKind.min, IntKind.max, IntKind.bits, IntKind.signed] using hx) (by simpa [Lit.wf, IntKind.min, IntKind.max, IntKind.bits, IntKind.signed] using hy)
end Go.Proofs.Ytkpamofamcndnaa
