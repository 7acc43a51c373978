/- The law BlockStacks, walked. -/
import Derived.Test.YtbjmncgfbdkidaaBlockV
import Derived.Test.YtbjmncgfbdkidaaBlockT
namespace Go.Proofs.Ytbjmncgfbdkidaa
open Go.RowKit
set_option linter.unusedSimpArgs false
set_option linter.unusedVariables false
-- below_from_drew
attribute [local go_sem] ov_cell_same ov_cell_other ov_frozen_same ov_frozen_other ov_size ov_setCell_same ov_setCell_other cell_alloc_old frozen_alloc_old setCell_alloc_old old_alloc old_ov old_drew old_drewN old_setCell
attribute [local go_sem ↓] run_max2 run_min2

theorem eql_margin_self (a b : Int) (w : World) : (binOp .eql 49 (.agg #[.int .i64 a, .int .i64 b]) (.agg #[.int .i64 a, .int .i64 b])).run Try.prog w = .ok (.bool true) w := by
  simp [go_sem]
attribute [local go_sem ↓] eql_margin_self
theorem rstack_z (a : Option Addr) (cap n : Nat) (ks : List KidZ) (ot ob : Bool) (w : World) (hl : ks.length = n) (hn : n ≤ 30) (hg : ∀ k ∈ ks, GoodK k) (hk : RKidsIn w a ks) :
    Calls Try.prog 26 #[.slice a n cap, .bool ot, .bool ob] w fun e w' => ∃ z k a c, Ans (stackZ ks ot ob) z k ∧ e = .returned (.tuple #[(.agg #[.slice a z.ys.length c, .int .i64 (z.h), .int .i64 (z.bu), .int .i64 (z.bd), .int .i64 (z.au), .int .i64 (z.ad), .bool (z.t)]), .int .i64 k]) ∧ Below w.heap.size w w' ∧ IntsIn w' a z.ys := by
  subst hl
  refine (rstack_any a cap ks ot ob w hn hg hk).mono ?_
  rintro e w' ⟨hb, ⟨z, a, c, hz, rfl, hi⟩ | ⟨hz, rfl⟩⟩
  · rw [stack_same hg] at hz
    exact ⟨z, 0, a, c, .inl ⟨hz, rfl⟩, rfl, hb, hi⟩
  · rw [stack_same hg] at hz
    exact ⟨zO, 2, none, 0, .inr ⟨hz, rfl, rfl⟩, rfl, hb, fun h => by simp [zO] at h⟩
theorem LKidsIn.below {w w1 : World} {a : Option Addr} {xs : List KidZ} (h : LKidsIn w a xs) (hb : Below w.heap.size w w1) : LKidsIn w1 a xs := ⟨h.1, fun h0 => by
  obtain ⟨b, off, e, hl, hc⟩ := h.2 h0
  refine ⟨b, off, e, Nat.lt_of_lt_of_le hl hb.size, fun i hi => ?_⟩
  have q := hc i hi
  exact ⟨(hb.cell (p := ⟨b, _, none⟩) hl).trans q.1, (hb.cell (p := ⟨b, _, none⟩) hl).trans q.2.1, (hb.cell (p := ⟨b, _, none⟩) hl).trans q.2.2.1, (hb.cell (p := ⟨b, _, none⟩) hl).trans q.2.2.2.1, (hb.cell (p := ⟨b, _, none⟩) hl).trans q.2.2.2.2.1, (hb.cell (p := ⟨b, _, none⟩) hl).trans q.2.2.2.2.2⟩⟩
theorem YsIn.below {w w1 : World} {a : Option Addr} {zs : List Int} (h : YsIn w a zs) (hb : Below w.heap.size w w1) : YsIn w1 a zs := fun h0 => by
  obtain ⟨g, e, hl, hc⟩ := h h0
  exact ⟨g, e, Nat.lt_of_lt_of_le hl hb.size, fun i hi => (hb.cell (p := ⟨g, _, none⟩) hl).trans (hc i hi)⟩
set_option maxRecDepth 100000 in
set_option maxHeartbeats 4000000 in
theorem stacks_any (a : Option Addr) (cap : Nat) (xs : List KidZ) (ot ob : Bool) (w : World) (hx : LKidsIn w a xs) : Calls Try.prog 4 #[.slice a xs.length cap, .bool ot, .bool ob] w fun e w' => e = .returned (.bool true) ∧ Below w.heap.size w w' := by
  have HX := Lib.hid hx; clear hx
  have hka := fun w h => kids_any a cap xs w h
  have hkl : ((xs.take 20).map cutK).length ≤ 20 := by simp; omega
  have hgd : ∀ k ∈ (xs.take 20).map cutK, GoodK k := fun k hk => by
    obtain ⟨x, _, rfl⟩ := List.mem_map.1 hk
    exact cut_good x
  generalize (xs.take 20).map cutK = ks at *
  have HKA := Lib.hid hka; have HGD := Lib.hid hgd; clear hka hgd
  generalize hkn : ks.length = k at *
  have HKN := Lib.hid hkn; clear hkn
  go_enter Try.func4, Try.ntmps4
  go_wp2_with fail
  refine (speaks17_any _).mono ?_
  rintro e ua ⟨rfl, hba⟩
  have hsa := hba.size
  simp only [World.size_alloc] at hsa
  have HBA := Lib.hid (show Below w.heap.size w ua by have q := hba; (repeat' (first | (with_reducible exact Below.refl _ _) | (with_reducible assumption) | (with_reducible refine below_from_drew ?_) | (with_reducible refine Below.alloc ?_ ?_ _) | (with_reducible refine Below.drew ?_) | (with_reducible refine below_drewN ?_ _) | (with_reducible refine Below.setCell ?_ ?_ _) | (with_reducible refine below_via ?_ (by assumption) ?_) | (with_reducible refine below_ov ?_ ?_ _ _) | go_size)))
  have T0 := Lib.hid (show Has ua w.heap.size #[.bool ot] 4 from has_below hba (by (repeat' (first | (with_reducible refine has_drew ?_) | (with_reducible refine has_drewN ?_) | (with_reducible refine has_new ?_; (first | (with_reducible rfl) | omega | (simp; done) | (simp; omega))) | (with_reducible refine has_ov_same ?_; (first | (with_reducible rfl) | omega | (simp; done) | (simp; omega))) | (with_reducible refine has_alloc ?_) | (with_reducible refine has_ov_other ?_ ?_; (focus (first | (with_reducible rfl) | omega | (simp; done) | (simp; omega)))) | (with_reducible assumption)))))
  have T1 := Lib.hid (show Has ua (w.heap.size + 1) #[.bool ob] 4 from has_below hba (by (repeat' (first | (with_reducible refine has_drew ?_) | (with_reducible refine has_drewN ?_) | (with_reducible refine has_new ?_; (first | (with_reducible rfl) | omega | (simp; done) | (simp; omega))) | (with_reducible refine has_ov_same ?_; (first | (with_reducible rfl) | omega | (simp; done) | (simp; omega))) | (with_reducible refine has_alloc ?_) | (with_reducible refine has_ov_other ?_ ?_; (focus (first | (with_reducible rfl) | omega | (simp; done) | (simp; omega)))) | (with_reducible assumption)))))
  clear hba
  go_wp2_with fail
  refine (HKA.out _ (HX.out.below HBA.out)).mono ?_
  rintro e uk ⟨al, ca, bl, cb, rfl, hkc, hown, hrow, hbk⟩
  have hsk := hbk.size
  have HBK := Lib.hid (below_via HBA.out hbk HBA.out.size)
  have T2 := Lib.hid (has_below hbk T0.out); have T3 := Lib.hid (has_below hbk T1.out)
  have HOW := Lib.hid hown; have HRO := Lib.hid hrow
  clear hown hrow hbk T0 T1 HBA HKA
  go_wp2_with fail
  refine (stacks_try uk.heap.size w.heap.size (w.heap.size + 1) (uk.heap.size + 1) al ca k ks ot ob _ HKN.out (by omega) hkc (kids_row (((HOW.out.alloc _).alloc _).alloc _) HKN.out.symm) (has_alloc (has_new rfl)) (has_alloc (has_alloc T2.out)) (has_alloc (has_alloc T3.out)) (by (repeat' (first | (with_reducible refine has_drew ?_) | (with_reducible refine has_drewN ?_) | (with_reducible refine has_new ?_; (first | (with_reducible rfl) | omega | (simp; done) | (simp; omega))) | (with_reducible refine has_ov_same ?_; (first | (with_reducible rfl) | omega | (simp; done) | (simp; omega))) | (with_reducible refine has_alloc ?_) | (with_reducible refine has_ov_other ?_ ?_; (focus (first | (with_reducible rfl) | omega | (simp; done) | (simp; omega)))) | (with_reducible assumption))))).mono ?_
  rintro e w1 ⟨z, kk, a1, c1, u1, hans, rfl, hw1, hb1, hys, hyl⟩
  have h1s := hb1.size
  simp only [World.size_alloc] at h1s
  have hX0 := has_below hb1 (has_alloc (has_alloc T2.out)); have hX1 := has_below hb1 (has_alloc (has_alloc T3.out))
  have hXR := row_below hb1 ((HRO.out.alloc _).alloc _)
  have hXB : Below w.heap.size w u1 := below_via (by have q := HBK.out; (repeat' (first | (with_reducible exact Below.refl _ _) | (with_reducible assumption) | (with_reducible refine below_from_drew ?_) | (with_reducible refine Below.alloc ?_ ?_ _) | (with_reducible refine Below.drew ?_) | (with_reducible refine below_drewN ?_ _) | (with_reducible refine Below.setCell ?_ ?_ _) | (with_reducible refine below_via ?_ (by assumption) ?_) | (with_reducible refine below_ov ?_ ?_ _ _) | go_size))) hb1 (by simp only [World.size_alloc]; have := HBK.out.size; omega)
  have Y0 := (has_ov_other (b' := uk.heap.size + 1) (by omega) hX0).via hw1
  have Y1 := (has_ov_other (b' := uk.heap.size + 1) (by omega) hX1).via hw1
  have Y2 := (has_ov_same (u := u1) (b := uk.heap.size + 1) (by omega)).via hw1
  have hYB : Below w.heap.size w w1 := by rw [hw1]; exact below_ov hXB (by have := HBK.out.size; omega) _ _
  have hYR : w1.ownsRow ua.heap.size 147 6 (.slice bl k cb) k (cellsK ks) := by
    rw [hw1]; exact row_in_ne hXR (row_ne_new HRO.out (by omega))
  have HYR := Lib.hid hYR; have HYB := Lib.hid hYB; have HY0 := Lib.hid Y0; have HY1 := Lib.hid Y1; have HY2 := Lib.hid Y2; have HANS := Lib.hid hans; have HYS := Lib.hid hys
  have e0 := Y0.cells; have e1 := Y1.cells
  have l0 := Y0.lt; have l1 := Y1.lt
  have lY : uk.heap.size + 1 < w1.heap.size := Y2.lt
  clear hX0 hX1 hXR hXB Y0 Y1 Y2 hYB hYR hans hys hb1 hw1 T2 T3 HOW HRO
  go_wp2_with fail
  refine (rstack_z bl cb k ks ot ob _ HKN.out (by omega) HGD.out (rkids_row HYR.out HKN.out.symm)).mono ?_
  rintro e w2 ⟨z2, k2, a2, c2, hans2, rfl, hb2, hi2⟩
  obtain ⟨rfl, rfl⟩ := HANS.out.one hans2
  have h2s := hb2.size
  have HZ2 := Lib.hid (has_below hb2 HY2.out)
  have HZB := Lib.hid (below_via HYB.out hb2 HYB.out.size)
  have HZS := Lib.hid (HYS.out.below hb2)
  have HI2 := Lib.hid hi2
  clear hans2 hb2 hi2 e0 e1 l0 l1 HY0 HY1 HY2 HYB HYR HYS HANS
  obtain ⟨ys, h, bu, bd, au, ad, t⟩ := z
  dsimp only at HZ2 HZS HI2 hyl ⊢
  generalize hm : ys.length = m at *
  have HM := Lib.hid hm; clear hm
  go_upto_region 7 with fail
  refine rebase fun X hX => ?_
  have hX1 := (has_alloc (o := .cells #[.slice a2 m c2, .int .i64 h, .int .i64 bu, .int .i64 bd, .int .i64 au, .int .i64 ad, .bool t] 56) HZ2.out).via hX
  have hX2 : Has X w2.heap.size #[.slice a2 m c2, .int .i64 h, .int .i64 bu, .int .i64 bd, .int .i64 au, .int .i64 ad, .bool t] 56 := (has_new rfl).via hX
  have hXB : Below w.heap.size w X := by rw [hX]; exact HZB.out.alloc HZB.out.size _
  have hXY : YsIn X a1 ys := by rw [hX]; exact HZS.out.below ((Below.refl _ _).alloc (Nat.le_refl _) _)
  have hXI : IntsIn X a2 ys := by rw [hX]; exact HI2.out.below ((Below.refl _ _).alloc (Nat.le_refl _) _)
  clear hX HZ2 HZB HZS HI2 HBK lY h2s h1s hsk
  generalize uk.heap.size + 1 = n1 at *
  generalize w2.heap.size = n2 at *
  have X1 := Lib.hid hX1; have X2 := Lib.hid hX2; have XB := Lib.hid hXB; have XY := Lib.hid hXY; have XI := Lib.hid hXI
  have e1 := hX1.cells; have e2 := hX2.cells
  have l1 := hX1.lt; have l2 := hX2.lt
  have q1 : (kk == kk) = true := by simp
  have q2 : ((m : Int) == m) = true := by simp
  clear hX1 hX2 hXB hXY hXI
  go_wp2_with fail
  go_loopw [13] (fun i wr => ∃ (j : Nat), j ≤ m ∧ i = .int .i64 (j : Int) ∧ Below X.heap.size X wr) (fun i _ => m - (intOf i).toNat)
  case atStart => exact ⟨0, Nat.zero_le _, rfl, Below.refl _ _⟩
  case round =>
    obtain ⟨j, hj, rfl, hbv⟩ := hrel
    clear e1 e2
    have e3 := (has_below hbv X1.out).cells; have e4 := (has_below hbv X2.out).cells
    have l3 := (has_below hbv X1.out).lt; have l4 := (has_below hbv X2.out).lt
    have HBV := Lib.hid hbv
    rcases Nat.lt_or_ge j m with f1 | f1
    · obtain ⟨gy, rfl, hgy, hys⟩ := XY.out (by have := HM.out; omega)
      obtain ⟨gz, off, rfl, hgz, hzs⟩ := XI.out (by have := HM.out; omega)
      have l5 : gy < wr.heap.size := by have := hbv.size; omega
      have l6 : gz < wr.heap.size := by have := hbv.size; omega
      have p0 : wr.cell? ⟨gy, j, none⟩ = _ := (hbv.cell (p := ⟨gy, j, none⟩) hgy).trans (hys j (by have := HM.out; omega))
      have p1 : wr.cell? ⟨gz, off + j, none⟩ = _ := (hbv.cell (p := ⟨gz, off + j, none⟩) hgz).trans (hzs j (by have := HM.out; omega))
      have d4 : (j : Int) < m := by omega
      clear hys hzs hbv
      generalize ys.getD j 0 = Y at *
      have q3 : (Y == Y) = true := by simp
      go_wp2_with fail
      refine region_ord [(0, 0), (1, 0), (2, 0), (3, 0), (4, 0), (5, 0), (6, 0), (7, 0), (8, 0), (9, 0), (10, 0)] (by kernel_rfl) (by kernel_rfl) (fun _ _ d _ _ h => by cases d <;> exact h) (fun hS => ?_)
      (refine wpG_read (v := ?_) rfl (.inl ⟨by rfl, fun wx hbx => ?_⟩) ?_; rotate_left; (focus (obtain ⟨cx0, fx0, zx0⟩ := bk hbx (n1) (by first | omega | (simp; done) | (simp; omega)); obtain ⟨cx1, fx1, zx1⟩ := bk hbx (n2) (by first | omega | (simp; done) | (simp; omega)); obtain ⟨cx2, fx2, zx2⟩ := bk hbx (gy) (by first | omega | (simp; done) | (simp; omega)); obtain ⟨cx3, fx3, zx3⟩ := bk hbx (gz) (by first | omega | (simp; done) | (simp; omega)); go_simp; (try go_bits); (try with_reducible rfl))); try simp only [Act.put, List.setIfInBounds_toArray, List.set_cons_zero, List.set_cons_succ])
      (refine wpG_read (v := ?_) rfl (.inl ⟨by rfl, fun wx hbx => ?_⟩) ?_; rotate_left; (focus (obtain ⟨cx0, fx0, zx0⟩ := bk hbx (n1) (by first | omega | (simp; done) | (simp; omega)); obtain ⟨cx1, fx1, zx1⟩ := bk hbx (n2) (by first | omega | (simp; done) | (simp; omega)); obtain ⟨cx2, fx2, zx2⟩ := bk hbx (gy) (by first | omega | (simp; done) | (simp; omega)); obtain ⟨cx3, fx3, zx3⟩ := bk hbx (gz) (by first | omega | (simp; done) | (simp; omega)); go_simp; (try go_bits); (try with_reducible rfl))); try simp only [Act.put, List.setIfInBounds_toArray, List.set_cons_zero, List.set_cons_succ])
      (refine wpG_read (v := ?_) rfl (.inl ⟨by rfl, fun wx hbx => ?_⟩) ?_; rotate_left; (focus (obtain ⟨cx0, fx0, zx0⟩ := bk hbx (n1) (by first | omega | (simp; done) | (simp; omega)); obtain ⟨cx1, fx1, zx1⟩ := bk hbx (n2) (by first | omega | (simp; done) | (simp; omega)); obtain ⟨cx2, fx2, zx2⟩ := bk hbx (gy) (by first | omega | (simp; done) | (simp; omega)); obtain ⟨cx3, fx3, zx3⟩ := bk hbx (gz) (by first | omega | (simp; done) | (simp; omega)); go_simp; (try go_bits); (try with_reducible rfl))); try simp only [Act.put, List.setIfInBounds_toArray, List.set_cons_zero, List.set_cons_succ])
      (refine wpG_read (v := ?_) rfl (.inl ⟨by rfl, fun wx hbx => ?_⟩) ?_; rotate_left; (focus (obtain ⟨cx0, fx0, zx0⟩ := bk hbx (n1) (by first | omega | (simp; done) | (simp; omega)); obtain ⟨cx1, fx1, zx1⟩ := bk hbx (n2) (by first | omega | (simp; done) | (simp; omega)); obtain ⟨cx2, fx2, zx2⟩ := bk hbx (gy) (by first | omega | (simp; done) | (simp; omega)); obtain ⟨cx3, fx3, zx3⟩ := bk hbx (gz) (by first | omega | (simp; done) | (simp; omega)); go_simp; (try go_bits); (try with_reducible rfl))); try simp only [Act.put, List.setIfInBounds_toArray, List.set_cons_zero, List.set_cons_succ])
      (refine wpG_read (v := ?_) rfl (.inl ⟨by rfl, fun wx hbx => ?_⟩) ?_; rotate_left; (focus (obtain ⟨cx0, fx0, zx0⟩ := bk hbx (n1) (by first | omega | (simp; done) | (simp; omega)); obtain ⟨cx1, fx1, zx1⟩ := bk hbx (n2) (by first | omega | (simp; done) | (simp; omega)); obtain ⟨cx2, fx2, zx2⟩ := bk hbx (gy) (by first | omega | (simp; done) | (simp; omega)); obtain ⟨cx3, fx3, zx3⟩ := bk hbx (gz) (by first | omega | (simp; done) | (simp; omega)); go_simp; (try go_bits); (try with_reducible rfl))); try simp only [Act.put, List.setIfInBounds_toArray, List.set_cons_zero, List.set_cons_succ])
      (refine wpG_read (v := ?_) rfl (.inl ⟨by rfl, fun wx hbx => ?_⟩) ?_; rotate_left; (focus (obtain ⟨cx0, fx0, zx0⟩ := bk hbx (n1) (by first | omega | (simp; done) | (simp; omega)); obtain ⟨cx1, fx1, zx1⟩ := bk hbx (n2) (by first | omega | (simp; done) | (simp; omega)); obtain ⟨cx2, fx2, zx2⟩ := bk hbx (gy) (by first | omega | (simp; done) | (simp; omega)); obtain ⟨cx3, fx3, zx3⟩ := bk hbx (gz) (by first | omega | (simp; done) | (simp; omega)); go_simp; (try go_bits); (try with_reducible rfl))); try simp only [Act.put, List.setIfInBounds_toArray, List.set_cons_zero, List.set_cons_succ])
      (refine wpG_read (v := ?_) rfl (.inl ⟨by rfl, fun wx hbx => ?_⟩) ?_; rotate_left; (focus (obtain ⟨cx0, fx0, zx0⟩ := bk hbx (n1) (by first | omega | (simp; done) | (simp; omega)); obtain ⟨cx1, fx1, zx1⟩ := bk hbx (n2) (by first | omega | (simp; done) | (simp; omega)); obtain ⟨cx2, fx2, zx2⟩ := bk hbx (gy) (by first | omega | (simp; done) | (simp; omega)); obtain ⟨cx3, fx3, zx3⟩ := bk hbx (gz) (by first | omega | (simp; done) | (simp; omega)); go_simp; (try go_bits); (try with_reducible rfl))); try simp only [Act.put, List.setIfInBounds_toArray, List.set_cons_zero, List.set_cons_succ])
      (refine wpG_read (v := ?_) rfl (.inl ⟨by rfl, fun wx hbx => ?_⟩) ?_; rotate_left; (focus (obtain ⟨cx0, fx0, zx0⟩ := bk hbx (n1) (by first | omega | (simp; done) | (simp; omega)); obtain ⟨cx1, fx1, zx1⟩ := bk hbx (n2) (by first | omega | (simp; done) | (simp; omega)); obtain ⟨cx2, fx2, zx2⟩ := bk hbx (gy) (by first | omega | (simp; done) | (simp; omega)); obtain ⟨cx3, fx3, zx3⟩ := bk hbx (gz) (by first | omega | (simp; done) | (simp; omega)); go_simp; (try go_bits); (try with_reducible rfl))); try simp only [Act.put, List.setIfInBounds_toArray, List.set_cons_zero, List.set_cons_succ])
      (refine wpG_read (v := ?_) rfl (.inl ⟨by rfl, fun wx hbx => ?_⟩) ?_; rotate_left; (focus (obtain ⟨cx0, fx0, zx0⟩ := bk hbx (n1) (by first | omega | (simp; done) | (simp; omega)); obtain ⟨cx1, fx1, zx1⟩ := bk hbx (n2) (by first | omega | (simp; done) | (simp; omega)); obtain ⟨cx2, fx2, zx2⟩ := bk hbx (gy) (by first | omega | (simp; done) | (simp; omega)); obtain ⟨cx3, fx3, zx3⟩ := bk hbx (gz) (by first | omega | (simp; done) | (simp; omega)); go_simp; (try go_bits); (try with_reducible rfl))); try simp only [Act.put, List.setIfInBounds_toArray, List.set_cons_zero, List.set_cons_succ])
      (refine wpG_read (v := ?_) rfl (.inl ⟨by rfl, fun wx hbx => ?_⟩) ?_; rotate_left; (focus (obtain ⟨cx0, fx0, zx0⟩ := bk hbx (n1) (by first | omega | (simp; done) | (simp; omega)); obtain ⟨cx1, fx1, zx1⟩ := bk hbx (n2) (by first | omega | (simp; done) | (simp; omega)); obtain ⟨cx2, fx2, zx2⟩ := bk hbx (gy) (by first | omega | (simp; done) | (simp; omega)); obtain ⟨cx3, fx3, zx3⟩ := bk hbx (gz) (by first | omega | (simp; done) | (simp; omega)); go_simp; (try go_bits); (try with_reducible rfl))); try simp only [Act.put, List.setIfInBounds_toArray, List.set_cons_zero, List.set_cons_succ])
      (refine wpG_read (v := ?_) rfl (.inl ⟨by rfl, fun wx hbx => ?_⟩) ?_; rotate_left; (focus (obtain ⟨cx0, fx0, zx0⟩ := bk hbx (n1) (by first | omega | (simp; done) | (simp; omega)); obtain ⟨cx1, fx1, zx1⟩ := bk hbx (n2) (by first | omega | (simp; done) | (simp; omega)); obtain ⟨cx2, fx2, zx2⟩ := bk hbx (gy) (by first | omega | (simp; done) | (simp; omega)); obtain ⟨cx3, fx3, zx3⟩ := bk hbx (gz) (by first | omega | (simp; done) | (simp; omega)); go_simp; (try go_bits); (try with_reducible rfl))); try simp only [Act.put, List.setIfInBounds_toArray, List.set_cons_zero, List.set_cons_succ])
      refine wpG_nil ?_
      go_wp2_with fail
      go_roundw
      case rel => exact ⟨j + 1, by omega, by go_num, by have q := HBV.out; (repeat' (first | (with_reducible exact Below.refl _ _) | (with_reducible assumption) | (with_reducible refine below_from_drew ?_) | (with_reducible refine Below.alloc ?_ ?_ _) | (with_reducible refine Below.drew ?_) | (with_reducible refine below_drewN ?_ _) | (with_reducible refine Below.setCell ?_ ?_ _) | (with_reducible refine below_via ?_ (by assumption) ?_) | (with_reducible refine below_ov ?_ ?_ _ _) | go_size))⟩
      case measure => simp [intOf]; omega
    · obtain rfl : j = m := by omega
      have d8 : decide ((j : Int) < j) = false := by simp
      clear hbv
      go_wp2_with fail
      go_ret
      exact ⟨by simp, below_via XB.out HBV.out XB.out.size⟩
end Go.Proofs.Ytbjmncgfbdkidaa
