/- ref04.Pixels. -/
import Derived.Test.YtjcbphhemmdnjaaBigL
import Derived.Test.YtjcbphhemmdnjaaEdge
namespace Go.Proofs.Ytjcbphhemmdnjaa
open Go.RowKit
set_option linter.unusedSimpArgs false
set_option linter.unusedVariables false
-- below_from_drew
attribute [local go_sem] ov_cell_same ov_cell_other ov_frozen_same ov_frozen_other ov_size ov_setCell_same ov_setCell_other cell_alloc_old frozen_alloc_old setCell_alloc_old old_alloc old_ov old_drew old_drewN old_setCell
attribute [local go_sem ↓] run_max2 run_min2

theorem down64 {x y : Int} (hy : y = 64) (hx : x.natAbs ≤ 9223372036854775807) (a b : Option Addr) (ca cb : Nat) (w : World) (h1 : BigZ w a ca x) (h2 : BigZ w b cb y) :
    Calls Try.prog 72 #[.agg #[.bool (sg x), .slice a (ln x) ca], .agg #[.bool (sg y), .slice b (ln y) cb]] w fun e w' => ∃ rq cq rr cr, e = .returned (.tuple #[.agg #[.bool (sg (x / 64)), .slice rq (ln (x / 64)) cq], .agg #[.bool (sg (x % 64)), .slice rr (ln (x % 64)) cr]]) ∧ BigZ w' rq cq (x / 64) ∧ BigZ w' rr cr (x % 64) ∧ Below w.heap.size w w' := by
  have ht : 9223372036854775808 ≤ top := by
    unfold top
    have : (9223372036854775808 : Nat) ≤ 65536 ^ 4 := by decide
    exact Nat.le_trans this (Nat.pow_le_pow_right (by omega) (by omega))
  subst hy
  exact down_any a b ca cb x 64 w h1 h2 (by omega) (by omega) (by omega)
set_option maxRecDepth 100000 in
set_option maxHeartbeats 4000000 in
theorem pixels_down (n : Int) (hn : -4611686018427387904 ≤ n ∧ n ≤ 4611686018427387904) (w : World) :
    Calls Try.prog 48 #[.int .i64 n, .int .i64 0] w fun e w' => e = .returned (.int .i64 (n / 64)) ∧ Below w.heap.size w w' := by
  obtain ⟨q64, hq64, ho64⟩ := ofU_v 64 (by omega) (by omega)
  have hof := fun w => ofZ_any n w (by omega)
  have hdn := @down64 n q64 hq64 (by omega)
  have hint := fun a ca w h => int_any a ca (n / 64) w h (by omega)
  have HOF := Lib.hid hof; have HO64 := Lib.hid ho64; have HDN := Lib.hid hdn; have HINT := Lib.hid hint
  clear hof ho64 hdn hint hq64
  generalize hQ : n / 64 = Q at *
  generalize hR : n % 64 = R at *
  have HQ := Lib.hid hQ
  clear hQ hR
  go_enter Try.func48, Try.ntmps48
  go_wp2_with (go_at_call 69; (with_reducible refine (HOF.out _).mono ?_); rintro e ua ⟨r0, c0, rfl, hx, hb⟩; have hz := hb.size; refine (fun hB => ?_ : Below w.heap.size w ua → _) ?_; rotate_left; (focus ((repeat' (first | (with_reducible exact Below.refl _ _) | (with_reducible assumption) | (with_reducible refine below_from_drew ?_) | (with_reducible refine Below.alloc ?_ ?_ _) | (with_reducible refine Below.drew ?_) | (with_reducible refine below_drewN ?_ _) | (with_reducible refine Below.setCell ?_ ?_ _) | (with_reducible refine below_via ?_ (by assumption) ?_) | (with_reducible refine below_ov ?_ ?_ _ _) | go_size)); done)); (try simp only [World.size_alloc, World.size_setCell, World.size_drew, ov_size] at hz))
  have hua := hz
  have hx1 := (hx.alloc (.cells #[.bool (sg n), .slice r0 (ln n) c0] 162)).drew
  have hb0 := hb
  clear hb0 hx
  refine region_edge 5 8 (by kernel_rfl) (by kernel_rfl) (fun _ _ d _ _ h => by cases d <;> exact h) ?_; simp only [addE]; refine wpAny_noise [(0, 0), (1, 1), (2, 1), (3, 0), (4, 0), (5, 0)] [⟨6, 6, #[.bool false, .slice none 0 0], 162⟩, ⟨7, 7, #[.bool false, .slice none 0 0], 162⟩] [8, 9] (by kernel_rfl) (fun s hs o ho a w => by simp only [List.mem_cons, List.not_mem_nil, or_false] at hs; rcases hs with rfl | rfl <;> (cases ho; go_simp)) (fun _ _ d _ _ => by cases d <;> exact Iff.rfl) (fun hN => ?_)
  (refine wpGN_read (v := ?_) rfl (.inl ⟨by rfl, fun wx hbx => ?_⟩) ?_; rotate_left; (focus (obtain ⟨cx0, fx0, zx0⟩ := bk hbx (ua.heap.size) (by first | omega | (simp; done) | (simp; omega)); go_simp; (try go_bits); (try with_reducible rfl))); try simp only [Act.put, List.setIfInBounds_toArray, List.set_cons_zero, List.set_cons_succ])
  (refine wpGN_make rfl (fun wn hbn K hK => ?_); have hN2 := below_step hN hbn; replace hx1 := hx1.below hbn; clear hN hbn; go_simp; (go_at_call 71; (with_reducible refine (HO64.out _).mono ?_); rintro e wm ⟨r1, c1, rfl, hr1, hbm⟩; replace hx1 := hx1.below hbm; refine hK _ _ hbm ?_; have hN := below_step hN2 hbm; clear hbm); clear hK K hN2; try simp only [Act.put, List.setIfInBounds_toArray, List.set_cons_zero, List.set_cons_succ])
  (refine wpGN_make rfl (fun wn hbn K hK => ?_); have hN2 := below_step hN hbn; replace hx1 := hx1.below hbn; replace hr1 := hr1.below hbn; clear hN hbn; go_simp; (go_at_call 72; (with_reducible refine (HDN.out _ _ _ _ _ hx1 hr1).mono ?_); rintro e wm ⟨rq, cq, rr, cr, rfl, hq, hr, hbm⟩; replace hx1 := hx1.below hbm; replace hr1 := hr1.below hbm; refine hK _ _ hbm ?_; have hN := below_step hN2 hbm; clear hbm); clear hK K hN2; try simp only [Act.put, List.setIfInBounds_toArray, List.set_cons_zero, List.set_cons_succ])
  (refine wpGN_read (v := ?_) rfl (.inl ⟨by rfl, fun wx hbx => ?_⟩) ?_; rotate_left; (focus (obtain ⟨cx0, fx0, zx0⟩ := bk hbx (ua.heap.size) (by first | omega | (simp; done) | (simp; omega)); go_simp; (try go_bits); (try with_reducible rfl))); try simp only [Act.put, List.setIfInBounds_toArray, List.set_cons_zero, List.set_cons_succ])
  (refine wpGN_read (v := ?_) rfl (.inl ⟨by rfl, fun wx hbx => ?_⟩) ?_; rotate_left; (focus (obtain ⟨cx0, fx0, zx0⟩ := bk hbx (ua.heap.size) (by first | omega | (simp; done) | (simp; omega)); go_simp; (try go_bits); (try with_reducible rfl))); try simp only [Act.put, List.setIfInBounds_toArray, List.set_cons_zero, List.set_cons_succ])
  (refine wpGN_read (v := ?_) rfl (.inl ⟨by rfl, fun wx hbx => ?_⟩) ?_; rotate_left; (focus (obtain ⟨cx0, fx0, zx0⟩ := bk hbx (ua.heap.size) (by first | omega | (simp; done) | (simp; omega)); go_simp; (try go_bits); (try with_reducible rfl))); try simp only [Act.put, List.setIfInBounds_toArray, List.set_cons_zero, List.set_cons_succ])
  refine wpGN_nil (fun wn hbn => ?_); have hN2 := below_step hN hbn; replace hq := hq.below hbn; replace hr := hr.below hbn; clear hN hbn
  intro n6 hBn6 hHn6 hnn6
  intro n7 hBn7 hHn7 hnn7
  refine Exists.elim (after3 (w := w) (W := wn) (w1 := wn) (b0 := ua.heap.size) (cs0 := ?_) (T0 := ?_) (Below.refl _ _) (below_via ?_ hN2 ?_) (has_below hN2 ?_) hHn6 hHn7) ?_
  rotate_left 2; (focus ((repeat' (first | (with_reducible exact Below.refl _ _) | (with_reducible assumption) | (with_reducible refine below_from_drew ?_) | (with_reducible refine Below.alloc ?_ ?_ _) | (with_reducible refine Below.drew ?_) | (with_reducible refine below_drewN ?_ _) | (with_reducible refine Below.setCell ?_ ?_ _) | (with_reducible refine below_via ?_ (by assumption) ?_) | (with_reducible refine below_ov ?_ ?_ _ _) | go_size)); done)); (focus (go_size)); (focus ((repeat' (first | (with_reducible refine has_drew ?_) | (with_reducible refine has_drewN ?_) | (with_reducible refine has_new ?_; (first | (with_reducible rfl) | omega | (simp; done) | (simp; omega))) | (with_reducible refine has_ov_same ?_; (first | (with_reducible rfl) | omega | (simp; done) | (simp; omega))) | (with_reducible refine has_alloc ?_) | (with_reducible refine has_ov_other ?_ ?_; (focus (first | (with_reducible rfl) | omega | (simp; done) | (simp; omega)))) | (with_reducible assumption) | (with_reducible exact has_below hB (by assumption)))); done)); rintro ub ⟨hwu, hB, hz, z0, o0, zn6, on6, zn7, on7⟩
  simp only [World.size_alloc, World.size_setCell, World.size_drew, ov_size] at hBn6 hBn7
  simp only [List.mem_cons, List.not_mem_nil, or_false, not_or, not_false_eq_true] at hnn6 hnn7
  clear hN2 hHn6 hHn7; subst hwu; (try simp only [World.size_alloc, World.size_setCell, World.size_drew, ov_size] at hz)
  (refine wpL_late rfl (fun K hK => ?_); go_simp; refine hK _ _ ?_; clear hK K; try simp only [Act.put, List.setIfInBounds_toArray, List.set_cons_zero, List.set_cons_succ])
  (refine wpL_late rfl (fun K hK => ?_); go_simp; refine hK _ _ ?_; clear hK K; try simp only [Act.put, List.setIfInBounds_toArray, List.set_cons_zero, List.set_cons_succ])
  refine wpL_nil ?_
  have hq' : BigZ (ov (ov (ov ub ua.heap.size #[.bool (sg n), .slice r0 (ln n) c0] 162) n6 #[.bool false, .slice none 0 0] 162) n7 #[.bool false, .slice none 0 0] 162) rq cq Q := hq
  have hq2 := (hq'.setTwo (by simp only [ov_size]; exact zn6) ⟨fun e => hnn7 e.symm, by simp only [ov_size]; exact zn7⟩ (by intro _ e; cases e) #[.bool (sg Q), .slice rq (ln Q) cq]).setTop (by simp only [ov_size]; exact zn7) (by intro _ e; cases e) #[.bool (sg R), .slice rr (ln R) cr]
  clear hq hq' hr hx1 hr1
  have nn6 : ua.heap.size ≠ n6 := by omega
  have nn7 : ua.heap.size ≠ n7 := by omega
  have nn8 : n6 ≠ n7 := fun e => hnn7 e.symm
  go_wp2_with (go_at_call 73; (with_reducible refine (HINT.out _ _ _ hq2).mono ?_); rintro e uc ⟨rfl, hb⟩; have hz := hb.size; refine (fun hB => ?_ : Below w.heap.size w uc → _) ?_; rotate_left; (focus ((repeat' (first | (with_reducible exact Below.refl _ _) | (with_reducible assumption) | (with_reducible refine below_from_drew ?_) | (with_reducible refine Below.alloc ?_ ?_ _) | (with_reducible refine Below.drew ?_) | (with_reducible refine below_drewN ?_ _) | (with_reducible refine Below.setCell ?_ ?_ _) | (with_reducible refine below_via ?_ (by assumption) ?_) | (with_reducible refine below_ov ?_ ?_ _ _) | go_size)); done)); (try simp only [World.size_alloc, World.size_setCell, World.size_drew, ov_size] at hz))
  go_ret
  exact ⟨rfl, hB⟩
set_option maxRecDepth 100000 in
set_option maxHeartbeats 4000000 in
theorem pixels_near (n : Int) (hn : -4611686018427387904 ≤ n ∧ n ≤ 4611686018427387904) (w : World) :
    Calls Try.prog 48 #[.int .i64 n, .int .i64 2] w fun e w' => e = .returned (.int .i64 ((n + 32) / 64)) ∧ Below w.heap.size w w' := by
  obtain ⟨q64, hq64, ho64⟩ := ofU_v 64 (by omega) (by omega)
  obtain ⟨q32, hq32, ho32⟩ := ofU_v 32 (by omega) (by omega)
  have hl32 := ln_small (z := q32) (by omega)
  have hln := ln_small (z := n) (by omega)
  obtain ⟨m, hm⟩ : ∃ m : Int, n + q32 = m := ⟨_, rfl⟩
  rw [show n + 32 = m by omega]
  have HO32 := Lib.hid ho32; have HL32 := Lib.hid hl32; have HLN := Lib.hid hln; have HM := Lib.hid hm
  have hmb : -4611686018427387904 ≤ m ∧ m ≤ 4611686018427387936 := by omega
  clear ho32 hl32 hln hm hq32
  have hof := fun w => ofZ_any n w (by omega)
  have hdn := @down64 m q64 hq64 (by omega)
  have hint := fun a ca w h => int_any a ca (m / 64) w h (by omega)
  have HOF := Lib.hid hof; have HO64 := Lib.hid ho64; have HDN := Lib.hid hdn; have HINT := Lib.hid hint
  clear hof ho64 hdn hint hq64
  generalize hQ : m / 64 = Q at *
  generalize hR : m % 64 = R at *
  have HQ := Lib.hid hQ
  clear hQ hR
  go_enter Try.func48, Try.ntmps48
  go_wp2_with (go_at_call 69; (with_reducible refine (HOF.out _).mono ?_); rintro e ua ⟨r0, c0, rfl, hx, hb⟩; have hz := hb.size; refine (fun hB => ?_ : Below w.heap.size w ua → _) ?_; rotate_left; (focus ((repeat' (first | (with_reducible exact Below.refl _ _) | (with_reducible assumption) | (with_reducible refine below_from_drew ?_) | (with_reducible refine Below.alloc ?_ ?_ _) | (with_reducible refine Below.drew ?_) | (with_reducible refine below_drewN ?_ _) | (with_reducible refine Below.setCell ?_ ?_ _) | (with_reducible refine below_via ?_ (by assumption) ?_) | (with_reducible refine below_ov ?_ ?_ _ _) | go_size)); done)); (try simp only [World.size_alloc, World.size_setCell, World.size_drew, ov_size] at hz))
  have hua := hz
  have hx0 := (hx.alloc (.cells #[.bool (sg n), .slice r0 (ln n) c0] 162)).drew
  clear hb
  refine region_ord [(0, 0), (1, 1), (2, 1), (3, 2)] (by kernel_rfl) (by kernel_rfl) (fun _ _ d _ _ h => by cases d <;> exact h) (fun hS => ?_)
  (refine wpG_read (v := ?_) rfl (.inl ⟨by rfl, fun wx hbx => ?_⟩) ?_; rotate_left; (focus (obtain ⟨cx0, fx0, zx0⟩ := bk hbx (ua.heap.size) (by first | omega | (simp; done) | (simp; omega)); go_simp; (try go_bits); (try with_reducible rfl))); try simp only [Act.put, List.setIfInBounds_toArray, List.set_cons_zero, List.set_cons_succ])
  (refine wpG_make rfl (fun K hK => ?_); go_simp; (go_at_call 71; (with_reducible refine (HO32.out _).mono ?_); rintro e w1 ⟨r8, c8, rfl, hr8, hb⟩; replace hx0 := hx0.below hb; refine Exists.elim (after1 (w := w) (b0 := ua.heap.size) (cs0 := ?_) (T0 := ?_) hb ?_ ?_) ?_; rotate_left 2; (focus ((repeat' (first | (with_reducible exact Below.refl _ _) | (with_reducible assumption) | (with_reducible refine below_from_drew ?_) | (with_reducible refine Below.alloc ?_ ?_ _) | (with_reducible refine Below.drew ?_) | (with_reducible refine below_drewN ?_ _) | (with_reducible refine Below.setCell ?_ ?_ _) | (with_reducible refine below_via ?_ (by assumption) ?_) | (with_reducible refine below_ov ?_ ?_ _ _) | go_size)); done)); (focus ((repeat' (first | (with_reducible refine has_drew ?_) | (with_reducible refine has_drewN ?_) | (with_reducible refine has_new ?_; (first | (with_reducible rfl) | omega | (simp; done) | (simp; omega))) | (with_reducible refine has_ov_same ?_; (first | (with_reducible rfl) | omega | (simp; done) | (simp; omega))) | (with_reducible refine has_alloc ?_) | (with_reducible refine has_ov_other ?_ ?_; (focus (first | (with_reducible rfl) | omega | (simp; done) | (simp; omega)))) | (with_reducible assumption) | (with_reducible exact has_below hB (by assumption)))); done)); rintro ud ⟨rfl, hB, hz, z0, o0⟩; (try simp only [World.size_alloc, World.size_setCell, World.size_drew, ov_size] at hz)); (try simp only []); refine hK _ _ ?_ (fun hS2 => ?_); (focus ((repeat' (first | (with_reducible exact Below.refl _ _) | (with_reducible assumption) | (with_reducible refine below_from_drew ?_) | (with_reducible refine Below.alloc ?_ ?_ _) | (with_reducible refine Below.drew ?_) | (with_reducible refine below_drewN ?_ _) | (with_reducible refine Below.setCell ?_ ?_ _) | (with_reducible refine below_via ?_ (by assumption) ?_) | (with_reducible refine below_ov ?_ ?_ _ _) | go_size)); done)); clear hK K hS; have hS := hS2; clear hS2; (try clear hb); try simp only [Act.put, List.setIfInBounds_toArray, List.set_cons_zero, List.set_cons_succ])
  (refine wpG_make rfl (fun K hK => ?_); go_simp; (go_at_call 70; (with_reducible refine (plus_eq HM.out _ _ _ _ _ hx0 hr8 HLN.out HL32.out).mono ?_); rintro e w1 ⟨r9, c9, rfl, hr9, hb⟩; refine Exists.elim (after1 (w := w) (b0 := ua.heap.size) (cs0 := ?_) (T0 := ?_) hb ?_ ?_) ?_; rotate_left 2; (focus ((repeat' (first | (with_reducible exact Below.refl _ _) | (with_reducible assumption) | (with_reducible refine below_from_drew ?_) | (with_reducible refine Below.alloc ?_ ?_ _) | (with_reducible refine Below.drew ?_) | (with_reducible refine below_drewN ?_ _) | (with_reducible refine Below.setCell ?_ ?_ _) | (with_reducible refine below_via ?_ (by assumption) ?_) | (with_reducible refine below_ov ?_ ?_ _ _) | go_size)); done)); (focus ((repeat' (first | (with_reducible refine has_drew ?_) | (with_reducible refine has_drewN ?_) | (with_reducible refine has_new ?_; (first | (with_reducible rfl) | omega | (simp; done) | (simp; omega))) | (with_reducible refine has_ov_same ?_; (first | (with_reducible rfl) | omega | (simp; done) | (simp; omega))) | (with_reducible refine has_alloc ?_) | (with_reducible refine has_ov_other ?_ ?_; (focus (first | (with_reducible rfl) | omega | (simp; done) | (simp; omega)))) | (with_reducible assumption) | (with_reducible exact has_below hB (by assumption)))); done)); rintro ue ⟨rfl, hB, hz, z0, o0⟩; (try simp only [World.size_alloc, World.size_setCell, World.size_drew, ov_size] at hz)); (try simp only []); refine hK _ _ ?_ (fun hS2 => ?_); (focus ((repeat' (first | (with_reducible exact Below.refl _ _) | (with_reducible assumption) | (with_reducible refine below_from_drew ?_) | (with_reducible refine Below.alloc ?_ ?_ _) | (with_reducible refine Below.drew ?_) | (with_reducible refine below_drewN ?_ _) | (with_reducible refine Below.setCell ?_ ?_ _) | (with_reducible refine below_via ?_ (by assumption) ?_) | (with_reducible refine below_ov ?_ ?_ _ _) | go_size)); done)); clear hK K hS; have hS := hS2; clear hS2; (try clear hb); try simp only [Act.put, List.setIfInBounds_toArray, List.set_cons_zero, List.set_cons_succ])
  (refine wpG_late rfl (fun K hK => ?_); go_simp; (try simp only []); (try simp only []); refine hK _ _ ?_; clear hK K; try simp only [Act.put, List.setIfInBounds_toArray, List.set_cons_zero, List.set_cons_succ])
  refine wpG_nil ?_
  have hx1 := (hr9.setTop z0 (by intro _ e; cases e) #[.bool (sg m), .slice r9 (ln m) c9]).drew
  have hb0 := trivial
  clear hr8 hr9 hx0
  go_wp2_with fail
  clear hb0 hx
  refine region_edge 5 8 (by kernel_rfl) (by kernel_rfl) (fun _ _ d _ _ h => by cases d <;> exact h) ?_; simp only [addE]; refine wpAny_noise [(0, 0), (1, 1), (2, 1), (3, 0), (4, 0), (5, 0)] [⟨6, 6, #[.bool false, .slice none 0 0], 162⟩, ⟨7, 7, #[.bool false, .slice none 0 0], 162⟩] [8, 9] (by kernel_rfl) (fun s hs o ho a w => by simp only [List.mem_cons, List.not_mem_nil, or_false] at hs; rcases hs with rfl | rfl <;> (cases ho; go_simp)) (fun _ _ d _ _ => by cases d <;> exact Iff.rfl) (fun hN => ?_)
  (refine wpGN_read (v := ?_) rfl (.inl ⟨by rfl, fun wx hbx => ?_⟩) ?_; rotate_left; (focus (obtain ⟨cx0, fx0, zx0⟩ := bk hbx (ua.heap.size) (by first | omega | (simp; done) | (simp; omega)); go_simp; (try go_bits); (try with_reducible rfl))); try simp only [Act.put, List.setIfInBounds_toArray, List.set_cons_zero, List.set_cons_succ])
  (refine wpGN_make rfl (fun wn hbn K hK => ?_); have hN2 := below_step hN hbn; replace hx1 := hx1.below hbn; clear hN hbn; go_simp; (go_at_call 71; (with_reducible refine (HO64.out _).mono ?_); rintro e wm ⟨r1, c1, rfl, hr1, hbm⟩; replace hx1 := hx1.below hbm; refine hK _ _ hbm ?_; have hN := below_step hN2 hbm; clear hbm); clear hK K hN2; try simp only [Act.put, List.setIfInBounds_toArray, List.set_cons_zero, List.set_cons_succ])
  (refine wpGN_make rfl (fun wn hbn K hK => ?_); have hN2 := below_step hN hbn; replace hx1 := hx1.below hbn; replace hr1 := hr1.below hbn; clear hN hbn; go_simp; (go_at_call 72; (with_reducible refine (HDN.out _ _ _ _ _ hx1 hr1).mono ?_); rintro e wm ⟨rq, cq, rr, cr, rfl, hq, hr, hbm⟩; replace hx1 := hx1.below hbm; replace hr1 := hr1.below hbm; refine hK _ _ hbm ?_; have hN := below_step hN2 hbm; clear hbm); clear hK K hN2; try simp only [Act.put, List.setIfInBounds_toArray, List.set_cons_zero, List.set_cons_succ])
  (refine wpGN_read (v := ?_) rfl (.inl ⟨by rfl, fun wx hbx => ?_⟩) ?_; rotate_left; (focus (obtain ⟨cx0, fx0, zx0⟩ := bk hbx (ua.heap.size) (by first | omega | (simp; done) | (simp; omega)); go_simp; (try go_bits); (try with_reducible rfl))); try simp only [Act.put, List.setIfInBounds_toArray, List.set_cons_zero, List.set_cons_succ])
  (refine wpGN_read (v := ?_) rfl (.inl ⟨by rfl, fun wx hbx => ?_⟩) ?_; rotate_left; (focus (obtain ⟨cx0, fx0, zx0⟩ := bk hbx (ua.heap.size) (by first | omega | (simp; done) | (simp; omega)); go_simp; (try go_bits); (try with_reducible rfl))); try simp only [Act.put, List.setIfInBounds_toArray, List.set_cons_zero, List.set_cons_succ])
  (refine wpGN_read (v := ?_) rfl (.inl ⟨by rfl, fun wx hbx => ?_⟩) ?_; rotate_left; (focus (obtain ⟨cx0, fx0, zx0⟩ := bk hbx (ua.heap.size) (by first | omega | (simp; done) | (simp; omega)); go_simp; (try go_bits); (try with_reducible rfl))); try simp only [Act.put, List.setIfInBounds_toArray, List.set_cons_zero, List.set_cons_succ])
  refine wpGN_nil (fun wn hbn => ?_); have hN2 := below_step hN hbn; replace hq := hq.below hbn; replace hr := hr.below hbn; clear hN hbn
  intro n6 hBn6 hHn6 hnn6
  intro n7 hBn7 hHn7 hnn7
  refine Exists.elim (after3 (w := w) (W := wn) (w1 := wn) (b0 := ua.heap.size) (cs0 := ?_) (T0 := ?_) (Below.refl _ _) (below_via ?_ hN2 ?_) (has_below hN2 ?_) hHn6 hHn7) ?_
  rotate_left 2; (focus ((repeat' (first | (with_reducible exact Below.refl _ _) | (with_reducible assumption) | (with_reducible refine below_from_drew ?_) | (with_reducible refine Below.alloc ?_ ?_ _) | (with_reducible refine Below.drew ?_) | (with_reducible refine below_drewN ?_ _) | (with_reducible refine Below.setCell ?_ ?_ _) | (with_reducible refine below_via ?_ (by assumption) ?_) | (with_reducible refine below_ov ?_ ?_ _ _) | go_size)); done)); (focus (go_size)); (focus ((repeat' (first | (with_reducible refine has_drew ?_) | (with_reducible refine has_drewN ?_) | (with_reducible refine has_new ?_; (first | (with_reducible rfl) | omega | (simp; done) | (simp; omega))) | (with_reducible refine has_ov_same ?_; (first | (with_reducible rfl) | omega | (simp; done) | (simp; omega))) | (with_reducible refine has_alloc ?_) | (with_reducible refine has_ov_other ?_ ?_; (focus (first | (with_reducible rfl) | omega | (simp; done) | (simp; omega)))) | (with_reducible assumption) | (with_reducible exact has_below hB (by assumption)))); done)); rintro ub ⟨hwu, hB, hz, z0, o0, zn6, on6, zn7, on7⟩
  simp only [World.size_alloc, World.size_setCell, World.size_drew, ov_size] at hBn6 hBn7
  simp only [List.mem_cons, List.not_mem_nil, or_false, not_or, not_false_eq_true] at hnn6 hnn7
  clear hN2 hHn6 hHn7; subst hwu; (try simp only [World.size_alloc, World.size_setCell, World.size_drew, ov_size] at hz)
  (refine wpL_late rfl (fun K hK => ?_); go_simp; refine hK _ _ ?_; clear hK K; try simp only [Act.put, List.setIfInBounds_toArray, List.set_cons_zero, List.set_cons_succ])
  (refine wpL_late rfl (fun K hK => ?_); go_simp; refine hK _ _ ?_; clear hK K; try simp only [Act.put, List.setIfInBounds_toArray, List.set_cons_zero, List.set_cons_succ])
  refine wpL_nil ?_
  have hq' : BigZ (ov (ov (ov ub ua.heap.size #[.bool (sg m), .slice r9 (ln m) c9] 162) n6 #[.bool false, .slice none 0 0] 162) n7 #[.bool false, .slice none 0 0] 162) rq cq Q := hq
  have hq2 := (hq'.setTwo (by simp only [ov_size]; exact zn6) ⟨fun e => hnn7 e.symm, by simp only [ov_size]; exact zn7⟩ (by intro _ e; cases e) #[.bool (sg Q), .slice rq (ln Q) cq]).setTop (by simp only [ov_size]; exact zn7) (by intro _ e; cases e) #[.bool (sg R), .slice rr (ln R) cr]
  clear hq hq' hr hx1 hr1
  have nn6 : ua.heap.size ≠ n6 := by omega
  have nn7 : ua.heap.size ≠ n7 := by omega
  have nn8 : n6 ≠ n7 := fun e => hnn7 e.symm
  go_wp2_with (go_at_call 73; (with_reducible refine (HINT.out _ _ _ hq2).mono ?_); rintro e uc ⟨rfl, hb⟩; have hz := hb.size; refine (fun hB => ?_ : Below w.heap.size w uc → _) ?_; rotate_left; (focus ((repeat' (first | (with_reducible exact Below.refl _ _) | (with_reducible assumption) | (with_reducible refine below_from_drew ?_) | (with_reducible refine Below.alloc ?_ ?_ _) | (with_reducible refine Below.drew ?_) | (with_reducible refine below_drewN ?_ _) | (with_reducible refine Below.setCell ?_ ?_ _) | (with_reducible refine below_via ?_ (by assumption) ?_) | (with_reducible refine below_ov ?_ ?_ _ _) | go_size)); done)); (try simp only [World.size_alloc, World.size_setCell, World.size_drew, ov_size] at hz))
  go_ret
  exact ⟨rfl, hB⟩
end Go.Proofs.Ytjcbphhemmdnjaa
