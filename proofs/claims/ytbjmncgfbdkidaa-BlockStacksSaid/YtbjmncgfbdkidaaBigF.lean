/- Whole numbers: from an int; comparison; product. -/
import Derived.Test.YtbjmncgfbdkidaaBigE
namespace Go.Proofs.Ytbjmncgfbdkidaa
open Go.RowKit
set_option linter.unusedSimpArgs false
set_option linter.unusedVariables false
-- below_from_drew
attribute [local go_sem] ov_cell_same ov_cell_other ov_frozen_same ov_frozen_other ov_size ov_setCell_same ov_setCell_other cell_alloc_old frozen_alloc_old setCell_alloc_old old_alloc old_ov old_drew old_drewN old_setCell
attribute [local go_sem ↓] run_max2 run_min2

theorem sizes_z (a b : Option Addr) (ca cb : Nat) (x y : Int) (w : World) (h1 : BigZ w a ca x) (h2 : BigZ w b cb y) :
    Calls Try.prog 108 #[.slice a (ln x) ca, .slice b (ln y) cb] w fun e w' => e = .returned (.int .i64 (cmpN x.natAbs y.natAbs)) ∧ Below w.heap.size w w' := by
  have h := sizes_any a b ca cb (dg x.natAbs) (dg y.natAbs) w (dg_trim _) (dg_trim _) h1 h2
  rw [dg_bv, dg_bv] at h
  exact h
/-- One number against another one. -/
def cmpI (x y : Int) : Int := if x < y then -1 else if y < x then 1 else 0
set_option maxRecDepth 100000 in
set_option maxHeartbeats 4000000 in
theorem cmp_any (a b : Option Addr) (ca cb : Nat) (x y : Int) (w : World) (h1 : BigZ w a ca x) (h2 : BigZ w b cb y) :
    Calls Try.prog 113 #[.agg #[.bool (sg x), .slice a (ln x) ca], .agg #[.bool (sg y), .slice b (ln y) cb]] w fun e w' => e = .returned (.int .i64 (cmpI x y)) ∧ Below w.heap.size w w' := by
  have HZ1 := Lib.hid (sizes_z a b ca cb x y); have HZ2 := Lib.hid (sizes_z b a cb ca y x)
  have H1 := Lib.hid h1; have H2 := Lib.hid h2; clear h1 h2
  by_cases hs : x < 0
  · have e1 : sg x = true := by simpa [sg] using hs
    by_cases ht : y < 0
    · have e2 : sg y = true := by simpa [sg] using ht
      have e3 : cmpN y.natAbs x.natAbs = cmpI x y := by unfold cmpN cmpI; split <;> split <;> (try split) <;> omega
      rw [e1, e2, ← e3]; clear e1 e2 e3
      go_enter Try.func113, Try.ntmps113
      go_wp2_with (go_at_call 108; (with_reducible refine (HZ2.out _ ((H2.out.alloc _).alloc _) ((H1.out.alloc _).alloc _)).mono ?_); rintro e w1 ⟨rfl, hb⟩; refine Exists.elim (after2 (w := w) (b0 := w.heap.size) (cs0 := ?_) (T0 := ?_) (b1 := w.heap.size + 1) (cs1 := ?_) (T1 := ?_) hb ?_ ?_ ?_) ?_; rotate_left 4; (focus ((repeat' (first | (with_reducible exact Below.refl _ _) | (with_reducible assumption) | (with_reducible refine below_from_drew ?_) | (with_reducible refine Below.alloc ?_ ?_ _) | (with_reducible refine Below.drew ?_) | (with_reducible refine below_drewN ?_ _) | (with_reducible refine Below.setCell ?_ ?_ _) | (with_reducible refine below_via ?_ (by assumption) ?_) | (with_reducible refine below_ov ?_ ?_ _ _) | go_size)); done)); (focus ((repeat' (first | (with_reducible refine has_drew ?_) | (with_reducible refine has_drewN ?_) | (with_reducible refine has_new ?_; (first | (with_reducible rfl) | omega | (simp; done) | (simp; omega))) | (with_reducible refine has_ov_same ?_; (first | (with_reducible rfl) | omega | (simp; done) | (simp; omega))) | (with_reducible refine has_alloc ?_) | (with_reducible refine has_ov_other ?_ ?_; (focus (first | (with_reducible rfl) | omega | (simp; done) | (simp; omega)))))); done)); (focus ((repeat' (first | (with_reducible refine has_drew ?_) | (with_reducible refine has_drewN ?_) | (with_reducible refine has_new ?_; (first | (with_reducible rfl) | omega | (simp; done) | (simp; omega))) | (with_reducible refine has_ov_same ?_; (first | (with_reducible rfl) | omega | (simp; done) | (simp; omega))) | (with_reducible refine has_alloc ?_) | (with_reducible refine has_ov_other ?_ ?_; (focus (first | (with_reducible rfl) | omega | (simp; done) | (simp; omega)))))); done)); rintro uz ⟨rfl, hB, hz, z0, o0, z1, o1⟩; (try simp only [World.size_alloc, World.size_setCell, World.size_drew, ov_size] at hz))
      go_ret
      exact ⟨rfl, by (repeat' (first | (with_reducible exact Below.refl _ _) | (with_reducible assumption) | (with_reducible refine below_from_drew ?_) | (with_reducible refine Below.alloc ?_ ?_ _) | (with_reducible refine Below.drew ?_) | (with_reducible refine below_drewN ?_ _) | (with_reducible refine Below.setCell ?_ ?_ _) | (with_reducible refine below_via ?_ (by assumption) ?_) | (with_reducible refine below_ov ?_ ?_ _ _) | go_size))⟩
    · have e2 : sg y = false := by simpa [sg] using ht
      have e3 : cmpI x y = -1 := by unfold cmpI; rw [if_pos (by omega)]
      rw [e1, e2, e3]; clear e1 e2 e3
      go_enter Try.func113, Try.ntmps113
      go_wp2_with fail
      go_ret
      exact ⟨rfl, by (repeat' (first | (with_reducible exact Below.refl _ _) | (with_reducible assumption) | (with_reducible refine below_from_drew ?_) | (with_reducible refine Below.alloc ?_ ?_ _) | (with_reducible refine Below.drew ?_) | (with_reducible refine below_drewN ?_ _) | (with_reducible refine Below.setCell ?_ ?_ _) | (with_reducible refine below_via ?_ (by assumption) ?_) | (with_reducible refine below_ov ?_ ?_ _ _) | go_size))⟩
  · have e1 : sg x = false := by simpa [sg] using hs
    by_cases ht : y < 0
    · have e2 : sg y = true := by simpa [sg] using ht
      have e3 : cmpI x y = 1 := by unfold cmpI; rw [if_neg (by omega), if_pos (by omega)]
      rw [e1, e2, e3]; clear e1 e2 e3
      go_enter Try.func113, Try.ntmps113
      go_wp2_with fail
      go_ret
      exact ⟨rfl, by (repeat' (first | (with_reducible exact Below.refl _ _) | (with_reducible assumption) | (with_reducible refine below_from_drew ?_) | (with_reducible refine Below.alloc ?_ ?_ _) | (with_reducible refine Below.drew ?_) | (with_reducible refine below_drewN ?_ _) | (with_reducible refine Below.setCell ?_ ?_ _) | (with_reducible refine below_via ?_ (by assumption) ?_) | (with_reducible refine below_ov ?_ ?_ _ _) | go_size))⟩
    · have e2 : sg y = false := by simpa [sg] using ht
      have e3 : cmpN x.natAbs y.natAbs = cmpI x y := by unfold cmpN cmpI; split <;> split <;> (try split) <;> omega
      rw [e1, e2, ← e3]; clear e1 e2 e3
      go_enter Try.func113, Try.ntmps113
      go_wp2_with (go_at_call 108; (with_reducible refine (HZ1.out _ ((H1.out.alloc _).alloc _) ((H2.out.alloc _).alloc _)).mono ?_); rintro e w1 ⟨rfl, hb⟩; refine Exists.elim (after2 (w := w) (b0 := w.heap.size) (cs0 := ?_) (T0 := ?_) (b1 := w.heap.size + 1) (cs1 := ?_) (T1 := ?_) hb ?_ ?_ ?_) ?_; rotate_left 4; (focus ((repeat' (first | (with_reducible exact Below.refl _ _) | (with_reducible assumption) | (with_reducible refine below_from_drew ?_) | (with_reducible refine Below.alloc ?_ ?_ _) | (with_reducible refine Below.drew ?_) | (with_reducible refine below_drewN ?_ _) | (with_reducible refine Below.setCell ?_ ?_ _) | (with_reducible refine below_via ?_ (by assumption) ?_) | (with_reducible refine below_ov ?_ ?_ _ _) | go_size)); done)); (focus ((repeat' (first | (with_reducible refine has_drew ?_) | (with_reducible refine has_drewN ?_) | (with_reducible refine has_new ?_; (first | (with_reducible rfl) | omega | (simp; done) | (simp; omega))) | (with_reducible refine has_ov_same ?_; (first | (with_reducible rfl) | omega | (simp; done) | (simp; omega))) | (with_reducible refine has_alloc ?_) | (with_reducible refine has_ov_other ?_ ?_; (focus (first | (with_reducible rfl) | omega | (simp; done) | (simp; omega)))))); done)); (focus ((repeat' (first | (with_reducible refine has_drew ?_) | (with_reducible refine has_drewN ?_) | (with_reducible refine has_new ?_; (first | (with_reducible rfl) | omega | (simp; done) | (simp; omega))) | (with_reducible refine has_ov_same ?_; (first | (with_reducible rfl) | omega | (simp; done) | (simp; omega))) | (with_reducible refine has_alloc ?_) | (with_reducible refine has_ov_other ?_ ?_; (focus (first | (with_reducible rfl) | omega | (simp; done) | (simp; omega)))))); done)); rintro uz ⟨rfl, hB, hz, z0, o0, z1, o1⟩; (try simp only [World.size_alloc, World.size_setCell, World.size_drew, ov_size] at hz))
      go_ret
      exact ⟨rfl, by (repeat' (first | (with_reducible exact Below.refl _ _) | (with_reducible assumption) | (with_reducible refine below_from_drew ?_) | (with_reducible refine Below.alloc ?_ ?_ _) | (with_reducible refine Below.drew ?_) | (with_reducible refine below_drewN ?_ _) | (with_reducible refine Below.setCell ?_ ?_ _) | (with_reducible refine below_via ?_ (by assumption) ?_) | (with_reducible refine below_ov ?_ ?_ _ _) | go_size))⟩
theorem sg_pos {z : Int} (h : 0 ≤ z) : sg z = false := by simp [sg]; omega
theorem sg_neg {z : Int} (h : z < 0) : sg z = true := by simpa [sg] using h
theorem ln_small {z : Int} (h : z.natAbs ≤ 18446744073709551615) : ln z ≤ 1000000 := sm_of (k := 4) (by omega) (by omega)
set_option maxRecDepth 100000 in
set_option maxHeartbeats 4000000 in
theorem ofZ_any (z : Int) (w : World) (hz : -9223372036854775808 ≤ z ∧ z ≤ 9223372036854775807) :
    Calls Try.prog 59 #[.int .i64 z] w fun e w' => ∃ r cr, e = .returned (.agg #[.bool (sg z), .slice r (ln z) cr]) ∧ BigZ w' r cr z ∧ Below w.heap.size w w' := by
  by_cases hs : 0 ≤ z
  · have ho := fun w => ofU_z z.natAbs w (by omega)
    rw [show ((z.natAbs : Nat) : Int) = z by omega] at ho
    have HO := Lib.hid ho; clear ho
    obtain ⟨hz1, hz2⟩ := hz
    go_enter Try.func59, Try.ntmps59
    go_wp2_with (go_at_call 61; (with_reducible refine (HO.out _).mono ?_); rintro e w1 ⟨r, cr, rfl, hr, hb⟩; refine Exists.elim (after1 (w := w) (b0 := w.heap.size) (cs0 := ?_) (T0 := ?_) hb ?_ ?_) ?_; rotate_left 2; (focus ((repeat' (first | (with_reducible exact Below.refl _ _) | (with_reducible assumption) | (with_reducible refine below_from_drew ?_) | (with_reducible refine Below.alloc ?_ ?_ _) | (with_reducible refine Below.drew ?_) | (with_reducible refine below_drewN ?_ _) | (with_reducible refine Below.setCell ?_ ?_ _) | (with_reducible refine below_via ?_ (by assumption) ?_) | (with_reducible refine below_ov ?_ ?_ _ _) | go_size)); done)); (focus ((repeat' (first | (with_reducible refine has_drew ?_) | (with_reducible refine has_drewN ?_) | (with_reducible refine has_new ?_; (first | (with_reducible rfl) | omega | (simp; done) | (simp; omega))) | (with_reducible refine has_ov_same ?_; (first | (with_reducible rfl) | omega | (simp; done) | (simp; omega))) | (with_reducible refine has_alloc ?_) | (with_reducible refine has_ov_other ?_ ?_; (focus (first | (with_reducible rfl) | omega | (simp; done) | (simp; omega)))))); done)); rintro uz ⟨rfl, hB, hz, z0, o0⟩; (try simp only [World.size_alloc, World.size_setCell, World.size_drew, ov_size] at hz))
    refine bodyPost_ret (by simp [results, Try.results59, go_sem, z0]; try rfl) rfl ?_
    exact ⟨r, cr, rfl, (hr.upd (b := w.heap.size) (by (repeat' (first | (with_reducible refine has_drew ?_) | (with_reducible refine has_drewN ?_) | (with_reducible refine has_new ?_; (first | (with_reducible rfl) | omega | (simp; done) | (simp; omega))) | (with_reducible refine has_ov_same ?_; (first | (with_reducible rfl) | omega | (simp; done) | (simp; omega))) | (with_reducible refine has_alloc ?_) | (with_reducible refine has_ov_other ?_ ?_; (focus (first | (with_reducible rfl) | omega | (simp; done) | (simp; omega))))))) (by intro _ e; cases e) (by repeat (first | exact same_here | exact Same.refl | refine same_in ?_ (by first | omega | (simp; done) | (simp; omega))))), by (repeat' (first | (with_reducible exact Below.refl _ _) | (with_reducible assumption) | (with_reducible refine below_from_drew ?_) | (with_reducible refine Below.alloc ?_ ?_ _) | (with_reducible refine Below.drew ?_) | (with_reducible refine below_drewN ?_ _) | (with_reducible refine Below.setCell ?_ ?_ _) | (with_reducible refine below_via ?_ (by assumption) ?_) | (with_reducible refine below_ov ?_ ?_ _ _) | go_size))⟩
  · obtain ⟨m, hm, ho⟩ : ∃ m : Int, m = -(z + 1) ∧ ∀ w, Calls Try.prog 61 #[.int .u64 (-(z + 1))] w fun e w' => ∃ r cr, e = .returned (.agg #[.bool (sg m), .slice r (ln m) cr]) ∧ BigZ w' r cr m ∧ Below w.heap.size w w' := ⟨_, rfl, fun w => by
      have := ofU_z (-(z + 1)).toNat w (by omega)
      rwa [show (((-(z + 1)).toNat : Nat) : Int) = -(z + 1) by omega] at this⟩
    obtain ⟨n, hn, ho1⟩ : ∃ n : Int, n = 1 ∧ ∀ w, Calls Try.prog 61 #[.int .u64 1] w fun e w' => ∃ r cr, e = .returned (.agg #[.bool (sg n), .slice r (ln n) cr]) ∧ BigZ w' r cr n ∧ Below w.heap.size w w' := ⟨_, rfl, fun w => ofU_z 1 w (by omega)⟩
    have hl1 := ln_small (z := m) (by omega)
    have hl2 := ln_small (z := n) (by omega)
    have HO := Lib.hid ho; have HO1 := Lib.hid ho1; clear ho ho1
    have e1 := ln_abs (x := m + n) (y := z) (by omega)
    have e2 := sg_neg (z := z) (by omega)
    have E1 := Lib.hid e1; have E2 := Lib.hid e2; clear e1 e2
    have E3 := Lib.hid (show (m + n).natAbs = z.natAbs by omega)
    have HL1 := Lib.hid hl1; have HL2 := Lib.hid hl2; clear hl1 hl2 hm hn
    obtain ⟨hz1, hz2⟩ := hz
    go_enter Try.func59, Try.ntmps59
    go_wp2_with fail
    (go_at_call 61; (with_reducible refine (HO.out _).mono ?_); rintro e w1 ⟨r, cr, rfl, hr, hb⟩; refine Exists.elim (after1 (w := w) (b0 := w.heap.size) (cs0 := ?_) (T0 := ?_) hb ?_ ?_) ?_; rotate_left 2; (focus ((repeat' (first | (with_reducible exact Below.refl _ _) | (with_reducible assumption) | (with_reducible refine below_from_drew ?_) | (with_reducible refine Below.alloc ?_ ?_ _) | (with_reducible refine Below.drew ?_) | (with_reducible refine below_drewN ?_ _) | (with_reducible refine Below.setCell ?_ ?_ _) | (with_reducible refine below_via ?_ (by assumption) ?_) | (with_reducible refine below_ov ?_ ?_ _ _) | go_size)); done)); (focus ((repeat' (first | (with_reducible refine has_drew ?_) | (with_reducible refine has_drewN ?_) | (with_reducible refine has_new ?_; (first | (with_reducible rfl) | omega | (simp; done) | (simp; omega))) | (with_reducible refine has_ov_same ?_; (first | (with_reducible rfl) | omega | (simp; done) | (simp; omega))) | (with_reducible refine has_alloc ?_) | (with_reducible refine has_ov_other ?_ ?_; (focus (first | (with_reducible rfl) | omega | (simp; done) | (simp; omega)))))); done)); rintro ua ⟨rfl, hB, hz, z0, o0⟩; (try simp only [World.size_alloc, World.size_setCell, World.size_drew, ov_size] at hz))
    go_wp2_with fail
    (go_at_call 61; (with_reducible refine (HO1.out _).mono ?_); rintro e w1 ⟨r1, cr1, rfl, hr1, hb⟩; replace hr := hr.below hb; refine Exists.elim (after1 (w := w) (b0 := w.heap.size) (cs0 := ?_) (T0 := ?_) hb ?_ ?_) ?_; rotate_left 2; (focus ((repeat' (first | (with_reducible exact Below.refl _ _) | (with_reducible assumption) | (with_reducible refine below_from_drew ?_) | (with_reducible refine Below.alloc ?_ ?_ _) | (with_reducible refine Below.drew ?_) | (with_reducible refine below_drewN ?_ _) | (with_reducible refine Below.setCell ?_ ?_ _) | (with_reducible refine below_via ?_ (by assumption) ?_) | (with_reducible refine below_ov ?_ ?_ _ _) | go_size)); done)); (focus ((repeat' (first | (with_reducible refine has_drew ?_) | (with_reducible refine has_drewN ?_) | (with_reducible refine has_new ?_; (first | (with_reducible rfl) | omega | (simp; done) | (simp; omega))) | (with_reducible refine has_ov_same ?_; (first | (with_reducible rfl) | omega | (simp; done) | (simp; omega))) | (with_reducible refine has_alloc ?_) | (with_reducible refine has_ov_other ?_ ?_; (focus (first | (with_reducible rfl) | omega | (simp; done) | (simp; omega)))))); done)); rintro ub ⟨rfl, hB, hz, z0, o0⟩; (try simp only [World.size_alloc, World.size_setCell, World.size_drew, ov_size] at hz))
    go_wp2_with fail
    (go_at_call 60; (with_reducible refine (plus_any _ _ _ _ _ _ _ hr hr1 HL1.out HL2.out).mono ?_); rintro e w1 ⟨r2, cr2, rfl, hr2, hb⟩; refine Exists.elim (after1 (w := w) (b0 := w.heap.size) (cs0 := ?_) (T0 := ?_) hb ?_ ?_) ?_; rotate_left 2; (focus ((repeat' (first | (with_reducible exact Below.refl _ _) | (with_reducible assumption) | (with_reducible refine below_from_drew ?_) | (with_reducible refine Below.alloc ?_ ?_ _) | (with_reducible refine Below.drew ?_) | (with_reducible refine below_drewN ?_ _) | (with_reducible refine Below.setCell ?_ ?_ _) | (with_reducible refine below_via ?_ (by assumption) ?_) | (with_reducible refine below_ov ?_ ?_ _ _) | go_size)); done)); (focus ((repeat' (first | (with_reducible refine has_drew ?_) | (with_reducible refine has_drewN ?_) | (with_reducible refine has_new ?_; (first | (with_reducible rfl) | omega | (simp; done) | (simp; omega))) | (with_reducible refine has_ov_same ?_; (first | (with_reducible rfl) | omega | (simp; done) | (simp; omega))) | (with_reducible refine has_alloc ?_) | (with_reducible refine has_ov_other ?_ ?_; (focus (first | (with_reducible rfl) | omega | (simp; done) | (simp; omega)))))); done)); rintro uc ⟨rfl, hB, hz, z0, o0⟩; (try simp only [World.size_alloc, World.size_setCell, World.size_drew, ov_size] at hz))
    go_wp2_with fail
    refine bodyPost_ret (by simp [results, Try.results59, go_sem, z0]; try rfl) rfl ?_
    refine ⟨r2, cr2, by rw [E2.out, ← E1.out], ?_, by (repeat' (first | (with_reducible exact Below.refl _ _) | (with_reducible assumption) | (with_reducible refine below_from_drew ?_) | (with_reducible refine Below.alloc ?_ ?_ _) | (with_reducible refine Below.drew ?_) | (with_reducible refine below_drewN ?_ _) | (with_reducible refine Below.setCell ?_ ?_ _) | (with_reducible refine below_via ?_ (by assumption) ?_) | (with_reducible refine below_ov ?_ ?_ _ _) | go_size))⟩
    refine BigZ.abs ?_ E3.out
    exact ((hr2.upd (b := w.heap.size) (by (repeat' (first | (with_reducible refine has_drew ?_) | (with_reducible refine has_drewN ?_) | (with_reducible refine has_new ?_; (first | (with_reducible rfl) | omega | (simp; done) | (simp; omega))) | (with_reducible refine has_ov_same ?_; (first | (with_reducible rfl) | omega | (simp; done) | (simp; omega))) | (with_reducible refine has_alloc ?_) | (with_reducible refine has_ov_other ?_ ?_; (focus (first | (with_reducible rfl) | omega | (simp; done) | (simp; omega))))))) (by intro _ e; cases e) (by repeat (first | exact same_here | exact Same.refl | refine same_in ?_ (by first | omega | (simp; done) | (simp; omega))))) : BigZ (ov uc w.heap.size #[.bool true, .slice r2 (ln (m + n)) cr2] 134) r2 cr2 (m + n)).alloc _
end Go.Proofs.Ytbjmncgfbdkidaa
