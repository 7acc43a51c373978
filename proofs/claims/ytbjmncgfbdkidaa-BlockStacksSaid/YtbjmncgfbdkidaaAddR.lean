/- ref04.Add. -/
import Derived.Test.YtbjmncgfbdkidaaBigL
import Derived.Test.YtbjmncgfbdkidaaBut
namespace Go.Proofs.Ytbjmncgfbdkidaa
open Go.RowKit
set_option linter.unusedSimpArgs false
set_option linter.unusedVariables false
-- below_from_drew
attribute [local go_sem] ov_cell_same ov_cell_other ov_frozen_same ov_frozen_other ov_size ov_setCell_same ov_setCell_other cell_alloc_old frozen_alloc_old setCell_alloc_old old_alloc old_ov old_drew old_drewN old_setCell
attribute [local go_sem ↓] run_max2 run_min2

def raN (xs : List Int) : Int := (addF 0 xs).getD 0
def raE (xs : List Int) : Int := match addF 0 xs with | some _ => 0 | none => 2
theorem addF_exact {z x : Int} {r : List Int} (hz : inL z) : addF z (x :: r) = if inL (z + x) then addF (z + x) r else none := by
  have hz' : -17592186044416 ≤ z ∧ z ≤ 17592186044416 := hz
  simp only [addF]
  by_cases h : inL (z + x)
  · have h' : -17592186044416 ≤ z + x ∧ z + x ≤ 17592186044416 := h
    have c : clip x = x := by unfold clip; omega
    rw [c, if_pos h', if_pos h]
  · have h' : ¬ (-17592186044416 ≤ z + x ∧ z + x ≤ 17592186044416) := h
    rw [if_neg h, if_neg (by unfold clip; omega)]
theorem told_in {z : Int} (h : inL z) : toldE z = 0 ∧ toldN z = z := by
  unfold toldE toldN; rw [lenB_t h]; exact ⟨rfl, rfl⟩
/-- Numbers that a slice reads as. -/
def IntsIn (w : World) (a : Option Addr) (xs : List Int) : Prop := 0 < xs.length → ∃ b off, a = some ⟨b, off, none⟩ ∧ b < w.heap.size ∧ ∀ i, i < xs.length → w.cell? ⟨b, off + i, none⟩ = some (.int .i64 (xs.getD i 0))
theorem IntsIn.below {w w1 : World} {a : Option Addr} {xs : List Int} (h : IntsIn w a xs) (hb : Below w.heap.size w w1) : IntsIn w1 a xs := fun h0 => by
  obtain ⟨b, off, h1, h2, h4⟩ := h h0
  exact ⟨b, off, h1, Nat.lt_of_lt_of_le h2 hb.size, fun i hi => (hb.cell (p := ⟨b, off + i, none⟩) h2).trans (h4 i hi)⟩
set_option maxRecDepth 100000 in
set_option maxHeartbeats 4000000 in
theorem radd_any (a : Option Addr) (cap : Nat) (xs : List Int) (w : World) (hm : xs.length ≤ 1000000) (hx : ∀ x ∈ xs, -9223372036854775808 ≤ x ∧ x ≤ 9223372036854775807) (hr : IntsIn w a xs) :
    Calls Try.prog 122 #[.slice a xs.length cap] w fun e w' => e = .returned (.tuple #[.int .i64 (raN xs), .int .i64 (raE xs)]) ∧ Below w.heap.size w w' := by
  obtain ⟨n0, hn0, ho0⟩ := ofU_v 0 (by omega) (by omega)
  subst hn0
  have HO0 := Lib.hid ho0; have HX := Lib.hid hx; have HR := Lib.hid hr
  clear ho0 hx hr
  generalize hlen : xs.length = n at *
  have HN := Lib.hid hlen; clear hlen
  go_enter Try.func122, Try.ntmps122
  go_wp2_with (go_at_call 61; (with_reducible refine (HO0.out _).mono ?_); rintro e ua ⟨r0, cr0, rfl, hr0, hb⟩; have hz := hb.size; refine (fun hB => ?_ : Below w.heap.size w ua → _) ?_; rotate_left; (focus ((repeat' (first | (with_reducible exact Below.refl _ _) | (with_reducible assumption) | (with_reducible refine below_from_drew ?_) | (with_reducible refine Below.alloc ?_ ?_ _) | (with_reducible refine Below.drew ?_) | (with_reducible refine below_drewN ?_ _) | (with_reducible refine Below.setCell ?_ ?_ _) | (with_reducible refine below_via ?_ (by assumption) ?_) | (with_reducible refine below_ov ?_ ?_ _ _) | go_size)); done)); (try simp only [World.size_alloc, World.size_setCell, World.size_drew, ov_size] at hz))
  clear hb
  have hzu := hB.size
  go_loopw [5] (fun i wr => ∃ (k : Nat) (z : Int) (r : Option Addr) (cr : Nat), k ≤ n ∧ i = .int .i64 (k : Int) ∧ inL z ∧ addF 0 xs = addF z (xs.drop k) ∧ ua.heap.size < wr.heap.size ∧ Below w.heap.size w wr ∧ Has wr ua.heap.size #[.bool (sg z), .slice r (ln z) cr] 134 ∧ BigZ wr r cr z) (fun i _ => n - (intOf i).toNat)
  case atStart => exact ⟨0, 0, r0, cr0, by omega, rfl, by unfold inL; omega, rfl, by go_size, by (repeat' (first | (with_reducible exact Below.refl _ _) | (with_reducible assumption) | (with_reducible refine below_from_drew ?_) | (with_reducible refine Below.alloc ?_ ?_ _) | (with_reducible refine Below.drew ?_) | (with_reducible refine below_drewN ?_ _) | (with_reducible refine Below.setCell ?_ ?_ _) | (with_reducible refine below_via ?_ (by assumption) ?_) | (with_reducible refine below_ov ?_ ?_ _ _) | go_size)), by (repeat' (first | (with_reducible refine has_drew ?_) | (with_reducible refine has_drewN ?_) | (with_reducible refine has_new ?_; (first | (with_reducible rfl) | omega | (simp; done) | (simp; omega))) | (with_reducible refine has_ov_same ?_; (first | (with_reducible rfl) | omega | (simp; done) | (simp; omega))) | (with_reducible refine has_alloc ?_) | (with_reducible refine has_ov_other ?_ ?_; (focus (first | (with_reducible rfl) | omega | (simp; done) | (simp; omega)))) | (with_reducible assumption))), hr0.alloc _⟩
  case round =>
    obtain ⟨k, z, r, cr, hk, rfl, hzl, heq, hsz, hbw, hh1, hr⟩ := hrel
    have HEQ := Lib.hid heq; have HZL := Lib.hid hzl; clear heq
    clear hr0 hB hz
    have hzb : -17592186044416 ≤ z ∧ z ≤ 17592186044416 := hzl
    rcases Nat.lt_or_ge k n with c1 | c1
    · have c2 : (k : Int) < n := by omega
      obtain ⟨b, off, rfl, hbl, hcs⟩ := HR.out (by rw [HN.out]; omega)
      have hcell := (hbw.cell (p := ⟨b, off + k, none⟩) hbl).trans (hcs k (by rw [HN.out]; exact c1))
      have hxk := HX.out (xs.getD k 0) (by simp only [List.getD_eq_getElem?_getD, List.getElem?_eq_getElem (show k < xs.length by rw [HN.out]; exact c1), Option.getD_some]; exact List.getElem_mem _)
      have hd := drop_cons (xs := xs) (k := k) (by rw [HN.out]; exact c1)
      have heq := HEQ.out
      rw [hd, addF_exact hzl] at heq
      have HEQ2 := Lib.hid heq
      clear heq hd hcs HEQ
      generalize xs.getD k 0 = x at *
      have hof := fun w => ofZ_any x w hxk
      have HOF := Lib.hid hof
      have hl1 := ln_small (z := z) (by omega)
      have hl2 := ln_small (z := x) (by omega)
      have HL1 := Lib.hid hl1; have HL2 := Lib.hid hl2
      have lbw : b < wr.heap.size := by have := hbw.size; omega
      have nb : b ≠ ua.heap.size := by omega
      have lu1 : w.heap.size ≤ ua.heap.size := hzu
      clear hof hl1 hl2 hxk hzl
      obtain ⟨u, rfl, hBu, hzw, z1, o1⟩ := after1 (w := w) (W := wr) (w1 := wr) (Below.refl _ _) hbw hh1
      have HH1 := Lib.hid hh1
      have hcell2 : u.cell? ⟨b, off + k, none⟩ = some (.int .i64 x) := by
        rw [← hcell]; exact (ov_cell_other (by intro e; cases e; exact nb rfl)).symm
      have lbu : b < u.heap.size := by simpa using lbw
      clear hbw hh1 hzw hcell lbw
      go_wp2_with fail
      have hrd := hr.drew
      refine region_ord [(0, 0), (1, 0), (2, 0), (3, 0), (4, 0), (5, 1), (6, 1), (7, 2)] (by kernel_rfl) (by kernel_rfl) (fun _ _ d _ _ h => by cases d <;> exact h) (fun hS => ?_)
      (refine wpG_read (v := ?_) rfl (.inl ⟨by rfl, fun wx hbx => ?_⟩) ?_; rotate_left; (focus (obtain ⟨cx0, fx0, zx0⟩ := bk hbx (ua.heap.size) (by first | omega | (simp; done) | (simp; omega)); obtain ⟨cx1, fx1, zx1⟩ := bk hbx (b) (by first | omega | (simp; done) | (simp; omega)); go_simp; (try go_bits); (try with_reducible rfl))); try simp only [Act.put, List.setIfInBounds_toArray, List.set_cons_zero, List.set_cons_succ])
      (refine wpG_read (v := ?_) rfl (.inl ⟨by rfl, fun wx hbx => ?_⟩) ?_; rotate_left; (focus (obtain ⟨cx0, fx0, zx0⟩ := bk hbx (ua.heap.size) (by first | omega | (simp; done) | (simp; omega)); obtain ⟨cx1, fx1, zx1⟩ := bk hbx (b) (by first | omega | (simp; done) | (simp; omega)); go_simp; (try go_bits); (try with_reducible rfl))); try simp only [Act.put, List.setIfInBounds_toArray, List.set_cons_zero, List.set_cons_succ])
      (refine wpG_read (v := ?_) rfl (.inl ⟨by rfl, fun wx hbx => ?_⟩) ?_; rotate_left; (focus (obtain ⟨cx0, fx0, zx0⟩ := bk hbx (ua.heap.size) (by first | omega | (simp; done) | (simp; omega)); obtain ⟨cx1, fx1, zx1⟩ := bk hbx (b) (by first | omega | (simp; done) | (simp; omega)); go_simp; (try go_bits); (try with_reducible rfl))); try simp only [Act.put, List.setIfInBounds_toArray, List.set_cons_zero, List.set_cons_succ])
      (refine wpG_read (v := ?_) rfl (.inl ⟨by rfl, fun wx hbx => ?_⟩) ?_; rotate_left; (focus (obtain ⟨cx0, fx0, zx0⟩ := bk hbx (ua.heap.size) (by first | omega | (simp; done) | (simp; omega)); obtain ⟨cx1, fx1, zx1⟩ := bk hbx (b) (by first | omega | (simp; done) | (simp; omega)); go_simp; (try go_bits); (try with_reducible rfl))); try simp only [Act.put, List.setIfInBounds_toArray, List.set_cons_zero, List.set_cons_succ])
      (refine wpG_read (v := ?_) rfl (.inl ⟨by rfl, fun wx hbx => ?_⟩) ?_; rotate_left; (focus (obtain ⟨cx0, fx0, zx0⟩ := bk hbx (ua.heap.size) (by first | omega | (simp; done) | (simp; omega)); obtain ⟨cx1, fx1, zx1⟩ := bk hbx (b) (by first | omega | (simp; done) | (simp; omega)); go_simp; (try go_bits); (try with_reducible rfl))); try simp only [Act.put, List.setIfInBounds_toArray, List.set_cons_zero, List.set_cons_succ])
      (refine wpG_make rfl (fun K hK => ?_); go_simp; (go_at_call 59; (with_reducible refine (HOF.out _).mono ?_); rintro e w1 ⟨r2, cr2, rfl, hr2, hb⟩; replace hrd := hrd.below hb; refine Exists.elim (after1 (w := w) (b0 := ua.heap.size) (cs0 := ?_) (T0 := ?_) hb ?_ ?_) ?_; rotate_left 2; (focus ((repeat' (first | (with_reducible exact Below.refl _ _) | (with_reducible assumption) | (with_reducible refine below_from_drew ?_) | (with_reducible refine Below.alloc ?_ ?_ _) | (with_reducible refine Below.drew ?_) | (with_reducible refine below_drewN ?_ _) | (with_reducible refine Below.setCell ?_ ?_ _) | (with_reducible refine below_via ?_ (by assumption) ?_) | (with_reducible refine below_ov ?_ ?_ _ _) | go_size)); done)); (focus ((repeat' (first | (with_reducible refine has_drew ?_) | (with_reducible refine has_drewN ?_) | (with_reducible refine has_new ?_; (first | (with_reducible rfl) | omega | (simp; done) | (simp; omega))) | (with_reducible refine has_ov_same ?_; (first | (with_reducible rfl) | omega | (simp; done) | (simp; omega))) | (with_reducible refine has_alloc ?_) | (with_reducible refine has_ov_other ?_ ?_; (focus (first | (with_reducible rfl) | omega | (simp; done) | (simp; omega)))) | (with_reducible assumption))); done)); rintro ub ⟨rfl, hB, hz, z0, o0⟩; (try simp only [World.size_alloc, World.size_setCell, World.size_drew, ov_size] at hz)); (try simp only []); refine hK _ _ ?_ (fun hS2 => ?_); (focus ((repeat' (first | (with_reducible exact Below.refl _ _) | (with_reducible assumption) | (with_reducible refine below_from_drew ?_) | (with_reducible refine Below.alloc ?_ ?_ _) | (with_reducible refine Below.drew ?_) | (with_reducible refine below_drewN ?_ _) | (with_reducible refine Below.setCell ?_ ?_ _) | (with_reducible refine below_via ?_ (by assumption) ?_) | (with_reducible refine below_ov ?_ ?_ _ _) | go_size)); done)); clear hK K hS; have hS := hS2; clear hS2; (try clear hb); try simp only [Act.put, List.setIfInBounds_toArray, List.set_cons_zero, List.set_cons_succ])
      (refine wpG_make rfl (fun K hK => ?_); go_simp; (go_at_call 60; (with_reducible refine (plus_any _ _ _ _ _ _ _ hrd hr2 HL1.out HL2.out).mono ?_); rintro e w1 ⟨r3, cr3, rfl, hr3, hb⟩; refine Exists.elim (after1 (w := w) (b0 := ua.heap.size) (cs0 := ?_) (T0 := ?_) hb ?_ ?_) ?_; rotate_left 2; (focus ((repeat' (first | (with_reducible exact Below.refl _ _) | (with_reducible assumption) | (with_reducible refine below_from_drew ?_) | (with_reducible refine Below.alloc ?_ ?_ _) | (with_reducible refine Below.drew ?_) | (with_reducible refine below_drewN ?_ _) | (with_reducible refine Below.setCell ?_ ?_ _) | (with_reducible refine below_via ?_ (by assumption) ?_) | (with_reducible refine below_ov ?_ ?_ _ _) | go_size)); done)); (focus ((repeat' (first | (with_reducible refine has_drew ?_) | (with_reducible refine has_drewN ?_) | (with_reducible refine has_new ?_; (first | (with_reducible rfl) | omega | (simp; done) | (simp; omega))) | (with_reducible refine has_ov_same ?_; (first | (with_reducible rfl) | omega | (simp; done) | (simp; omega))) | (with_reducible refine has_alloc ?_) | (with_reducible refine has_ov_other ?_ ?_; (focus (first | (with_reducible rfl) | omega | (simp; done) | (simp; omega)))) | (with_reducible assumption))); done)); rintro uc ⟨rfl, hB, hz, z0, o0⟩; (try simp only [World.size_alloc, World.size_setCell, World.size_drew, ov_size] at hz)); (try simp only []); refine hK _ _ ?_ (fun hS2 => ?_); (focus ((repeat' (first | (with_reducible exact Below.refl _ _) | (with_reducible assumption) | (with_reducible refine below_from_drew ?_) | (with_reducible refine Below.alloc ?_ ?_ _) | (with_reducible refine Below.drew ?_) | (with_reducible refine below_drewN ?_ _) | (with_reducible refine Below.setCell ?_ ?_ _) | (with_reducible refine below_via ?_ (by assumption) ?_) | (with_reducible refine below_ov ?_ ?_ _ _) | go_size)); done)); clear hK K hS; have hS := hS2; clear hS2; (try clear hb); try simp only [Act.put, List.setIfInBounds_toArray, List.set_cons_zero, List.set_cons_succ])
      (refine wpG_late rfl (fun K hK => ?_); go_simp; (try simp only []); (try simp only []); refine hK _ _ ?_; clear hK K; try simp only [Act.put, List.setIfInBounds_toArray, List.set_cons_zero, List.set_cons_succ])
      refine wpG_nil ?_
      go_wp2_with fail
      by_cases hin : inL (z + x)
      · have hL : ∀ W, BigZ W r3 cr3 (z + x) → Calls Try.prog 134 #[.agg #[.bool (sg (z + x)), .slice r3 (ln (z + x)) cr3]] W fun e w' => e = .returned (.bool true) ∧ Below W.heap.size W w' := fun W h => by have := length_any r3 cr3 (z + x) W h; rwa [lenB_t hin] at this
        refine (hL _ (hr3.upd (b := ua.heap.size) (by (repeat' (first | (with_reducible refine has_drew ?_) | (with_reducible refine has_drewN ?_) | (with_reducible refine has_new ?_; (first | (with_reducible rfl) | omega | (simp; done) | (simp; omega))) | (with_reducible refine has_ov_same ?_; (first | (with_reducible rfl) | omega | (simp; done) | (simp; omega))) | (with_reducible refine has_alloc ?_) | (with_reducible refine has_ov_other ?_ ?_; (focus (first | (with_reducible rfl) | omega | (simp; done) | (simp; omega)))) | (with_reducible assumption)))) (by intro _ e; cases e) (by repeat (first | exact same_here | exact Same.refl | refine same_in ?_ (by first | omega | (simp; done) | (simp; omega)))))).mono ?_
        rintro e w4 ⟨rfl, hb4⟩
        have h5 := has_below hb4 (by (repeat' (first | (with_reducible refine has_drew ?_) | (with_reducible refine has_drewN ?_) | (with_reducible refine has_new ?_; (first | (with_reducible rfl) | omega | (simp; done) | (simp; omega))) | (with_reducible refine has_ov_same ?_; (first | (with_reducible rfl) | omega | (simp; done) | (simp; omega))) | (with_reducible refine has_alloc ?_) | (with_reducible refine has_ov_other ?_ ?_; (focus (first | (with_reducible rfl) | omega | (simp; done) | (simp; omega)))) | (with_reducible assumption))) : Has _ ua.heap.size #[.bool (sg (z + x)), .slice r3 (ln (z + x)) cr3] 134)
        have h6 : BigZ w4 r3 cr3 (z + x) := BigZ.below (hr3.upd (b := ua.heap.size) (by (repeat' (first | (with_reducible refine has_drew ?_) | (with_reducible refine has_drewN ?_) | (with_reducible refine has_new ?_; (first | (with_reducible rfl) | omega | (simp; done) | (simp; omega))) | (with_reducible refine has_ov_same ?_; (first | (with_reducible rfl) | omega | (simp; done) | (simp; omega))) | (with_reducible refine has_alloc ?_) | (with_reducible refine has_ov_other ?_ ?_; (focus (first | (with_reducible rfl) | omega | (simp; done) | (simp; omega)))) | (with_reducible assumption)))) (by intro _ e; cases e) (by repeat (first | exact same_here | exact Same.refl | refine same_in ?_ (by first | omega | (simp; done) | (simp; omega))))) hb4
        have h7 : Below w.heap.size w w4 := below_via (by (repeat' (first | (with_reducible exact Below.refl _ _) | (with_reducible assumption) | (with_reducible refine below_from_drew ?_) | (with_reducible refine Below.alloc ?_ ?_ _) | (with_reducible refine Below.drew ?_) | (with_reducible refine below_drewN ?_ _) | (with_reducible refine Below.setCell ?_ ?_ _) | (with_reducible refine below_via ?_ (by assumption) ?_) | (with_reducible refine below_ov ?_ ?_ _ _) | go_size))) hb4 (by go_size)
        have hsz4 := hb4.size
        simp only [ov_size] at hsz4
        have H5 := Lib.hid h5; have H6 := Lib.hid h6; have H7 := Lib.hid h7
        clear hb4 h5 h6 h7
        go_wp2_with fail
        go_roundw
        case rel => exact ⟨k + 1, z + x, r3, cr3, by omega, by go_num, hin, by rw [HEQ2.out, if_pos hin], by omega, H7.out, H5.out, H6.out⟩
        case measure => simp [intOf]; omega
      · have hL : ∀ W, BigZ W r3 cr3 (z + x) → Calls Try.prog 134 #[.agg #[.bool (sg (z + x)), .slice r3 (ln (z + x)) cr3]] W fun e w' => e = .returned (.bool false) ∧ Below W.heap.size W w' := fun W h => by have := length_any r3 cr3 (z + x) W h; rwa [lenB_f hin] at this
        refine (hL _ (hr3.upd (b := ua.heap.size) (by (repeat' (first | (with_reducible refine has_drew ?_) | (with_reducible refine has_drewN ?_) | (with_reducible refine has_new ?_; (first | (with_reducible rfl) | omega | (simp; done) | (simp; omega))) | (with_reducible refine has_ov_same ?_; (first | (with_reducible rfl) | omega | (simp; done) | (simp; omega))) | (with_reducible refine has_alloc ?_) | (with_reducible refine has_ov_other ?_ ?_; (focus (first | (with_reducible rfl) | omega | (simp; done) | (simp; omega)))) | (with_reducible assumption)))) (by intro _ e; cases e) (by repeat (first | exact same_here | exact Same.refl | refine same_in ?_ (by first | omega | (simp; done) | (simp; omega)))))).mono ?_
        rintro e w4 ⟨rfl, hb4⟩
        have h7 : Below w.heap.size w w4 := below_via (by (repeat' (first | (with_reducible exact Below.refl _ _) | (with_reducible assumption) | (with_reducible refine below_from_drew ?_) | (with_reducible refine Below.alloc ?_ ?_ _) | (with_reducible refine Below.drew ?_) | (with_reducible refine below_drewN ?_ _) | (with_reducible refine Below.setCell ?_ ?_ _) | (with_reducible refine below_via ?_ (by assumption) ?_) | (with_reducible refine below_ov ?_ ?_ _ _) | go_size))) hb4 (by go_size)
        have H7 := Lib.hid h7
        clear hb4 h7
        have e1 : raN xs = 0 := by unfold raN; rw [HEQ2.out, if_neg hin]; rfl
        have e2 : raE xs = 2 := by unfold raE; rw [HEQ2.out, if_neg hin]
        have E1 := Lib.hid e1; have E2 := Lib.hid e2
        clear e1 e2
        go_wp2_with fail
        go_ret2
        exact ⟨by first | (simp [E1.out, E2.out]; done) | rw [E1.out, E2.out], H7.out⟩
    · obtain rfl : k = n := by omega
      have hnil : xs.drop k = [] := List.drop_eq_nil_of_le (by rw [HN.out]; omega)
      have heq := HEQ.out
      rw [hnil] at heq
      have e1 : raN xs = z := by unfold raN; rw [heq]; rfl
      have e2 : raE xs = 0 := by unfold raE; rw [heq]; rfl
      have E1 := Lib.hid e1; have E2 := Lib.hid e2
      clear e1 e2
      have c2 : (k : Int) ≤ k := by omega
      have htold := told_any r cr z
      rw [(told_in hzl).1, (told_in hzl).2] at htold
      have HT := Lib.hid htold
      have HH := Lib.hid hh1; have HRR := Lib.hid hr; have HBW := Lib.hid hbw
      have c0 := hh1.cells
      clear htold hnil heq hh1 hr hbw
      go_wp2_with fail
      refine (HT.out _ HRR.out).mono ?_
      rintro e w4 ⟨rfl, hb4⟩
      have H7 := Lib.hid (below_via HBW.out hb4 HBW.out.size)
      clear hb4
      go_wp2_with fail
      go_ret2
      exact ⟨by first | (simp [E1.out, E2.out]; done) | rw [E1.out, E2.out], H7.out⟩
end Go.Proofs.Ytbjmncgfbdkidaa
