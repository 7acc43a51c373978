/- clapboardref17's helpers: last, meet, sum, end. -/
import Derived.Test.YtbjmncgfbdkidaaBlockP
import Derived.Test.YtbjmncgfbdkidaaAddR
import Derived.LoopTactic
import Derived.Deep.DeepCutAuto
namespace Go.Proofs.Ytbjmncgfbdkidaa
open Go.RowKit
set_option linter.unusedSimpArgs false
set_option linter.unusedVariables false
-- below_from_drew
attribute [local go_sem] ov_cell_same ov_cell_other ov_frozen_same ov_frozen_other ov_size ov_setCell_same ov_setCell_other cell_alloc_old frozen_alloc_old setCell_alloc_old old_alloc old_ov old_drew old_drewN old_setCell
attribute [local go_sem ↓] run_max2 run_min2

/-- The last kid ahead of a place that isn't Through. -/
def lastF (ks : List KidZ) : Nat → Int
  | 0 => -1
  | i + 1 => if (ks.getD i k0).t = true then lastF ks i else (i : Int)
/-- What waits ahead of a place. -/
def wuF (ks : List KidZ) : Nat → Int
  | 0 => 0
  | i + 1 => if (ks.getD i k0).t = true then max (wuF ks i) (ks.getD i k0).u else (ks.getD i k0).au
def wdF (ks : List KidZ) : Nat → Int
  | 0 => 0
  | i + 1 => if (ks.getD i k0).t = true then min (wdF ks i) (ks.getD i k0).d else (ks.getD i k0).ad
theorem lastF_in (ks : List KidZ) : ∀ i, -1 ≤ lastF ks i ∧ lastF ks i < i
  | 0 => by simp [lastF]
  | i + 1 => by
    have := lastF_in ks i
    unfold lastF
    split <;> omega
/-- Kids of the document that a slice reads as. -/
def RKidsIn (w : World) (a : Option Addr) (ks : List KidZ) : Prop :=
  0 < ks.length → ∃ b, a = some ⟨b, 0, none⟩ ∧ b < w.heap.size ∧ ∀ i, i < ks.length → w.cell? ⟨b, i * 6, none⟩ = some (.int .i64 (ks.getD i k0).u) ∧ w.cell? ⟨b, i * 6 + 1, none⟩ = some (.int .i64 (ks.getD i k0).d) ∧ w.cell? ⟨b, i * 6 + 2, none⟩ = some (.int .i64 (ks.getD i k0).au) ∧ w.cell? ⟨b, i * 6 + 3, none⟩ = some (.int .i64 (ks.getD i k0).ad) ∧ w.cell? ⟨b, i * 6 + 4, none⟩ = some (.int .i64 (ks.getD i k0).h) ∧ w.cell? ⟨b, i * 6 + 5, none⟩ = some (.bool (ks.getD i k0).t)
set_option maxRecDepth 100000 in
set_option maxHeartbeats 1000000 in
theorem rlast_any (a : Option Addr) (cap : Nat) (ks : List KidZ) (at_ : Nat) (w : World) (hat : at_ ≤ ks.length) (hn : ks.length ≤ 1000) (hk : RKidsIn w a ks) :
    Calls Try.prog 74 #[.slice a ks.length cap, .int .i64 (at_ : Int)] w fun e w' => e = .returned (.int .i64 (lastF ks at_)) ∧ w = w' := by
  have HK := Lib.hid hk; clear hk
  generalize hlen : ks.length = n at *
  have HN := Lib.hid hlen; clear hlen
  go_enter Try.func74, Try.ntmps74
  go_wp2_with fail
  go_loop [5] (fun iv => ∃ j : Nat, j ≤ at_ ∧ iv = .int .i64 ((j : Int) - 1) ∧ lastF ks at_ = lastF ks j) (fun iv => (intOf iv + 1).toNat)
  case atStart => exact ⟨at_, Nat.le_refl _, by go_num, rfl⟩
  case round =>
    obtain ⟨j, hj, rfl, heq⟩ := hrel
    have HEQ := Lib.hid heq; clear heq
    rcases j with _ | j
    · have d1 : ((0 : Nat) : Int) - 1 = -1 := by omega
      have e1 : lastF ks 0 = -1 := rfl
      rw [d1]
      go_wp2_with fail
      go_ret
      exact ⟨by rw [HEQ.out, e1]; rfl, rfl⟩
    · obtain ⟨b, rfl, hb, hcs⟩ := HK.out (by rw [HN.out]; omega)
      obtain ⟨_, _, _, _, _, q5⟩ := hcs j (by rw [HN.out]; omega)
      have d1 : ((j + 1 : Nat) : Int) - 1 = (j : Int) := by omega
      rw [d1]
      have d2 : (j : Int) < n := by omega
      have d3 : (0 : Int) ≤ j := by omega
      have hl : lastF ks (j + 1) = if (ks.getD j k0).t = true then lastF ks j else (j : Int) := rfl
      clear hcs
      generalize (ks.getD j k0).t = t at *
      have HL := Lib.hid hl; clear hl
      cases t
      · go_wp2_with fail
        go_ret
        exact ⟨by rw [HEQ.out, HL.out]; simp, rfl⟩
      · go_wp2_with fail
        go_round
        case rel => exact ⟨j, by omega, by go_num, by rw [HEQ.out, HL.out]; simp⟩
        case measure => simp [intOf]; try omega
set_option maxRecDepth 100000 in
set_option maxHeartbeats 1000000 in
theorem rsum_any (x y : Int) (hx : -9223372036854775808 ≤ x ∧ x ≤ 9223372036854775807) (hy : -9223372036854775808 ≤ y ∧ y ≤ 9223372036854775807) (w : World) :
    Calls Try.prog 76 #[.int .i64 x, .int .i64 y] w fun e w' => e = .returned (.tuple #[.int .i64 (toldN (x + y)), .int .i64 (toldE (x + y))]) ∧ Below w.heap.size w w' := by
  have hof1 := fun w => ofZ_any x w hx
  have hof2 := fun w => ofZ_any y w hy
  have hl1 := ln_small (z := x) (by omega)
  have hl2 := ln_small (z := y) (by omega)
  have htd := fun a ca w h => told_any a ca (x + y) w h
  have HOF1 := Lib.hid hof1; have HOF2 := Lib.hid hof2; have HL1 := Lib.hid hl1; have HL2 := Lib.hid hl2; have HTD := Lib.hid htd
  clear hof1 hof2 hl1 hl2 htd hx hy
  go_enter Try.func76, Try.ntmps76
  go_wp2_with fail
  (go_at_call 59; (with_reducible refine (HOF1.out _).mono ?_); rintro e ua ⟨r1, c1, rfl, hr1, hb⟩; have hz := hb.size; refine (fun hB => ?_ : Below w.heap.size w ua → _) ?_; rotate_left; (focus ((repeat' (first | (with_reducible exact Below.refl _ _) | (with_reducible assumption) | (with_reducible refine below_from_drew ?_) | (with_reducible refine Below.alloc ?_ ?_ _) | (with_reducible refine Below.drew ?_) | (with_reducible refine below_drewN ?_ _) | (with_reducible refine Below.setCell ?_ ?_ _) | (with_reducible refine below_via ?_ (by assumption) ?_) | (with_reducible refine below_ov ?_ ?_ _ _) | go_size)); done)); (try simp only [World.size_alloc, World.size_setCell, World.size_drew, ov_size] at hz))
  clear hb
  go_wp2_with fail
  (go_at_call 59; (with_reducible refine (HOF2.out _).mono ?_); rintro e ub ⟨r2, c2, rfl, hr2, hb⟩; replace hr1 := hr1.below hb; have hz := hb.size; refine (fun hB => ?_ : Below w.heap.size w ub → _) ?_; rotate_left; (focus ((repeat' (first | (with_reducible exact Below.refl _ _) | (with_reducible assumption) | (with_reducible refine below_from_drew ?_) | (with_reducible refine Below.alloc ?_ ?_ _) | (with_reducible refine Below.drew ?_) | (with_reducible refine below_drewN ?_ _) | (with_reducible refine Below.setCell ?_ ?_ _) | (with_reducible refine below_via ?_ (by assumption) ?_) | (with_reducible refine below_ov ?_ ?_ _ _) | go_size)); done)); (try simp only [World.size_alloc, World.size_setCell, World.size_drew, ov_size] at hz))
  clear hb
  go_wp2_with fail
  (go_at_call 60; (with_reducible refine (plus_any _ _ _ _ _ _ _ hr1 hr2 HL1.out HL2.out).mono ?_); rintro e uc ⟨r3, c3, rfl, hr3, hb⟩; have hz := hb.size; refine (fun hB => ?_ : Below w.heap.size w uc → _) ?_; rotate_left; (focus ((repeat' (first | (with_reducible exact Below.refl _ _) | (with_reducible assumption) | (with_reducible refine below_from_drew ?_) | (with_reducible refine Below.alloc ?_ ?_ _) | (with_reducible refine Below.drew ?_) | (with_reducible refine below_drewN ?_ _) | (with_reducible refine Below.setCell ?_ ?_ _) | (with_reducible refine below_via ?_ (by assumption) ?_) | (with_reducible refine below_ov ?_ ?_ _ _) | go_size)); done)); (try simp only [World.size_alloc, World.size_setCell, World.size_drew, ov_size] at hz))
  clear hb hr1 hr2
  go_wp2_with fail
  (go_at_call 119; (with_reducible refine (HTD.out _ _ _ hr3).mono ?_); rintro e ud ⟨rfl, hb⟩; have hz := hb.size; refine (fun hB => ?_ : Below w.heap.size w ud → _) ?_; rotate_left; (focus ((repeat' (first | (with_reducible exact Below.refl _ _) | (with_reducible assumption) | (with_reducible refine below_from_drew ?_) | (with_reducible refine Below.alloc ?_ ?_ _) | (with_reducible refine Below.drew ?_) | (with_reducible refine below_drewN ?_ _) | (with_reducible refine Below.setCell ?_ ?_ _) | (with_reducible refine below_via ?_ (by assumption) ?_) | (with_reducible refine below_ov ?_ ?_ _ _) | go_size)); done)); (try simp only [World.size_alloc, World.size_setCell, World.size_drew, ov_size] at hz))
  clear hb hr3
  go_wp2_with fail
  go_ret2
  exact ⟨rfl, hB⟩
theorem lastF_spec (ks : List KidZ) : ∀ (at_ : Nat), (∀ k : Nat, lastF ks at_ < k → k < at_ → (ks.getD k k0).t = true) ∧ (∀ j : Nat, lastF ks at_ = j → (ks.getD j k0).t = false)
  | 0 => ⟨fun k h1 h2 => by omega, fun j h => by simp [lastF] at h⟩
  | i + 1 => by
    obtain ⟨h1, h2⟩ := lastF_spec ks i
    unfold lastF
    cases ht : (ks.getD i k0).t
    · simp only [Bool.false_eq_true, if_false]
      refine ⟨fun k h3 h4 => by omega, fun j h3 => ?_⟩
      have : j = i := by omega
      rw [this]; exact ht
    · simp only [if_true]
      refine ⟨fun k h3 h4 => ?_, h2⟩
      by_cases e : k = i
      · rw [e]; exact ht
      · exact h1 k h3 (by omega)
/-- What meets, as far as a place. -/
def mwu (ks : List KidZ) (at_ k : Nat) : Int := if k ≤ at_ then wuF ks k else max (wuF ks at_) (ks.getD at_ k0).u
def mwd (ks : List KidZ) (at_ k : Nat) : Int := if k ≤ at_ then wdF ks k else min (wdF ks at_) (ks.getD at_ k0).d
theorem mwu_step {ks : List KidZ} {at_ k : Nat} (hk : k ≤ at_) (hl : lastF ks at_ < k) : mwu ks at_ (k + 1) = max (mwu ks at_ k) (ks.getD k k0).u ∧ mwd ks at_ (k + 1) = min (mwd ks at_ k) (ks.getD k k0).d := by
  unfold mwu mwd
  by_cases e : k = at_
  · subst e
    rw [if_neg (by omega), if_pos (Nat.le_refl _), if_neg (by omega), if_pos (Nat.le_refl _)]
    exact ⟨rfl, rfl⟩
  · have ht := (lastF_spec ks at_).1 k hl (by omega)
    rw [if_pos (by omega), if_pos hk, if_pos (by omega), if_pos hk, wuF, wdF, if_pos ht, if_pos ht]
    exact ⟨rfl, rfl⟩
theorem RKidsIn.below {w w1 : World} {a : Option Addr} {ks : List KidZ} (h : RKidsIn w a ks) (hb : Below w.heap.size w w1) : RKidsIn w1 a ks := by
  intro h0
  obtain ⟨b, e, hl, hc⟩ := h h0
  refine ⟨b, e, Nat.lt_of_lt_of_le hl hb.size, fun i hi => ?_⟩
  have q := hc i hi
  exact ⟨(hb.cell (p := ⟨b, _, none⟩) hl).trans q.1, (hb.cell (p := ⟨b, _, none⟩) hl).trans q.2.1, (hb.cell (p := ⟨b, _, none⟩) hl).trans q.2.2.1, (hb.cell (p := ⟨b, _, none⟩) hl).trans q.2.2.2.1, (hb.cell (p := ⟨b, _, none⟩) hl).trans q.2.2.2.2.1, (hb.cell (p := ⟨b, _, none⟩) hl).trans q.2.2.2.2.2⟩
set_option maxRecDepth 100000 in
set_option maxHeartbeats 2000000 in
theorem rmeet_any (a : Option Addr) (cap : Nat) (ks : List KidZ) (at_ tt : Nat) (w : World) (hat : at_ ≤ ks.length) (htt : tt = at_ ∨ (tt = at_ + 1 ∧ at_ < ks.length)) (hn : ks.length ≤ 1000) (hk : RKidsIn w a ks) :
    Calls Try.prog 75 #[.slice a ks.length cap, .int .i64 (at_ : Int), .int .i64 (tt : Int)] w fun e w' => e = .returned (.tuple #[.int .i64 (max (mwu ks at_ tt) 0), .int .i64 (min (mwd ks at_ tt) 0)]) ∧ Below w.heap.size w w' := by
  have hlast := rlast_any a cap ks at_ w hat hn hk
  obtain ⟨li1, li2⟩ := lastF_in ks at_
  have hsp := lastF_spec ks at_
  have hstart : ∀ j : Nat, lastF ks at_ = j → mwu ks at_ (j + 1) = (ks.getD j k0).au ∧ mwd ks at_ (j + 1) = (ks.getD j k0).ad := fun j hj => by
    have ht := hsp.2 j hj
    unfold mwu mwd
    rw [if_pos (by omega), if_pos (by omega), wuF, wdF, if_neg (by rw [ht]; simp), if_neg (by rw [ht]; simp)]
    exact ⟨rfl, rfl⟩
  have hstep := fun k h1 h2 => mwu_step (ks := ks) (at_ := at_) (k := k) h1 h2
  have HLA := Lib.hid hlast; have HST := Lib.hid hstart; have HSP := Lib.hid hstep; have HK := Lib.hid hk
  clear hlast hsp hstart hstep hk
  generalize hl : lastF ks at_ = l at *
  clear hl
  generalize hlen : ks.length = n at *
  have HN := Lib.hid hlen; clear hlen
  go_enter Try.func75, Try.ntmps75
  go_wp2_with fail
  refine HLA.out.mono ?_
  rintro e w1 ⟨rfl, rfl⟩
  have hm0 : mwu ks at_ 0 = 0 ∧ mwd ks at_ 0 = 0 := by unfold mwu mwd; rw [if_pos (by omega), if_pos (by omega)]; exact ⟨rfl, rfl⟩
  have HM0 := Lib.hid hm0; clear hm0
  obtain ⟨s, hs⟩ : ∃ s : Nat, l + 1 = s := ⟨(l + 1).toNat, by omega⟩
  have hsa : s ≤ at_ := by omega
  go_upto_if 16 with fail
  go_cut [8, 9] (fun u d wx => u = .int .i64 (mwu ks at_ s) ∧ d = .int .i64 (mwd ks at_ s) ∧ Below w.heap.size w wx)
  case first =>
    rcases Int.lt_or_le l 0 with c0 | c0
    · obtain rfl : l = -1 := by omega
      obtain rfl : s = 0 := by omega
      go_wp2_with fail
      go_meet
      exact ⟨by rw [HM0.out.1], by rw [HM0.out.2], Below.refl _ _⟩
    · obtain ⟨j, rfl⟩ : ∃ j : Nat, l = j := ⟨l.toNat, by omega⟩
      obtain ⟨b, rfl, hb, hcs⟩ := HK.out (by rw [HN.out]; omega)
      obtain ⟨_, _, q2, q3, _, _⟩ := hcs j (by rw [HN.out]; omega)
      obtain ⟨m1, m2⟩ := HST.out j rfl
      rw [← m1] at q2
      rw [← m2] at q3
      obtain rfl : s = j + 1 := by omega
      have d2 : (j : Int) < n := by omega
      have d3 : (0 : Int) ≤ j := by omega
      clear hcs m1 m2 hs
      generalize mwu ks at_ (j + 1) = U at *
      generalize mwd ks at_ (j + 1) = D at *
      go_wp2_with fail
      refine region_ord [(0, 0), (1, 0), (2, 0), (3, 0), (4, 0), (5, 0), (6, 0), (7, 0), (8, 0), (9, 0), (10, 0), (11, 0)] (by kernel_rfl) (by kernel_rfl) (fun _ _ d _ _ h => by cases d <;> exact h) (fun hS => ?_)
      (refine wpG_read (v := ?_) rfl (.inl ⟨by rfl, fun wx hbx => ?_⟩) ?_; rotate_left; (focus (obtain ⟨cx0, fx0, zx0⟩ := bk hbx (b) (by first | omega | (simp; done) | (simp; omega)); go_simp; (try go_bits); (try with_reducible rfl))); try simp only [Act.put, List.setIfInBounds_toArray, List.set_cons_zero, List.set_cons_succ])
      (refine wpG_read (v := ?_) rfl (.inl ⟨by rfl, fun wx hbx => ?_⟩) ?_; rotate_left; (focus (obtain ⟨cx0, fx0, zx0⟩ := bk hbx (b) (by first | omega | (simp; done) | (simp; omega)); go_simp; (try go_bits); (try with_reducible rfl))); try simp only [Act.put, List.setIfInBounds_toArray, List.set_cons_zero, List.set_cons_succ])
      (refine wpG_read (v := ?_) rfl (.inl ⟨by rfl, fun wx hbx => ?_⟩) ?_; rotate_left; (focus (obtain ⟨cx0, fx0, zx0⟩ := bk hbx (b) (by first | omega | (simp; done) | (simp; omega)); go_simp; (try go_bits); (try with_reducible rfl))); try simp only [Act.put, List.setIfInBounds_toArray, List.set_cons_zero, List.set_cons_succ])
      (refine wpG_read (v := ?_) rfl (.inl ⟨by rfl, fun wx hbx => ?_⟩) ?_; rotate_left; (focus (obtain ⟨cx0, fx0, zx0⟩ := bk hbx (b) (by first | omega | (simp; done) | (simp; omega)); go_simp; (try go_bits); (try with_reducible rfl))); try simp only [Act.put, List.setIfInBounds_toArray, List.set_cons_zero, List.set_cons_succ])
      (refine wpG_read (v := ?_) rfl (.inl ⟨by rfl, fun wx hbx => ?_⟩) ?_; rotate_left; (focus (obtain ⟨cx0, fx0, zx0⟩ := bk hbx (b) (by first | omega | (simp; done) | (simp; omega)); go_simp; (try go_bits); (try with_reducible rfl))); try simp only [Act.put, List.setIfInBounds_toArray, List.set_cons_zero, List.set_cons_succ])
      (refine wpG_read (v := ?_) rfl (.inl ⟨by rfl, fun wx hbx => ?_⟩) ?_; rotate_left; (focus (obtain ⟨cx0, fx0, zx0⟩ := bk hbx (b) (by first | omega | (simp; done) | (simp; omega)); go_simp; (try go_bits); (try with_reducible rfl))); try simp only [Act.put, List.setIfInBounds_toArray, List.set_cons_zero, List.set_cons_succ])
      (refine wpG_read (v := ?_) rfl (.inl ⟨by rfl, fun wx hbx => ?_⟩) ?_; rotate_left; (focus (obtain ⟨cx0, fx0, zx0⟩ := bk hbx (b) (by first | omega | (simp; done) | (simp; omega)); go_simp; (try go_bits); (try with_reducible rfl))); try simp only [Act.put, List.setIfInBounds_toArray, List.set_cons_zero, List.set_cons_succ])
      (refine wpG_read (v := ?_) rfl (.inl ⟨by rfl, fun wx hbx => ?_⟩) ?_; rotate_left; (focus (obtain ⟨cx0, fx0, zx0⟩ := bk hbx (b) (by first | omega | (simp; done) | (simp; omega)); go_simp; (try go_bits); (try with_reducible rfl))); try simp only [Act.put, List.setIfInBounds_toArray, List.set_cons_zero, List.set_cons_succ])
      (refine wpG_read (v := ?_) rfl (.inl ⟨by rfl, fun wx hbx => ?_⟩) ?_; rotate_left; (focus (obtain ⟨cx0, fx0, zx0⟩ := bk hbx (b) (by first | omega | (simp; done) | (simp; omega)); go_simp; (try go_bits); (try with_reducible rfl))); try simp only [Act.put, List.setIfInBounds_toArray, List.set_cons_zero, List.set_cons_succ])
      (refine wpG_read (v := ?_) rfl (.inl ⟨by rfl, fun wx hbx => ?_⟩) ?_; rotate_left; (focus (obtain ⟨cx0, fx0, zx0⟩ := bk hbx (b) (by first | omega | (simp; done) | (simp; omega)); go_simp; (try go_bits); (try with_reducible rfl))); try simp only [Act.put, List.setIfInBounds_toArray, List.set_cons_zero, List.set_cons_succ])
      (refine wpG_read (v := ?_) rfl (.inl ⟨by rfl, fun wx hbx => ?_⟩) ?_; rotate_left; (focus (obtain ⟨cx0, fx0, zx0⟩ := bk hbx (b) (by first | omega | (simp; done) | (simp; omega)); go_simp; (try go_bits); (try with_reducible rfl))); try simp only [Act.put, List.setIfInBounds_toArray, List.set_cons_zero, List.set_cons_succ])
      (refine wpG_read (v := ?_) rfl (.inl ⟨by rfl, fun wx hbx => ?_⟩) ?_; rotate_left; (focus (obtain ⟨cx0, fx0, zx0⟩ := bk hbx (b) (by first | omega | (simp; done) | (simp; omega)); go_simp; (try go_bits); (try with_reducible rfl))); try simp only [Act.put, List.setIfInBounds_toArray, List.set_cons_zero, List.set_cons_succ])
      refine wpG_nil ?_
      go_wp2_with fail
      go_meet
      exact ⟨rfl, rfl, by (repeat' (first | (with_reducible exact Below.refl _ _) | (with_reducible assumption) | (with_reducible refine below_from_drew ?_) | (with_reducible refine Below.alloc ?_ ?_ _) | (with_reducible refine Below.drew ?_) | (with_reducible refine below_drewN ?_ _) | (with_reducible refine Below.setCell ?_ ?_ _) | (with_reducible refine below_via ?_ (by assumption) ?_) | (with_reducible refine below_ov ?_ ?_ _ _) | go_size))⟩
  case rest =>
    obtain ⟨rfl, rfl, hbc⟩ := hcut
    have HBC := Lib.hid hbc
    clear hbc
    go_wp2_with fail
    go_loopw [8, 9, 11] (fun u d kv wr => ∃ k : Nat, s ≤ k ∧ k ≤ tt ∧ kv = .int .i64 (k : Int) ∧ u = .int .i64 (mwu ks at_ k) ∧ d = .int .i64 (mwd ks at_ k) ∧ Below w.heap.size w wr) (fun _ _ kv _ => tt - (intOf kv).toNat)
    case atStart => exact ⟨s, Nat.le_refl _, by omega, rfl, rfl, rfl, HBC.out⟩
    case round =>
      obtain ⟨k, hk1, hk2, rfl, rfl, rfl, hbw⟩ := hrel
      have HBW := Lib.hid hbw
      have hsz := hbw.size
      rcases Nat.lt_or_ge k tt with c1 | c1
      · obtain ⟨b, rfl, hb, hcs⟩ := HK.out (by rw [HN.out]; omega)
        obtain ⟨q0, q1, _, _, _, _⟩ := hcs k (by rw [HN.out]; omega)
        replace q0 := (hbw.cell (p := ⟨b, _, none⟩) hb).trans q0
        replace q1 := (hbw.cell (p := ⟨b, _, none⟩) hb).trans q1
        have hst := HSP.out k (by omega) (by omega)
        have HS2 := Lib.hid hst
        have d1 : (k : Int) < tt := by omega
        have d2 : (k : Int) < n := by omega
        have lb : b < wr.heap.size := by omega
        clear hcs hbw hst
        generalize mwu ks at_ k = U at *
        generalize mwd ks at_ k = D at *
        generalize (ks.getD k k0).u = u0 at *
        generalize (ks.getD k k0).d = d0 at *
        go_wp2_with fail
        refine region_ord [(0, 0), (1, 0), (2, 0), (3, 0), (4, 0), (5, 0), (6, 0), (7, 0), (8, 0), (9, 0), (10, 0), (11, 0), (12, 0), (13, 0), (14, 0), (15, 0)] (by kernel_rfl) (by kernel_rfl) (fun _ _ d _ _ h => by cases d <;> exact h) (fun hS => ?_)
        (refine wpG_read (v := ?_) rfl (.inl ⟨by rfl, fun wx hbx => ?_⟩) ?_; rotate_left; (focus (obtain ⟨cx0, fx0, zx0⟩ := bk hbx (b) (by first | omega | (simp; done) | (simp; omega)); go_simp; (try go_bits); (try with_reducible rfl))); try simp only [Act.put, List.setIfInBounds_toArray, List.set_cons_zero, List.set_cons_succ])
        (refine wpG_read (v := ?_) rfl (.inl ⟨by rfl, fun wx hbx => ?_⟩) ?_; rotate_left; (focus (obtain ⟨cx0, fx0, zx0⟩ := bk hbx (b) (by first | omega | (simp; done) | (simp; omega)); go_simp; (try go_bits); (try with_reducible rfl))); try simp only [Act.put, List.setIfInBounds_toArray, List.set_cons_zero, List.set_cons_succ])
        (refine wpG_read (v := ?_) rfl (.inl ⟨by rfl, fun wx hbx => ?_⟩) ?_; rotate_left; (focus (obtain ⟨cx0, fx0, zx0⟩ := bk hbx (b) (by first | omega | (simp; done) | (simp; omega)); go_simp; (try go_bits); (try with_reducible rfl))); try simp only [Act.put, List.setIfInBounds_toArray, List.set_cons_zero, List.set_cons_succ])
        (refine wpG_read (v := ?_) rfl (.inl ⟨by rfl, fun wx hbx => ?_⟩) ?_; rotate_left; (focus (obtain ⟨cx0, fx0, zx0⟩ := bk hbx (b) (by first | omega | (simp; done) | (simp; omega)); go_simp; (try go_bits); (try with_reducible rfl))); try simp only [Act.put, List.setIfInBounds_toArray, List.set_cons_zero, List.set_cons_succ])
        (refine wpG_read (v := ?_) rfl (.inl ⟨by rfl, fun wx hbx => ?_⟩) ?_; rotate_left; (focus (obtain ⟨cx0, fx0, zx0⟩ := bk hbx (b) (by first | omega | (simp; done) | (simp; omega)); go_simp; (try go_bits); (try with_reducible rfl))); try simp only [Act.put, List.setIfInBounds_toArray, List.set_cons_zero, List.set_cons_succ])
        (refine wpG_read (v := ?_) rfl (.inl ⟨by rfl, fun wx hbx => ?_⟩) ?_; rotate_left; (focus (obtain ⟨cx0, fx0, zx0⟩ := bk hbx (b) (by first | omega | (simp; done) | (simp; omega)); go_simp; (try go_bits); (try with_reducible rfl))); try simp only [Act.put, List.setIfInBounds_toArray, List.set_cons_zero, List.set_cons_succ])
        (refine wpG_read (v := ?_) rfl (.inl ⟨by rfl, fun wx hbx => ?_⟩) ?_; rotate_left; (focus (obtain ⟨cx0, fx0, zx0⟩ := bk hbx (b) (by first | omega | (simp; done) | (simp; omega)); go_simp; (try go_bits); (try with_reducible rfl))); try simp only [Act.put, List.setIfInBounds_toArray, List.set_cons_zero, List.set_cons_succ])
        (refine wpG_read (v := ?_) rfl (.inl ⟨by rfl, fun wx hbx => ?_⟩) ?_; rotate_left; (focus (obtain ⟨cx0, fx0, zx0⟩ := bk hbx (b) (by first | omega | (simp; done) | (simp; omega)); go_simp; (try go_bits); (try with_reducible rfl))); try simp only [Act.put, List.setIfInBounds_toArray, List.set_cons_zero, List.set_cons_succ])
        (refine wpG_read (v := ?_) rfl (.inl ⟨by rfl, fun wx hbx => ?_⟩) ?_; rotate_left; (focus (obtain ⟨cx0, fx0, zx0⟩ := bk hbx (b) (by first | omega | (simp; done) | (simp; omega)); go_simp; (try go_bits); (try with_reducible rfl))); try simp only [Act.put, List.setIfInBounds_toArray, List.set_cons_zero, List.set_cons_succ])
        (refine wpG_read (v := ?_) rfl (.inl ⟨by rfl, fun wx hbx => ?_⟩) ?_; rotate_left; (focus (obtain ⟨cx0, fx0, zx0⟩ := bk hbx (b) (by first | omega | (simp; done) | (simp; omega)); go_simp; (try go_bits); (try with_reducible rfl))); try simp only [Act.put, List.setIfInBounds_toArray, List.set_cons_zero, List.set_cons_succ])
        (refine wpG_read (v := ?_) rfl (.inl ⟨by rfl, fun wx hbx => ?_⟩) ?_; rotate_left; (focus (obtain ⟨cx0, fx0, zx0⟩ := bk hbx (b) (by first | omega | (simp; done) | (simp; omega)); go_simp; (try go_bits); (try with_reducible rfl))); try simp only [Act.put, List.setIfInBounds_toArray, List.set_cons_zero, List.set_cons_succ])
        (refine wpG_read (v := ?_) rfl (.inl ⟨by rfl, fun wx hbx => ?_⟩) ?_; rotate_left; (focus (obtain ⟨cx0, fx0, zx0⟩ := bk hbx (b) (by first | omega | (simp; done) | (simp; omega)); go_simp; (try go_bits); (try with_reducible rfl))); try simp only [Act.put, List.setIfInBounds_toArray, List.set_cons_zero, List.set_cons_succ])
        (refine wpG_read (v := ?_) rfl (.inl ⟨by rfl, fun wx hbx => ?_⟩) ?_; rotate_left; (focus (obtain ⟨cx0, fx0, zx0⟩ := bk hbx (b) (by first | omega | (simp; done) | (simp; omega)); go_simp; (try go_bits); (try with_reducible rfl))); try simp only [Act.put, List.setIfInBounds_toArray, List.set_cons_zero, List.set_cons_succ])
        (refine wpG_read (v := ?_) rfl (.inl ⟨by rfl, fun wx hbx => ?_⟩) ?_; rotate_left; (focus (obtain ⟨cx0, fx0, zx0⟩ := bk hbx (b) (by first | omega | (simp; done) | (simp; omega)); go_simp; (try go_bits); (try with_reducible rfl))); try simp only [Act.put, List.setIfInBounds_toArray, List.set_cons_zero, List.set_cons_succ])
        (refine wpG_read (v := ?_) rfl (.inl ⟨by rfl, fun wx hbx => ?_⟩) ?_; rotate_left; (focus (obtain ⟨cx0, fx0, zx0⟩ := bk hbx (b) (by first | omega | (simp; done) | (simp; omega)); go_simp; (try go_bits); (try with_reducible rfl))); try simp only [Act.put, List.setIfInBounds_toArray, List.set_cons_zero, List.set_cons_succ])
        (refine wpG_read (v := ?_) rfl (.inl ⟨by rfl, fun wx hbx => ?_⟩) ?_; rotate_left; (focus (obtain ⟨cx0, fx0, zx0⟩ := bk hbx (b) (by first | omega | (simp; done) | (simp; omega)); go_simp; (try go_bits); (try with_reducible rfl))); try simp only [Act.put, List.setIfInBounds_toArray, List.set_cons_zero, List.set_cons_succ])
        refine wpG_nil ?_
        go_wp2_with fail
        go_roundw
        case rel => exact ⟨k + 1, by omega, by omega, by go_num, by rw [HS2.out.1], by rw [HS2.out.2], by have q := HBW.out; (repeat' (first | (with_reducible exact Below.refl _ _) | (with_reducible assumption) | (with_reducible refine below_from_drew ?_) | (with_reducible refine Below.alloc ?_ ?_ _) | (with_reducible refine Below.drew ?_) | (with_reducible refine below_drewN ?_ _) | (with_reducible refine Below.setCell ?_ ?_ _) | (with_reducible refine below_via ?_ (by assumption) ?_) | (with_reducible refine below_ov ?_ ?_ _ _) | go_size))⟩
        case measure => simp [intOf]; try omega
      · obtain rfl : k = tt := by omega
        have d1 : decide ((k : Int) < k) = false := by simp
        go_wp2_with fail
        go_ret2
        exact ⟨rfl, HBW.out⟩
set_option maxRecDepth 100000 in
set_option maxHeartbeats 1000000 in
theorem rend_neg (a ay : Option Addr) (n cap ny cy : Nat) (w : World) : Calls Try.prog 77 #[.slice a n cap, .slice ay ny cy, .int .i64 (-1)] w fun e w' => e = .returned (.tuple #[.int .i64 0, .int .i64 0]) ∧ Below w.heap.size w w' := by
  go_enter Try.func77, Try.ntmps77
  go_wp2_with fail
  go_ret2
  exact ⟨rfl, Below.refl _ _⟩
set_option maxRecDepth 100000 in
set_option maxHeartbeats 1000000 in
theorem rend_any (a ay : Option Addr) (cap cy : Nat) (ks : List KidZ) (ys : List Int) (k : Nat) (w : World) (hk1 : k < ks.length) (hk2 : k < ys.length) (hn : ks.length ≤ 1000) (hn2 : ys.length ≤ 1000)
    (hy : -9223372036854775808 ≤ ys.getD k 0 ∧ ys.getD k 0 ≤ 9223372036854775807) (hh : -9223372036854775808 ≤ (ks.getD k k0).h ∧ (ks.getD k k0).h ≤ 9223372036854775807) (hk : RKidsIn w a ks) (hys : IntsIn w ay ys) :
    Calls Try.prog 77 #[.slice a ks.length cap, .slice ay ys.length cy, .int .i64 (k : Int)] w fun e w' => e = .returned (.tuple #[.int .i64 (toldN (ys.getD k 0 + (ks.getD k k0).h)), .int .i64 (toldE (ys.getD k 0 + (ks.getD k k0).h))]) ∧ Below w.heap.size w w' := by
  have hsum := rsum_any (ys.getD k 0) (ks.getD k k0).h hy hh
  obtain ⟨b, rfl, hb, hcs⟩ := hk (by omega)
  obtain ⟨_, _, _, _, q4, _⟩ := hcs k hk1
  obtain ⟨by_, off, rfl, hby, hcy⟩ := hys (by omega)
  have q5 := hcy k hk2
  clear hcs hcy hy hh
  generalize ys.getD k 0 = y at *
  generalize (ks.getD k k0).h = h at *
  have HS := Lib.hid hsum; clear hsum
  generalize ks.length = n at *
  generalize ys.length = ny at *
  have d1 : (k : Int) < n := by omega
  have d2 : (k : Int) < ny := by omega
  go_enter Try.func77, Try.ntmps77
  go_wp2_with fail
  refine region_ord [(0, 0), (1, 0), (2, 0), (3, 0), (4, 0), (5, 0), (6, 0), (7, 0), (8, 0), (9, 1), (10, 0), (11, 0), (12, 0), (13, 0)] (by kernel_rfl) (by kernel_rfl) (fun _ _ d _ _ h => by cases d <;> exact h) (fun hS => ?_)
  (refine wpG_read (v := ?_) rfl (.inl ⟨by rfl, fun wx hbx => ?_⟩) ?_; rotate_left; (focus (obtain ⟨cx0, fx0, zx0⟩ := bk hbx (b) (by first | omega | (simp; done) | (simp; omega)); obtain ⟨cx1, fx1, zx1⟩ := bk hbx (by_) (by first | omega | (simp; done) | (simp; omega)); go_simp; (try go_bits); (try with_reducible rfl))); try simp only [Act.put, List.setIfInBounds_toArray, List.set_cons_zero, List.set_cons_succ])
  (refine wpG_read (v := ?_) rfl (.inl ⟨by rfl, fun wx hbx => ?_⟩) ?_; rotate_left; (focus (obtain ⟨cx0, fx0, zx0⟩ := bk hbx (b) (by first | omega | (simp; done) | (simp; omega)); obtain ⟨cx1, fx1, zx1⟩ := bk hbx (by_) (by first | omega | (simp; done) | (simp; omega)); go_simp; (try go_bits); (try with_reducible rfl))); try simp only [Act.put, List.setIfInBounds_toArray, List.set_cons_zero, List.set_cons_succ])
  (refine wpG_read (v := ?_) rfl (.inl ⟨by rfl, fun wx hbx => ?_⟩) ?_; rotate_left; (focus (obtain ⟨cx0, fx0, zx0⟩ := bk hbx (b) (by first | omega | (simp; done) | (simp; omega)); obtain ⟨cx1, fx1, zx1⟩ := bk hbx (by_) (by first | omega | (simp; done) | (simp; omega)); go_simp; (try go_bits); (try with_reducible rfl))); try simp only [Act.put, List.setIfInBounds_toArray, List.set_cons_zero, List.set_cons_succ])
  (refine wpG_read (v := ?_) rfl (.inl ⟨by rfl, fun wx hbx => ?_⟩) ?_; rotate_left; (focus (obtain ⟨cx0, fx0, zx0⟩ := bk hbx (b) (by first | omega | (simp; done) | (simp; omega)); obtain ⟨cx1, fx1, zx1⟩ := bk hbx (by_) (by first | omega | (simp; done) | (simp; omega)); go_simp; (try go_bits); (try with_reducible rfl))); try simp only [Act.put, List.setIfInBounds_toArray, List.set_cons_zero, List.set_cons_succ])
  (refine wpG_read (v := ?_) rfl (.inl ⟨by rfl, fun wx hbx => ?_⟩) ?_; rotate_left; (focus (obtain ⟨cx0, fx0, zx0⟩ := bk hbx (b) (by first | omega | (simp; done) | (simp; omega)); obtain ⟨cx1, fx1, zx1⟩ := bk hbx (by_) (by first | omega | (simp; done) | (simp; omega)); go_simp; (try go_bits); (try with_reducible rfl))); try simp only [Act.put, List.setIfInBounds_toArray, List.set_cons_zero, List.set_cons_succ])
  (refine wpG_read (v := ?_) rfl (.inl ⟨by rfl, fun wx hbx => ?_⟩) ?_; rotate_left; (focus (obtain ⟨cx0, fx0, zx0⟩ := bk hbx (b) (by first | omega | (simp; done) | (simp; omega)); obtain ⟨cx1, fx1, zx1⟩ := bk hbx (by_) (by first | omega | (simp; done) | (simp; omega)); go_simp; (try go_bits); (try with_reducible rfl))); try simp only [Act.put, List.setIfInBounds_toArray, List.set_cons_zero, List.set_cons_succ])
  (refine wpG_read (v := ?_) rfl (.inl ⟨by rfl, fun wx hbx => ?_⟩) ?_; rotate_left; (focus (obtain ⟨cx0, fx0, zx0⟩ := bk hbx (b) (by first | omega | (simp; done) | (simp; omega)); obtain ⟨cx1, fx1, zx1⟩ := bk hbx (by_) (by first | omega | (simp; done) | (simp; omega)); go_simp; (try go_bits); (try with_reducible rfl))); try simp only [Act.put, List.setIfInBounds_toArray, List.set_cons_zero, List.set_cons_succ])
  (refine wpG_read (v := ?_) rfl (.inl ⟨by rfl, fun wx hbx => ?_⟩) ?_; rotate_left; (focus (obtain ⟨cx0, fx0, zx0⟩ := bk hbx (b) (by first | omega | (simp; done) | (simp; omega)); obtain ⟨cx1, fx1, zx1⟩ := bk hbx (by_) (by first | omega | (simp; done) | (simp; omega)); go_simp; (try go_bits); (try with_reducible rfl))); try simp only [Act.put, List.setIfInBounds_toArray, List.set_cons_zero, List.set_cons_succ])
  (refine wpG_read (v := ?_) rfl (.inl ⟨by rfl, fun wx hbx => ?_⟩) ?_; rotate_left; (focus (obtain ⟨cx0, fx0, zx0⟩ := bk hbx (b) (by first | omega | (simp; done) | (simp; omega)); obtain ⟨cx1, fx1, zx1⟩ := bk hbx (by_) (by first | omega | (simp; done) | (simp; omega)); go_simp; (try go_bits); (try with_reducible rfl))); try simp only [Act.put, List.setIfInBounds_toArray, List.set_cons_zero, List.set_cons_succ])
  (refine wpG_make rfl (fun K hK => ?_); go_simp; (go_at_call 76; (with_reducible refine (HS.out _).mono ?_); rintro e u1 ⟨rfl, hb⟩; have hz := hb.size; refine (fun hB => ?_ : Below w.heap.size w u1 → _) ?_; rotate_left; (focus ((repeat' (first | (with_reducible exact Below.refl _ _) | (with_reducible assumption) | (with_reducible refine below_from_drew ?_) | (with_reducible refine Below.alloc ?_ ?_ _) | (with_reducible refine Below.drew ?_) | (with_reducible refine below_drewN ?_ _) | (with_reducible refine Below.setCell ?_ ?_ _) | (with_reducible refine below_via ?_ (by assumption) ?_) | (with_reducible refine below_ov ?_ ?_ _ _) | go_size)); done)); (try simp only [World.size_alloc, World.size_setCell, World.size_drew, ov_size] at hz)); (try simp only []); refine hK _ _ ?_ (fun hS2 => ?_); (focus ((repeat' (first | (with_reducible exact Below.refl _ _) | (with_reducible assumption) | (with_reducible refine below_from_drew ?_) | (with_reducible refine Below.alloc ?_ ?_ _) | (with_reducible refine Below.drew ?_) | (with_reducible refine below_drewN ?_ _) | (with_reducible refine Below.setCell ?_ ?_ _) | (with_reducible refine below_via ?_ (by assumption) ?_) | (with_reducible refine below_ov ?_ ?_ _ _) | go_size)); done)); clear hK K hS; have hS := hS2; clear hS2; (try clear hb); try simp only [Act.put, List.setIfInBounds_toArray, List.set_cons_zero, List.set_cons_succ])
  (refine wpG_read (v := ?_) rfl (.inl ⟨by rfl, fun wx hbx => ?_⟩) ?_; rotate_left; (focus (obtain ⟨cx0, fx0, zx0⟩ := bk hbx (b) (by first | omega | (simp; done) | (simp; omega)); obtain ⟨cx1, fx1, zx1⟩ := bk hbx (by_) (by first | omega | (simp; done) | (simp; omega)); go_simp; (try go_bits); (try with_reducible rfl))); try simp only [Act.put, List.setIfInBounds_toArray, List.set_cons_zero, List.set_cons_succ])
  (refine wpG_read (v := ?_) rfl (.inl ⟨by rfl, fun wx hbx => ?_⟩) ?_; rotate_left; (focus (obtain ⟨cx0, fx0, zx0⟩ := bk hbx (b) (by first | omega | (simp; done) | (simp; omega)); obtain ⟨cx1, fx1, zx1⟩ := bk hbx (by_) (by first | omega | (simp; done) | (simp; omega)); go_simp; (try go_bits); (try with_reducible rfl))); try simp only [Act.put, List.setIfInBounds_toArray, List.set_cons_zero, List.set_cons_succ])
  (refine wpG_read (v := ?_) rfl (.inl ⟨by rfl, fun wx hbx => ?_⟩) ?_; rotate_left; (focus (obtain ⟨cx0, fx0, zx0⟩ := bk hbx (b) (by first | omega | (simp; done) | (simp; omega)); obtain ⟨cx1, fx1, zx1⟩ := bk hbx (by_) (by first | omega | (simp; done) | (simp; omega)); go_simp; (try go_bits); (try with_reducible rfl))); try simp only [Act.put, List.setIfInBounds_toArray, List.set_cons_zero, List.set_cons_succ])
  (refine wpG_read (v := ?_) rfl (.inl ⟨by rfl, fun wx hbx => ?_⟩) ?_; rotate_left; (focus (obtain ⟨cx0, fx0, zx0⟩ := bk hbx (b) (by first | omega | (simp; done) | (simp; omega)); obtain ⟨cx1, fx1, zx1⟩ := bk hbx (by_) (by first | omega | (simp; done) | (simp; omega)); go_simp; (try go_bits); (try with_reducible rfl))); try simp only [Act.put, List.setIfInBounds_toArray, List.set_cons_zero, List.set_cons_succ])
  refine wpG_nil ?_
  go_wp2_with fail
  go_ret2
  exact ⟨rfl, by (repeat' (first | (with_reducible exact Below.refl _ _) | (with_reducible assumption) | (with_reducible refine below_from_drew ?_) | (with_reducible refine Below.alloc ?_ ?_ _) | (with_reducible refine Below.drew ?_) | (with_reducible refine below_drewN ?_ _) | (with_reducible refine Below.setCell ?_ ?_ _) | (with_reducible refine below_via ?_ (by assumption) ?_) | (with_reducible refine below_ov ?_ ?_ _ _) | go_size))⟩
end Go.Proofs.Ytbjmncgfbdkidaa
