/- ref01.trim, ref01.sizes, ref01.OfU. -/
import Derived.Test.YtjcbphhemmdnjaaRow
import Derived.Test.YtjcbphhemmdnjaaBig
import Derived.Test.YtjcbphhemmdnjaaFix
import Derived.LoopTactic
import Derived.Deep.DeepCutAuto
import Derived.Outline
namespace Go.Proofs.Ytjcbphhemmdnjaa
open Go.RowKit
set_option linter.unusedSimpArgs false
set_option linter.unusedVariables false
-- below_from_drew
attribute [local go_sem] ov_cell_same ov_cell_other ov_frozen_same ov_frozen_other ov_size ov_setCell_same ov_setCell_other cell_alloc_old frozen_alloc_old setCell_alloc_old old_alloc old_ov old_drew old_drewN old_setCell
attribute [local go_sem ↓] run_max2 run_min2

/-- A slice that reads as digits. -/
def BigR (w : World) (a : Option Addr) (cap : Nat) (l : List Nat) : Prop :=
  l.length ≤ cap ∧ cap ≤ 9223372036854775807 ∧ (0 < l.length → ∃ b, a = some ⟨b, 0, none⟩ ∧ b < w.heap.size ∧ ∀ i, i < l.length → w.cell? ⟨b, i, none⟩ = some (.int .u64 (l.getD i 0)))
theorem BigR.below {w w1 : World} {a : Option Addr} {cap : Nat} {l : List Nat} (h : BigR w a cap l) (hb : Below w.heap.size w w1) : BigR w1 a cap l := by
  obtain ⟨h1, h2, h3⟩ := h
  refine ⟨h1, h2, fun h0 => ?_⟩
  obtain ⟨b, e, hl, hc⟩ := h3 h0
  exact ⟨b, e, Nat.lt_of_lt_of_le hl hb.size, fun i hi => (hb.cell (p := ⟨b, i, none⟩) hl).trans (hc i hi)⟩
theorem BigR.take {w : World} {a : Option Addr} {cap : Nat} {l : List Nat} (h : BigR w a cap l) (k : Nat) (hk : k ≤ l.length) : BigR w a cap (l.take k) := by
  obtain ⟨h1, h2, h3⟩ := h
  have e : (l.take k).length = k := by rw [List.length_take]; omega
  refine ⟨by omega, h2, fun h0 => ?_⟩
  rw [e] at h0 ⊢
  obtain ⟨b, e', hl, hc⟩ := h3 (by omega)
  refine ⟨b, e', hl, fun i hi => ?_⟩
  rw [hc i (by omega), List.getD_eq_getElem?_getD, List.getD_eq_getElem?_getD, List.getElem?_take_of_lt hi]
theorem dg_take {l : List Nat} (hd : Digs l) {k : Nat} (hk : k ≤ l.length) (he : bv (l.take k) = bv l) (h : k = 0 ∨ l.getD (k - 1) 0 ≠ 0) : dg (bv l) = l.take k := by
  rw [← he]; exact dg_of (trim_take hd hk h)
theorem BigR.trim {w : World} {a : Option Addr} {cap : Nat} {l : List Nat} (h : BigR w a cap l) (hd : Digs l) : BigR w a cap (dg (bv l)) := by
  have : ∀ k, k ≤ l.length → bv (l.take k) = bv l → ∃ j, j ≤ k ∧ dg (bv l) = l.take j := by
    intro k
    induction k with
    | zero => intro hk he; exact ⟨0, Nat.le_refl _, dg_take hd hk he (.inl rfl)⟩
    | succ k ih =>
      intro hk he
      by_cases h0 : l.getD k 0 = 0
      · obtain ⟨j, hj, e⟩ := ih (by omega) (by rw [← take_last (by omega) h0]; exact he)
        exact ⟨j, by omega, e⟩
      · exact ⟨k + 1, Nat.le_refl _, dg_take hd hk he (.inr (by simpa using h0))⟩
  obtain ⟨j, hj, e⟩ := this l.length (Nat.le_refl _) (by rw [List.take_length])
  rw [e]; exact h.take j hj
/-- How long the digits are that block b has. -/
def mslice (wr : World) (b : Nat) : Nat := match wr.cell? ⟨b, 1, none⟩ with | some (.slice _ n _) => n | _ => 0
theorem mslice_of {wr : World} {b n c : Nat} {a : Option Addr} (h : wr.cell? ⟨b, 1, none⟩ = some (.slice a n c)) : mslice wr b = n := by unfold mslice; rw [h]
set_option maxRecDepth 100000 in
set_option maxHeartbeats 1000000 in
theorem trim_any (s : Bool) (a : Option Addr) (cap : Nat) (l : List Nat) (w : World) (hd : Digs l) (hr : BigR w a cap l) :
    Calls Try.prog 82 #[.agg #[.bool s, .slice a l.length cap]] w fun e w' => e = .returned (.agg #[.bool (s && decide (0 < bv l)), .slice a (dg (bv l)).length cap]) ∧ Below w.heap.size w w' := by
  obtain ⟨h1, h2, h3⟩ := hr
  have HR := Lib.hid h3; clear h3
  have HD := Lib.hid hd; clear hd
  generalize hl : l.length = len at h1 HR ⊢
  have HL := Lib.hid hl; clear hl
  go_enter Try.func82, Try.ntmps82
  go_wp2_with fail
  go_loopw [3] (fun p wr => ∃ k : Nat, k ≤ len ∧ bv (l.take k) = bv l ∧ wr = (w.alloc (.cells #[.bool s, .slice a k cap] 162)).alloc (.cells #[.bool false, .slice none 0 0] 162)) (fun _ wr => mslice wr w.heap.size)
  case atStart => exact ⟨len, Nat.le_refl _, by rw [← HL.out, List.take_length], rfl⟩
  case round =>
    obtain ⟨k, hk, hbv, rfl⟩ := hrel
    have HB := Lib.hid hbv; clear hbv
    rcases k with _ | j
    · have e1 : dg (bv l) = [] := by rw [dg_take HD.out (k := 0) (by omega) HB.out (.inl rfl)]; simp
      have e2 : bv l = 0 := by rw [← HB.out]; simp [bv]
      have E1 := Lib.hid e1; have E2 := Lib.hid e2; clear e1 e2
      go_wp2_with fail
      refine bodyPost_ret (by simp [results, Try.results82, go_sem]; try rfl) rfl ?_
      exact ⟨by rw [E1.out, E2.out]; simp, by (repeat' (first | (with_reducible exact Below.refl _ _) | (with_reducible assumption) | (with_reducible refine below_from_drew ?_) | (with_reducible refine Below.alloc ?_ ?_ _) | (with_reducible refine Below.drew ?_) | (with_reducible refine below_drewN ?_ _) | (with_reducible refine Below.setCell ?_ ?_ _) | (with_reducible refine below_via ?_ (by assumption) ?_) | (with_reducible refine below_ov ?_ ?_ _ _) | go_size))⟩
    · obtain ⟨b, rfl, hb0, hcs⟩ := HR.out (by omega)
      have hcell := hcs j (by omega)
      clear hcs
      have h5 : (j : Int) < len := by omega
      have h6 : (j : Int) < cap := by omega
      by_cases h0 : l.getD j 0 = 0
      · rw [h0] at hcell
        have E := Lib.hid (take_last (l := l) (k := j) (by rw [HL.out]; omega) h0)
        clear h0
        go_wp2_with fail
        go_roundw
        case rel => exact ⟨j, by omega, by rw [← E.out]; exact HB.out, rfl⟩
        case measure => rw [mslice_of (has_cell (has_alloc (has_new rfl)) rfl), mslice_of (has_cell (has_alloc (has_new rfl)) rfl)]; omega
      · have hne : ((l.getD j 0 : Nat) == 0) = false := by simpa using h0
        have hne2 : (((l.getD j 0 : Nat) : Int) == 0) = false := by simp; simpa using h0
        have e1 := dg_take HD.out (k := j + 1) (by rw [HL.out]; omega) HB.out (.inr (by simpa using h0))
        have e2 : 0 < bv l := by
          rcases Nat.eq_zero_or_pos (bv l) with h | h
          · rw [h, dg_zero] at e1
            have := congrArg List.length e1
            rw [List.length_take, HL.out] at this
            simp at this; omega
          · exact h
        have e3 : (dg (bv l)).length = j + 1 := by rw [e1, List.length_take, HL.out]; omega
        have E2 := Lib.hid e2; have E3 := Lib.hid e3
        clear e1 e2 e3 h0
        generalize l.getD j 0 = x at *
        go_wp2_with fail
        refine bodyPost_ret (by simp [results, Try.results82, go_sem]; try rfl) rfl ?_
        exact ⟨by rw [E3.out]; simp [E2.out], by (repeat' (first | (with_reducible exact Below.refl _ _) | (with_reducible assumption) | (with_reducible refine below_from_drew ?_) | (with_reducible refine Below.alloc ?_ ?_ _) | (with_reducible refine Below.drew ?_) | (with_reducible refine below_drewN ?_ _) | (with_reducible refine Below.setCell ?_ ?_ _) | (with_reducible refine below_via ?_ (by assumption) ?_) | (with_reducible refine below_ov ?_ ?_ _ _) | go_size))⟩
set_option maxRecDepth 100000 in
set_option maxHeartbeats 1000000 in
theorem sizes_any (a b : Option Addr) (ca cb : Nat) (l m : List Nat) (w : World) (hl : Trim l) (hm : Trim m) (hrl : BigR w a ca l) (hrm : BigR w b cb m) :
    Calls Try.prog 83 #[.slice a l.length ca, .slice b m.length cb] w fun e w' => e = .returned (.int .i64 (cmpN (bv l) (bv m))) ∧ Below w.heap.size w w' := by
  obtain ⟨h1, h2, h3⟩ := hrl
  obtain ⟨g1, g2, g3⟩ := hrm
  have HA := Lib.hid h3; clear h3
  have HB := Lib.hid g3; clear g3
  have hlt := @cmp_len l m hl hm
  have hgt := @cmp_len m l hm hl
  have HL := Lib.hid hl; have HM := Lib.hid hm; clear hl hm
  generalize el : l.length = n at *
  generalize em : m.length = k at *
  have EL := Lib.hid el; have EM := Lib.hid em; clear el em
  have LT := Lib.hid hlt; have GT := Lib.hid hgt; clear hlt hgt
  by_cases c1 : n < k
  · have e : cmpN (bv l) (bv m) = -1 := by unfold cmpN; rw [if_pos (LT.out c1)]
    rw [e]; clear e
    have c2 : ((n : Int) == (k : Int)) = false := by simp; omega
    have c3 : ((n : Int) != (k : Int)) = true := by simp; omega
    have c4 : (n : Int) < k := by omega
    go_enter Try.func83, Try.ntmps83
    go_wp2_with fail
    go_ret
    exact ⟨rfl, by (repeat' (first | (with_reducible exact Below.refl _ _) | (with_reducible assumption) | (with_reducible refine below_from_drew ?_) | (with_reducible refine Below.alloc ?_ ?_ _) | (with_reducible refine Below.drew ?_) | (with_reducible refine below_drewN ?_ _) | (with_reducible refine Below.setCell ?_ ?_ _) | (with_reducible refine below_via ?_ (by assumption) ?_) | (with_reducible refine below_ov ?_ ?_ _ _) | go_size))⟩
  · by_cases c2 : k < n
    · have e : cmpN (bv l) (bv m) = 1 := by unfold cmpN; rw [if_neg (by have := GT.out c2; omega), if_pos (GT.out c2)]
      rw [e]; clear e
      have c3 : ((n : Int) == (k : Int)) = false := by simp; omega
      have c4 : ((n : Int) != (k : Int)) = true := by simp; omega
      have c5 : ¬ (n : Int) < k := by omega
      go_enter Try.func83, Try.ntmps83
      go_wp2_with fail
      go_ret
      exact ⟨rfl, by (repeat' (first | (with_reducible exact Below.refl _ _) | (with_reducible assumption) | (with_reducible refine below_from_drew ?_) | (with_reducible refine Below.alloc ?_ ?_ _) | (with_reducible refine Below.drew ?_) | (with_reducible refine below_drewN ?_ _) | (with_reducible refine Below.setCell ?_ ?_ _) | (with_reducible refine below_via ?_ (by assumption) ?_) | (with_reducible refine below_ov ?_ ?_ _ _) | go_size))⟩
    · obtain rfl : n = k := by omega
      clear c1 c2
      go_enter Try.func83, Try.ntmps83
      go_wp2_with fail
      go_loopw [5] (fun i wr => ∃ j : Nat, j ≤ n ∧ i = .int .i64 ((j : Int) - 1) ∧ bv (l.drop j) = bv (m.drop j) ∧ Below w.heap.size w wr) (fun i _ => (intOf i + 1).toNat)
      case atStart => exact ⟨n, Nat.le_refl _, rfl, by rw [List.drop_eq_nil_of_le (by rw [EL.out]; omega), List.drop_eq_nil_of_le (by rw [EM.out]; omega)], Below.refl _ _⟩
      case round =>
        obtain ⟨j, hj, rfl, he, hbw⟩ := hrel
        rcases j with _ | j
        · have e : cmpN (bv l) (bv m) = 0 := by
            simp only [List.drop_zero] at he
            unfold cmpN; rw [he]; simp
          have E := Lib.hid e; clear e he
          go_wp2_with fail
          go_ret
          exact ⟨ret_int E.out.symm, hbw⟩
        · obtain ⟨ba, rfl, hba, hca⟩ := HA.out (by omega)
          obtain ⟨bb, rfl, hbb, hcb⟩ := HB.out (by omega)
          have k1 := (hbw.cell (p := ⟨ba, j, none⟩) hba).trans (hca j (by omega))
          have k2 := (hbw.cell (p := ⟨bb, j, none⟩) hbb).trans (hcb j (by omega))
          clear hca hcb
          have hs := hbw.size
          have h5 : (j : Int) < n := by omega
          have hca' : ba < wr.heap.size := by omega
          have hcb' : bb < wr.heap.size := by omega
          have d1 := @cmp_digit l m j HL.out.1 (by rw [EL.out]; omega) (by rw [EL.out, EM.out]) he
          have d2 := @cmp_digit m l j HM.out.1 (by rw [EM.out]; omega) (by rw [EL.out, EM.out]) he.symm
          have d3 := @cmp_next l m j he
          have D1 := Lib.hid d1; have D2 := Lib.hid d2; have D3 := Lib.hid d3
          have HBW := Lib.hid hbw
          clear d1 d2 d3 he hbw
          have q1 := digs_get HL.out.1 j
          have q2 := digs_get HM.out.1 j
          generalize l.getD j 0 = x at *
          generalize m.getD j 0 = y at *
          have hx : x < y ∨ y < x ∨ x = y := by omega
          rcases hx with hx | hx | rfl
          · have E : Hid (cmpN (bv l) (bv m) = -1) := Lib.hid (by unfold cmpN; rw [if_pos (D1.out hx)])
            have e1 : ¬ y < x := by omega
            go_wp2_with fail
            refine region_ord [(0, 0), (1, 0), (2, 0), (3, 0), (4, 0), (5, 0), (6, 0), (7, 0), (8, 0)] (by kernel_rfl) (by kernel_rfl) (fun _ _ d _ _ h => by cases d <;> exact h) (fun hS => ?_)
            (refine wpG_read (v := ?_) rfl (.inl ⟨by rfl, fun wx hbx => ?_⟩) ?_; rotate_left; (focus (obtain ⟨cx0, fx0, zx0⟩ := bk hbx (ba) (by first | omega | (simp; done) | (simp; omega)); obtain ⟨cx1, fx1, zx1⟩ := bk hbx (bb) (by first | omega | (simp; done) | (simp; omega)); go_simp; (try go_bits); (try with_reducible rfl))); try simp only [Act.put, List.setIfInBounds_toArray, List.set_cons_zero, List.set_cons_succ])
            (refine wpG_read (v := ?_) rfl (.inl ⟨by rfl, fun wx hbx => ?_⟩) ?_; rotate_left; (focus (obtain ⟨cx0, fx0, zx0⟩ := bk hbx (ba) (by first | omega | (simp; done) | (simp; omega)); obtain ⟨cx1, fx1, zx1⟩ := bk hbx (bb) (by first | omega | (simp; done) | (simp; omega)); go_simp; (try go_bits); (try with_reducible rfl))); try simp only [Act.put, List.setIfInBounds_toArray, List.set_cons_zero, List.set_cons_succ])
            (refine wpG_read (v := ?_) rfl (.inl ⟨by rfl, fun wx hbx => ?_⟩) ?_; rotate_left; (focus (obtain ⟨cx0, fx0, zx0⟩ := bk hbx (ba) (by first | omega | (simp; done) | (simp; omega)); obtain ⟨cx1, fx1, zx1⟩ := bk hbx (bb) (by first | omega | (simp; done) | (simp; omega)); go_simp; (try go_bits); (try with_reducible rfl))); try simp only [Act.put, List.setIfInBounds_toArray, List.set_cons_zero, List.set_cons_succ])
            (refine wpG_read (v := ?_) rfl (.inl ⟨by rfl, fun wx hbx => ?_⟩) ?_; rotate_left; (focus (obtain ⟨cx0, fx0, zx0⟩ := bk hbx (ba) (by first | omega | (simp; done) | (simp; omega)); obtain ⟨cx1, fx1, zx1⟩ := bk hbx (bb) (by first | omega | (simp; done) | (simp; omega)); go_simp; (try go_bits); (try with_reducible rfl))); try simp only [Act.put, List.setIfInBounds_toArray, List.set_cons_zero, List.set_cons_succ])
            (refine wpG_read (v := ?_) rfl (.inl ⟨by rfl, fun wx hbx => ?_⟩) ?_; rotate_left; (focus (obtain ⟨cx0, fx0, zx0⟩ := bk hbx (ba) (by first | omega | (simp; done) | (simp; omega)); obtain ⟨cx1, fx1, zx1⟩ := bk hbx (bb) (by first | omega | (simp; done) | (simp; omega)); go_simp; (try go_bits); (try with_reducible rfl))); try simp only [Act.put, List.setIfInBounds_toArray, List.set_cons_zero, List.set_cons_succ])
            (refine wpG_read (v := ?_) rfl (.inl ⟨by rfl, fun wx hbx => ?_⟩) ?_; rotate_left; (focus (obtain ⟨cx0, fx0, zx0⟩ := bk hbx (ba) (by first | omega | (simp; done) | (simp; omega)); obtain ⟨cx1, fx1, zx1⟩ := bk hbx (bb) (by first | omega | (simp; done) | (simp; omega)); go_simp; (try go_bits); (try with_reducible rfl))); try simp only [Act.put, List.setIfInBounds_toArray, List.set_cons_zero, List.set_cons_succ])
            (refine wpG_read (v := ?_) rfl (.inl ⟨by rfl, fun wx hbx => ?_⟩) ?_; rotate_left; (focus (obtain ⟨cx0, fx0, zx0⟩ := bk hbx (ba) (by first | omega | (simp; done) | (simp; omega)); obtain ⟨cx1, fx1, zx1⟩ := bk hbx (bb) (by first | omega | (simp; done) | (simp; omega)); go_simp; (try go_bits); (try with_reducible rfl))); try simp only [Act.put, List.setIfInBounds_toArray, List.set_cons_zero, List.set_cons_succ])
            (refine wpG_read (v := ?_) rfl (.inl ⟨by rfl, fun wx hbx => ?_⟩) ?_; rotate_left; (focus (obtain ⟨cx0, fx0, zx0⟩ := bk hbx (ba) (by first | omega | (simp; done) | (simp; omega)); obtain ⟨cx1, fx1, zx1⟩ := bk hbx (bb) (by first | omega | (simp; done) | (simp; omega)); go_simp; (try go_bits); (try with_reducible rfl))); try simp only [Act.put, List.setIfInBounds_toArray, List.set_cons_zero, List.set_cons_succ])
            (refine wpG_read (v := ?_) rfl (.inl ⟨by rfl, fun wx hbx => ?_⟩) ?_; rotate_left; (focus (obtain ⟨cx0, fx0, zx0⟩ := bk hbx (ba) (by first | omega | (simp; done) | (simp; omega)); obtain ⟨cx1, fx1, zx1⟩ := bk hbx (bb) (by first | omega | (simp; done) | (simp; omega)); go_simp; (try go_bits); (try with_reducible rfl))); try simp only [Act.put, List.setIfInBounds_toArray, List.set_cons_zero, List.set_cons_succ])
            refine wpG_nil ?_
            go_wp2_with fail
            go_ret
            exact ⟨ret_int E.out.symm, by have hq := HBW.out; (repeat' (first | (with_reducible exact Below.refl _ _) | (with_reducible assumption) | (with_reducible refine below_from_drew ?_) | (with_reducible refine Below.alloc ?_ ?_ _) | (with_reducible refine Below.drew ?_) | (with_reducible refine below_drewN ?_ _) | (with_reducible refine Below.setCell ?_ ?_ _) | (with_reducible refine below_via ?_ (by assumption) ?_) | (with_reducible refine below_ov ?_ ?_ _ _) | go_size))⟩
          · have E : Hid (cmpN (bv l) (bv m) = 1) := Lib.hid (by unfold cmpN; rw [if_neg (by have := D2.out hx; omega), if_pos (D2.out hx)])
            have e1 : ¬ x < y := by omega
            go_wp2_with fail
            refine region_ord [(0, 0), (1, 0), (2, 0), (3, 0), (4, 0), (5, 0), (6, 0), (7, 0), (8, 0)] (by kernel_rfl) (by kernel_rfl) (fun _ _ d _ _ h => by cases d <;> exact h) (fun hS => ?_)
            (refine wpG_read (v := ?_) rfl (.inl ⟨by rfl, fun wx hbx => ?_⟩) ?_; rotate_left; (focus (obtain ⟨cx0, fx0, zx0⟩ := bk hbx (ba) (by first | omega | (simp; done) | (simp; omega)); obtain ⟨cx1, fx1, zx1⟩ := bk hbx (bb) (by first | omega | (simp; done) | (simp; omega)); go_simp; (try go_bits); (try with_reducible rfl))); try simp only [Act.put, List.setIfInBounds_toArray, List.set_cons_zero, List.set_cons_succ])
            (refine wpG_read (v := ?_) rfl (.inl ⟨by rfl, fun wx hbx => ?_⟩) ?_; rotate_left; (focus (obtain ⟨cx0, fx0, zx0⟩ := bk hbx (ba) (by first | omega | (simp; done) | (simp; omega)); obtain ⟨cx1, fx1, zx1⟩ := bk hbx (bb) (by first | omega | (simp; done) | (simp; omega)); go_simp; (try go_bits); (try with_reducible rfl))); try simp only [Act.put, List.setIfInBounds_toArray, List.set_cons_zero, List.set_cons_succ])
            (refine wpG_read (v := ?_) rfl (.inl ⟨by rfl, fun wx hbx => ?_⟩) ?_; rotate_left; (focus (obtain ⟨cx0, fx0, zx0⟩ := bk hbx (ba) (by first | omega | (simp; done) | (simp; omega)); obtain ⟨cx1, fx1, zx1⟩ := bk hbx (bb) (by first | omega | (simp; done) | (simp; omega)); go_simp; (try go_bits); (try with_reducible rfl))); try simp only [Act.put, List.setIfInBounds_toArray, List.set_cons_zero, List.set_cons_succ])
            (refine wpG_read (v := ?_) rfl (.inl ⟨by rfl, fun wx hbx => ?_⟩) ?_; rotate_left; (focus (obtain ⟨cx0, fx0, zx0⟩ := bk hbx (ba) (by first | omega | (simp; done) | (simp; omega)); obtain ⟨cx1, fx1, zx1⟩ := bk hbx (bb) (by first | omega | (simp; done) | (simp; omega)); go_simp; (try go_bits); (try with_reducible rfl))); try simp only [Act.put, List.setIfInBounds_toArray, List.set_cons_zero, List.set_cons_succ])
            (refine wpG_read (v := ?_) rfl (.inl ⟨by rfl, fun wx hbx => ?_⟩) ?_; rotate_left; (focus (obtain ⟨cx0, fx0, zx0⟩ := bk hbx (ba) (by first | omega | (simp; done) | (simp; omega)); obtain ⟨cx1, fx1, zx1⟩ := bk hbx (bb) (by first | omega | (simp; done) | (simp; omega)); go_simp; (try go_bits); (try with_reducible rfl))); try simp only [Act.put, List.setIfInBounds_toArray, List.set_cons_zero, List.set_cons_succ])
            (refine wpG_read (v := ?_) rfl (.inl ⟨by rfl, fun wx hbx => ?_⟩) ?_; rotate_left; (focus (obtain ⟨cx0, fx0, zx0⟩ := bk hbx (ba) (by first | omega | (simp; done) | (simp; omega)); obtain ⟨cx1, fx1, zx1⟩ := bk hbx (bb) (by first | omega | (simp; done) | (simp; omega)); go_simp; (try go_bits); (try with_reducible rfl))); try simp only [Act.put, List.setIfInBounds_toArray, List.set_cons_zero, List.set_cons_succ])
            (refine wpG_read (v := ?_) rfl (.inl ⟨by rfl, fun wx hbx => ?_⟩) ?_; rotate_left; (focus (obtain ⟨cx0, fx0, zx0⟩ := bk hbx (ba) (by first | omega | (simp; done) | (simp; omega)); obtain ⟨cx1, fx1, zx1⟩ := bk hbx (bb) (by first | omega | (simp; done) | (simp; omega)); go_simp; (try go_bits); (try with_reducible rfl))); try simp only [Act.put, List.setIfInBounds_toArray, List.set_cons_zero, List.set_cons_succ])
            (refine wpG_read (v := ?_) rfl (.inl ⟨by rfl, fun wx hbx => ?_⟩) ?_; rotate_left; (focus (obtain ⟨cx0, fx0, zx0⟩ := bk hbx (ba) (by first | omega | (simp; done) | (simp; omega)); obtain ⟨cx1, fx1, zx1⟩ := bk hbx (bb) (by first | omega | (simp; done) | (simp; omega)); go_simp; (try go_bits); (try with_reducible rfl))); try simp only [Act.put, List.setIfInBounds_toArray, List.set_cons_zero, List.set_cons_succ])
            (refine wpG_read (v := ?_) rfl (.inl ⟨by rfl, fun wx hbx => ?_⟩) ?_; rotate_left; (focus (obtain ⟨cx0, fx0, zx0⟩ := bk hbx (ba) (by first | omega | (simp; done) | (simp; omega)); obtain ⟨cx1, fx1, zx1⟩ := bk hbx (bb) (by first | omega | (simp; done) | (simp; omega)); go_simp; (try go_bits); (try with_reducible rfl))); try simp only [Act.put, List.setIfInBounds_toArray, List.set_cons_zero, List.set_cons_succ])
            refine wpG_nil ?_
            go_wp2_with fail
            refine region_ord [(0, 0), (1, 0), (2, 0), (3, 0), (4, 0), (5, 0), (6, 0), (7, 0), (8, 0)] (by kernel_rfl) (by kernel_rfl) (fun _ _ d _ _ h => by cases d <;> exact h) (fun hS => ?_)
            (refine wpG_read (v := ?_) rfl (.inl ⟨by rfl, fun wx hbx => ?_⟩) ?_; rotate_left; (focus (obtain ⟨cx0, fx0, zx0⟩ := bk hbx (ba) (by first | omega | (simp; done) | (simp; omega)); obtain ⟨cx1, fx1, zx1⟩ := bk hbx (bb) (by first | omega | (simp; done) | (simp; omega)); go_simp; (try go_bits); (try with_reducible rfl))); try simp only [Act.put, List.setIfInBounds_toArray, List.set_cons_zero, List.set_cons_succ])
            (refine wpG_read (v := ?_) rfl (.inl ⟨by rfl, fun wx hbx => ?_⟩) ?_; rotate_left; (focus (obtain ⟨cx0, fx0, zx0⟩ := bk hbx (ba) (by first | omega | (simp; done) | (simp; omega)); obtain ⟨cx1, fx1, zx1⟩ := bk hbx (bb) (by first | omega | (simp; done) | (simp; omega)); go_simp; (try go_bits); (try with_reducible rfl))); try simp only [Act.put, List.setIfInBounds_toArray, List.set_cons_zero, List.set_cons_succ])
            (refine wpG_read (v := ?_) rfl (.inl ⟨by rfl, fun wx hbx => ?_⟩) ?_; rotate_left; (focus (obtain ⟨cx0, fx0, zx0⟩ := bk hbx (ba) (by first | omega | (simp; done) | (simp; omega)); obtain ⟨cx1, fx1, zx1⟩ := bk hbx (bb) (by first | omega | (simp; done) | (simp; omega)); go_simp; (try go_bits); (try with_reducible rfl))); try simp only [Act.put, List.setIfInBounds_toArray, List.set_cons_zero, List.set_cons_succ])
            (refine wpG_read (v := ?_) rfl (.inl ⟨by rfl, fun wx hbx => ?_⟩) ?_; rotate_left; (focus (obtain ⟨cx0, fx0, zx0⟩ := bk hbx (ba) (by first | omega | (simp; done) | (simp; omega)); obtain ⟨cx1, fx1, zx1⟩ := bk hbx (bb) (by first | omega | (simp; done) | (simp; omega)); go_simp; (try go_bits); (try with_reducible rfl))); try simp only [Act.put, List.setIfInBounds_toArray, List.set_cons_zero, List.set_cons_succ])
            (refine wpG_read (v := ?_) rfl (.inl ⟨by rfl, fun wx hbx => ?_⟩) ?_; rotate_left; (focus (obtain ⟨cx0, fx0, zx0⟩ := bk hbx (ba) (by first | omega | (simp; done) | (simp; omega)); obtain ⟨cx1, fx1, zx1⟩ := bk hbx (bb) (by first | omega | (simp; done) | (simp; omega)); go_simp; (try go_bits); (try with_reducible rfl))); try simp only [Act.put, List.setIfInBounds_toArray, List.set_cons_zero, List.set_cons_succ])
            (refine wpG_read (v := ?_) rfl (.inl ⟨by rfl, fun wx hbx => ?_⟩) ?_; rotate_left; (focus (obtain ⟨cx0, fx0, zx0⟩ := bk hbx (ba) (by first | omega | (simp; done) | (simp; omega)); obtain ⟨cx1, fx1, zx1⟩ := bk hbx (bb) (by first | omega | (simp; done) | (simp; omega)); go_simp; (try go_bits); (try with_reducible rfl))); try simp only [Act.put, List.setIfInBounds_toArray, List.set_cons_zero, List.set_cons_succ])
            (refine wpG_read (v := ?_) rfl (.inl ⟨by rfl, fun wx hbx => ?_⟩) ?_; rotate_left; (focus (obtain ⟨cx0, fx0, zx0⟩ := bk hbx (ba) (by first | omega | (simp; done) | (simp; omega)); obtain ⟨cx1, fx1, zx1⟩ := bk hbx (bb) (by first | omega | (simp; done) | (simp; omega)); go_simp; (try go_bits); (try with_reducible rfl))); try simp only [Act.put, List.setIfInBounds_toArray, List.set_cons_zero, List.set_cons_succ])
            (refine wpG_read (v := ?_) rfl (.inl ⟨by rfl, fun wx hbx => ?_⟩) ?_; rotate_left; (focus (obtain ⟨cx0, fx0, zx0⟩ := bk hbx (ba) (by first | omega | (simp; done) | (simp; omega)); obtain ⟨cx1, fx1, zx1⟩ := bk hbx (bb) (by first | omega | (simp; done) | (simp; omega)); go_simp; (try go_bits); (try with_reducible rfl))); try simp only [Act.put, List.setIfInBounds_toArray, List.set_cons_zero, List.set_cons_succ])
            (refine wpG_read (v := ?_) rfl (.inl ⟨by rfl, fun wx hbx => ?_⟩) ?_; rotate_left; (focus (obtain ⟨cx0, fx0, zx0⟩ := bk hbx (ba) (by first | omega | (simp; done) | (simp; omega)); obtain ⟨cx1, fx1, zx1⟩ := bk hbx (bb) (by first | omega | (simp; done) | (simp; omega)); go_simp; (try go_bits); (try with_reducible rfl))); try simp only [Act.put, List.setIfInBounds_toArray, List.set_cons_zero, List.set_cons_succ])
            refine wpG_nil ?_
            go_wp2_with fail
            go_ret
            exact ⟨ret_int E.out.symm, by have hq := HBW.out; (repeat' (first | (with_reducible exact Below.refl _ _) | (with_reducible assumption) | (with_reducible refine below_from_drew ?_) | (with_reducible refine Below.alloc ?_ ?_ _) | (with_reducible refine Below.drew ?_) | (with_reducible refine below_drewN ?_ _) | (with_reducible refine Below.setCell ?_ ?_ _) | (with_reducible refine below_via ?_ (by assumption) ?_) | (with_reducible refine below_ov ?_ ?_ _ _) | go_size))⟩
          · have e1 : ¬ x < x := by omega
            go_wp2_with fail
            refine region_ord [(0, 0), (1, 0), (2, 0), (3, 0), (4, 0), (5, 0), (6, 0), (7, 0), (8, 0)] (by kernel_rfl) (by kernel_rfl) (fun _ _ d _ _ h => by cases d <;> exact h) (fun hS => ?_)
            (refine wpG_read (v := ?_) rfl (.inl ⟨by rfl, fun wx hbx => ?_⟩) ?_; rotate_left; (focus (obtain ⟨cx0, fx0, zx0⟩ := bk hbx (ba) (by first | omega | (simp; done) | (simp; omega)); obtain ⟨cx1, fx1, zx1⟩ := bk hbx (bb) (by first | omega | (simp; done) | (simp; omega)); go_simp; (try go_bits); (try with_reducible rfl))); try simp only [Act.put, List.setIfInBounds_toArray, List.set_cons_zero, List.set_cons_succ])
            (refine wpG_read (v := ?_) rfl (.inl ⟨by rfl, fun wx hbx => ?_⟩) ?_; rotate_left; (focus (obtain ⟨cx0, fx0, zx0⟩ := bk hbx (ba) (by first | omega | (simp; done) | (simp; omega)); obtain ⟨cx1, fx1, zx1⟩ := bk hbx (bb) (by first | omega | (simp; done) | (simp; omega)); go_simp; (try go_bits); (try with_reducible rfl))); try simp only [Act.put, List.setIfInBounds_toArray, List.set_cons_zero, List.set_cons_succ])
            (refine wpG_read (v := ?_) rfl (.inl ⟨by rfl, fun wx hbx => ?_⟩) ?_; rotate_left; (focus (obtain ⟨cx0, fx0, zx0⟩ := bk hbx (ba) (by first | omega | (simp; done) | (simp; omega)); obtain ⟨cx1, fx1, zx1⟩ := bk hbx (bb) (by first | omega | (simp; done) | (simp; omega)); go_simp; (try go_bits); (try with_reducible rfl))); try simp only [Act.put, List.setIfInBounds_toArray, List.set_cons_zero, List.set_cons_succ])
            (refine wpG_read (v := ?_) rfl (.inl ⟨by rfl, fun wx hbx => ?_⟩) ?_; rotate_left; (focus (obtain ⟨cx0, fx0, zx0⟩ := bk hbx (ba) (by first | omega | (simp; done) | (simp; omega)); obtain ⟨cx1, fx1, zx1⟩ := bk hbx (bb) (by first | omega | (simp; done) | (simp; omega)); go_simp; (try go_bits); (try with_reducible rfl))); try simp only [Act.put, List.setIfInBounds_toArray, List.set_cons_zero, List.set_cons_succ])
            (refine wpG_read (v := ?_) rfl (.inl ⟨by rfl, fun wx hbx => ?_⟩) ?_; rotate_left; (focus (obtain ⟨cx0, fx0, zx0⟩ := bk hbx (ba) (by first | omega | (simp; done) | (simp; omega)); obtain ⟨cx1, fx1, zx1⟩ := bk hbx (bb) (by first | omega | (simp; done) | (simp; omega)); go_simp; (try go_bits); (try with_reducible rfl))); try simp only [Act.put, List.setIfInBounds_toArray, List.set_cons_zero, List.set_cons_succ])
            (refine wpG_read (v := ?_) rfl (.inl ⟨by rfl, fun wx hbx => ?_⟩) ?_; rotate_left; (focus (obtain ⟨cx0, fx0, zx0⟩ := bk hbx (ba) (by first | omega | (simp; done) | (simp; omega)); obtain ⟨cx1, fx1, zx1⟩ := bk hbx (bb) (by first | omega | (simp; done) | (simp; omega)); go_simp; (try go_bits); (try with_reducible rfl))); try simp only [Act.put, List.setIfInBounds_toArray, List.set_cons_zero, List.set_cons_succ])
            (refine wpG_read (v := ?_) rfl (.inl ⟨by rfl, fun wx hbx => ?_⟩) ?_; rotate_left; (focus (obtain ⟨cx0, fx0, zx0⟩ := bk hbx (ba) (by first | omega | (simp; done) | (simp; omega)); obtain ⟨cx1, fx1, zx1⟩ := bk hbx (bb) (by first | omega | (simp; done) | (simp; omega)); go_simp; (try go_bits); (try with_reducible rfl))); try simp only [Act.put, List.setIfInBounds_toArray, List.set_cons_zero, List.set_cons_succ])
            (refine wpG_read (v := ?_) rfl (.inl ⟨by rfl, fun wx hbx => ?_⟩) ?_; rotate_left; (focus (obtain ⟨cx0, fx0, zx0⟩ := bk hbx (ba) (by first | omega | (simp; done) | (simp; omega)); obtain ⟨cx1, fx1, zx1⟩ := bk hbx (bb) (by first | omega | (simp; done) | (simp; omega)); go_simp; (try go_bits); (try with_reducible rfl))); try simp only [Act.put, List.setIfInBounds_toArray, List.set_cons_zero, List.set_cons_succ])
            (refine wpG_read (v := ?_) rfl (.inl ⟨by rfl, fun wx hbx => ?_⟩) ?_; rotate_left; (focus (obtain ⟨cx0, fx0, zx0⟩ := bk hbx (ba) (by first | omega | (simp; done) | (simp; omega)); obtain ⟨cx1, fx1, zx1⟩ := bk hbx (bb) (by first | omega | (simp; done) | (simp; omega)); go_simp; (try go_bits); (try with_reducible rfl))); try simp only [Act.put, List.setIfInBounds_toArray, List.set_cons_zero, List.set_cons_succ])
            refine wpG_nil ?_
            go_wp2_with fail
            refine region_ord [(0, 0), (1, 0), (2, 0), (3, 0), (4, 0), (5, 0), (6, 0), (7, 0), (8, 0)] (by kernel_rfl) (by kernel_rfl) (fun _ _ d _ _ h => by cases d <;> exact h) (fun hS => ?_)
            (refine wpG_read (v := ?_) rfl (.inl ⟨by rfl, fun wx hbx => ?_⟩) ?_; rotate_left; (focus (obtain ⟨cx0, fx0, zx0⟩ := bk hbx (ba) (by first | omega | (simp; done) | (simp; omega)); obtain ⟨cx1, fx1, zx1⟩ := bk hbx (bb) (by first | omega | (simp; done) | (simp; omega)); go_simp; (try go_bits); (try with_reducible rfl))); try simp only [Act.put, List.setIfInBounds_toArray, List.set_cons_zero, List.set_cons_succ])
            (refine wpG_read (v := ?_) rfl (.inl ⟨by rfl, fun wx hbx => ?_⟩) ?_; rotate_left; (focus (obtain ⟨cx0, fx0, zx0⟩ := bk hbx (ba) (by first | omega | (simp; done) | (simp; omega)); obtain ⟨cx1, fx1, zx1⟩ := bk hbx (bb) (by first | omega | (simp; done) | (simp; omega)); go_simp; (try go_bits); (try with_reducible rfl))); try simp only [Act.put, List.setIfInBounds_toArray, List.set_cons_zero, List.set_cons_succ])
            (refine wpG_read (v := ?_) rfl (.inl ⟨by rfl, fun wx hbx => ?_⟩) ?_; rotate_left; (focus (obtain ⟨cx0, fx0, zx0⟩ := bk hbx (ba) (by first | omega | (simp; done) | (simp; omega)); obtain ⟨cx1, fx1, zx1⟩ := bk hbx (bb) (by first | omega | (simp; done) | (simp; omega)); go_simp; (try go_bits); (try with_reducible rfl))); try simp only [Act.put, List.setIfInBounds_toArray, List.set_cons_zero, List.set_cons_succ])
            (refine wpG_read (v := ?_) rfl (.inl ⟨by rfl, fun wx hbx => ?_⟩) ?_; rotate_left; (focus (obtain ⟨cx0, fx0, zx0⟩ := bk hbx (ba) (by first | omega | (simp; done) | (simp; omega)); obtain ⟨cx1, fx1, zx1⟩ := bk hbx (bb) (by first | omega | (simp; done) | (simp; omega)); go_simp; (try go_bits); (try with_reducible rfl))); try simp only [Act.put, List.setIfInBounds_toArray, List.set_cons_zero, List.set_cons_succ])
            (refine wpG_read (v := ?_) rfl (.inl ⟨by rfl, fun wx hbx => ?_⟩) ?_; rotate_left; (focus (obtain ⟨cx0, fx0, zx0⟩ := bk hbx (ba) (by first | omega | (simp; done) | (simp; omega)); obtain ⟨cx1, fx1, zx1⟩ := bk hbx (bb) (by first | omega | (simp; done) | (simp; omega)); go_simp; (try go_bits); (try with_reducible rfl))); try simp only [Act.put, List.setIfInBounds_toArray, List.set_cons_zero, List.set_cons_succ])
            (refine wpG_read (v := ?_) rfl (.inl ⟨by rfl, fun wx hbx => ?_⟩) ?_; rotate_left; (focus (obtain ⟨cx0, fx0, zx0⟩ := bk hbx (ba) (by first | omega | (simp; done) | (simp; omega)); obtain ⟨cx1, fx1, zx1⟩ := bk hbx (bb) (by first | omega | (simp; done) | (simp; omega)); go_simp; (try go_bits); (try with_reducible rfl))); try simp only [Act.put, List.setIfInBounds_toArray, List.set_cons_zero, List.set_cons_succ])
            (refine wpG_read (v := ?_) rfl (.inl ⟨by rfl, fun wx hbx => ?_⟩) ?_; rotate_left; (focus (obtain ⟨cx0, fx0, zx0⟩ := bk hbx (ba) (by first | omega | (simp; done) | (simp; omega)); obtain ⟨cx1, fx1, zx1⟩ := bk hbx (bb) (by first | omega | (simp; done) | (simp; omega)); go_simp; (try go_bits); (try with_reducible rfl))); try simp only [Act.put, List.setIfInBounds_toArray, List.set_cons_zero, List.set_cons_succ])
            (refine wpG_read (v := ?_) rfl (.inl ⟨by rfl, fun wx hbx => ?_⟩) ?_; rotate_left; (focus (obtain ⟨cx0, fx0, zx0⟩ := bk hbx (ba) (by first | omega | (simp; done) | (simp; omega)); obtain ⟨cx1, fx1, zx1⟩ := bk hbx (bb) (by first | omega | (simp; done) | (simp; omega)); go_simp; (try go_bits); (try with_reducible rfl))); try simp only [Act.put, List.setIfInBounds_toArray, List.set_cons_zero, List.set_cons_succ])
            (refine wpG_read (v := ?_) rfl (.inl ⟨by rfl, fun wx hbx => ?_⟩) ?_; rotate_left; (focus (obtain ⟨cx0, fx0, zx0⟩ := bk hbx (ba) (by first | omega | (simp; done) | (simp; omega)); obtain ⟨cx1, fx1, zx1⟩ := bk hbx (bb) (by first | omega | (simp; done) | (simp; omega)); go_simp; (try go_bits); (try with_reducible rfl))); try simp only [Act.put, List.setIfInBounds_toArray, List.set_cons_zero, List.set_cons_succ])
            refine wpG_nil ?_
            go_wp2_with fail
            go_roundw
            case rel => exact ⟨j, by omega, by go_num, D3.out trivial, by have hq := HBW.out; (repeat' (first | (with_reducible exact Below.refl _ _) | (with_reducible assumption) | (with_reducible refine below_from_drew ?_) | (with_reducible refine Below.alloc ?_ ?_ _) | (with_reducible refine Below.drew ?_) | (with_reducible refine below_drewN ?_ _) | (with_reducible refine Below.setCell ?_ ?_ _) | (with_reducible refine below_via ?_ (by assumption) ?_) | (with_reducible refine below_ov ?_ ?_ _ _) | go_size))⟩
            case measure => simp [intOf]
/-- An owned row does not hang on blocks below its base. -/
theorem row_out {u : World} {b base size n : Nat} {cs : Array Value} {T e : TypeId} {v : Value} {xs : List Value} (h : (ov u b cs T).ownsRow base e size v n xs) (hb : b < base) : u.ownsRow base e size v n xs := by
  refine ⟨h.1, ?_⟩
  rcases h.2 with hn | ⟨g, cap, cur, rfl, hg, hgg, rest⟩
  · exact .inl hn
  · refine .inr ⟨g, cap, cur, rfl, hg, ?_, rest⟩
    rw [← hgg]
    exact (Array.getElem?_setIfInBounds_ne (by omega)).symm
theorem news_at {w : World} {b : Nat} {cs : List Value} {T : TypeId} (h : w.heap.size = b) : ∀ j u, cs[j]? = some u → (w.alloc (.cells cs.toArray T)).cell? ((⟨b, 0, none⟩ : Addr).add j) = some u := by
  subst h; exact news_new
/-- The block of an owned row, and another one. -/
theorem row_out_ne {u : World} {b base size n cap : Nat} {e : TypeId} {al : Option Addr} {xs : List Value} (h : u.ownsRow base e size (.slice al n cap) n xs) (hb : b < base) : al.map (·.block) ≠ some b := by
  intro he
  cases al with
  | none => cases he
  | some x => have := row_block h x.block rfl; simp at he; omega
theorem BigR.ov {u : World} {a : Option Addr} {cap b : Nat} {l : List Nat} {cs : Array Value} {T : TypeId} (h : BigR u a cap l) (hb : a.map (·.block) ≠ some b) : BigR (ov u b cs T) a cap l := by
  obtain ⟨h1, h2, h3⟩ := h
  refine ⟨h1, h2, fun h0 => ?_⟩
  obtain ⟨g, rfl, hl, hc⟩ := h3 h0
  refine ⟨g, rfl, by rw [ov_size]; exact hl, fun i hi => ?_⟩
  rw [ov_cell_other (by intro e; apply hb; simp at e; simp [e])]
  exact hc i hi
theorem row_in {u : World} {b base size n : Nat} {cs : Array Value} {T e : TypeId} {v : Value} {xs : List Value} (h : u.ownsRow base e size v n xs) (hb : b < base) : (ov u b cs T).ownsRow base e size v n xs := by
  refine ⟨h.1, ?_⟩
  rcases h.2 with hn | ⟨g, cap, cur, rfl, hg, hgg, rest⟩
  · exact .inl hn
  · refine .inr ⟨g, cap, cur, rfl, hg, ?_, rest⟩
    rw [← hgg]
    exact Array.getElem?_setIfInBounds_ne (by omega)
theorem info64u : (Try.prog.info? 166).map (fun i => (i.zero, i.size, i.bytes)) = some (some (.int .u64 0), 1, 8) := by kernel_rfl
/-- Digits as cells. -/
def dvals (l : List Nat) : List Value := l.map fun d : Nat => Value.int .u64 (d : Int)
theorem dvals_snoc (l : List Nat) (d : Nat) : dvals (l ++ [d]) = dvals l ++ [.int .u64 (d : Int)] := by simp [dvals]
theorem dvals_get {l : List Nat} {i : Nat} (hi : i < l.length) : (dvals l)[i]? = some (.int .u64 (l.getD i 0)) := by
  unfold dvals
  rw [List.getElem?_map, List.getD_eq_getElem?_getD, List.getElem?_eq_getElem hi]
  rfl
/-- An owned row of digits reads as digits. -/
theorem bigR_row {w : World} {base : Nat} {v : Value} {l : List Nat} {e : TypeId} (h : w.ownsRow base e 1 v l.length (dvals l)) : ∃ a cap, v = .slice a l.length cap ∧ BigR w a cap l := by
  obtain ⟨a, cap, hv, hn, hc, hr⟩ := row_reads h
  refine ⟨a, cap, hv, hn, hc, fun h0 => ?_⟩
  obtain ⟨g, ha, hb, hg, hcs⟩ := hr h0
  refine ⟨g, ha, hg, fun i hi => hcs i _ (dvals_get hi)⟩
/-- The digits so far. -/
theorem dg_snoc_step {n k : Nat} (h : k < (dg n).length) : 0 < n / 65536 ^ k := by
  rcases Nat.eq_zero_or_pos (n / 65536 ^ k) with h0 | h0
  · have h1 : n < 65536 ^ k := (Nat.div_eq_zero_iff_lt (Nat.pos_of_ne_zero (by simp))).1 h0
    have := dg_len_le h1
    omega
  · exact h0
/-- A number, digit by digit. -/
def OfAt (n : Nat) (o : List Nat) (x : Nat) : Prop := Digs o ∧ bv o + 65536 ^ o.length * x = n ∧ (x = 0 → o = [] ∨ o.getLast? ≠ some 0)
theorem of_zero (n : Nat) : OfAt n [] n := ⟨fun d hd => (by cases hd), by simp [bv], fun _ => .inl rfl⟩
theorem of_next {n x : Nat} {o : List Nat} (h : OfAt n o x) (hx : 0 < x) : OfAt n (o ++ [x % 65536]) (x / 65536) := by
  obtain ⟨h1, h2, h3⟩ := h
  refine ⟨digs_snoc h1 (by omega), ?_, fun h0 => .inr (by simp; omega)⟩
  rw [bv_snoc, List.length_append, List.length_singleton, Nat.pow_succ, Nat.mul_assoc, Nat.add_assoc, ← Nat.mul_add]
  rw [show x % 65536 + 65536 * (x / 65536) = x by omega]
  exact h2
theorem of_end {n : Nat} {o : List Nat} (h : OfAt n o 0) : o = dg n := by
  obtain ⟨h1, h2, h3⟩ := h
  simp at h2
  rw [← h2]
  exact (dg_of ⟨h1, h3 rfl⟩).symm
theorem of_len {n x k : Nat} {o : List Nat} (h : OfAt n o x) (hx : 0 < x) (hn : n < 65536 ^ k) : o.length < k := by
  obtain ⟨h1, h2, h3⟩ := h
  rcases Nat.lt_or_ge o.length k with h' | h'
  · exact h'
  · have h4 : 65536 ^ k ≤ 65536 ^ o.length := Nat.pow_le_pow_right (by omega) h'
    have h5 : 65536 ^ o.length * 1 ≤ 65536 ^ o.length * x := Nat.mul_le_mul_left _ hx
    omega
set_option maxRecDepth 100000 in
set_option maxHeartbeats 1000000 in
theorem ofU_any (n : Nat) (w : World) (hn : n < 18446744073709551616) :
    Calls Try.prog 71 #[.int .u64 (n : Int)] w fun e w' => ∃ a cap, e = .returned (.agg #[.bool false, .slice a (dg n).length cap]) ∧ BigR w' a cap (dg n) ∧ Below w.heap.size w w' := by
  obtain ⟨i0, hi, hz0, hz1, hz2⟩ := info_parts info64u
  go_enter Try.func71, Try.ntmps71
  go_wp2_with fail
  go_loopw [0] (fun x wr => ∃ (m : Nat) (o : List Nat) (v : Value), OfAt n o m ∧ m ≤ n ∧ x = .int .u64 (m : Int) ∧ Below w.heap.size w wr ∧ Has wr w.heap.size #[.bool false, .slice none 0 0] 162 ∧ Has wr (w.heap.size + 1) #[.bool false, v] 162 ∧ wr.ownsRow (w.heap.size + 1 + 1) 166 1 v o.length (dvals o)) (fun x _ => (intOf x).toNat)
  case atStart => exact ⟨n, [], _, of_zero n, Nat.le_refl _, rfl, by (repeat' (first | (with_reducible exact Below.refl _ _) | (with_reducible assumption) | (with_reducible refine below_from_drew ?_) | (with_reducible refine Below.alloc ?_ ?_ _) | (with_reducible refine Below.drew ?_) | (with_reducible refine below_drewN ?_ _) | (with_reducible refine Below.setCell ?_ ?_ _) | (with_reducible refine below_via ?_ (by assumption) ?_) | (with_reducible refine below_ov ?_ ?_ _ _) | go_size)), by (repeat' (first | (with_reducible refine has_drew ?_) | (with_reducible refine has_drewN ?_) | (with_reducible refine has_new ?_; (first | (with_reducible rfl) | omega | (simp; done) | (simp; omega))) | (with_reducible refine has_ov_same ?_; (first | (with_reducible rfl) | omega | (simp; done) | (simp; omega))) | (with_reducible refine has_alloc ?_) | (with_reducible refine has_ov_other ?_ ?_; (focus (first | (with_reducible rfl) | omega | (simp; done) | (simp; omega)))) | (with_reducible assumption) | (with_reducible exact has_below hB (by assumption)))), by (repeat' (first | (with_reducible refine has_drew ?_) | (with_reducible refine has_drewN ?_) | (with_reducible refine has_new ?_; (first | (with_reducible rfl) | omega | (simp; done) | (simp; omega))) | (with_reducible refine has_ov_same ?_; (first | (with_reducible rfl) | omega | (simp; done) | (simp; omega))) | (with_reducible refine has_alloc ?_) | (with_reducible refine has_ov_other ?_ ?_; (focus (first | (with_reducible rfl) | omega | (simp; done) | (simp; omega)))) | (with_reducible assumption) | (with_reducible exact has_below hB (by assumption)))), World.ownsRow_nil _ _ _ _⟩
  case round =>
    obtain ⟨m, o, v, hof, hmn, rfl, hbw, hh0, hh1, hown⟩ := hrel
    obtain ⟨u, rfl, hBu, hzu, z0, o0, z1, o1⟩ := after2 (w := w) (W := wr) (w1 := wr) (Below.refl _ _) hbw hh0 hh1
    have hown2 := row_out (row_out hown (by omega)) (by omega)
    obtain ⟨al, cap, rfl, hrd⟩ := bigR_row hown2
    have HOWN := Lib.hid hown; have HOWN2 := Lib.hid hown2; have HOF := Lib.hid hof; have HRD := Lib.hid hrd
    clear hown hown2 hof hbw hh0 hh1 hrd
    simp only [ov_size] at hzu
    rcases Nat.eq_zero_or_pos m with rfl | hm
    · have e := of_end HOF.out
      have E := Lib.hid e; clear e
      go_wp2_with fail
      refine bodyPost_ret (by simp [results, Try.results71, go_sem, z0, z1]; try rfl) rfl ?_
      exact ⟨al, cap, by rw [← E.out], by rw [← E.out]; exact (HRD.out.ov (row_out_ne HOWN2.out (by omega))).ov (row_out_ne HOWN2.out (by omega)), by (repeat' (first | (with_reducible exact Below.refl _ _) | (with_reducible assumption) | (with_reducible refine below_from_drew ?_) | (with_reducible refine Below.alloc ?_ ?_ _) | (with_reducible refine Below.drew ?_) | (with_reducible refine below_drewN ?_ _) | (with_reducible refine Below.setCell ?_ ?_ _) | (with_reducible refine below_via ?_ (by assumption) ?_) | (with_reducible refine below_ov ?_ ?_ _ _) | go_size))⟩
    · have hm2 : (0 : Int) < (m : Int) := by omega
      have hm3 : (m : Int) ≤ 18446744073709551615 := by omega
      have hlen := of_len (k := 4) HOF.out hm (by simpa using hn)
      go_wp2_with (at_builtin; refine wpList_append_own _ rfl _ _ 160 rfl (w.heap.size + 1 + 1) 166 i0 (.int .u64 0) 1 8 Try.underlying160 hi hz0 hz1 hz2 rfl (by decide) _ _ _ rfl (HOWN.out.alloc _) ⟨u.heap.size, 0, none⟩ 1 1 [.int .u64 ((m : Int) % 65536)] rfl rfl ?c1 ?c2 ?c3 ?c4 ?c5 ?_)
      case c1 => exact news_at (by simp only [ov_size])
      case c2 => exact one_of rfl
      case c3 => unfold maxLen; omega
      case c4 => omega
      case c5 => simp; omega
      intro v' w1 hown' hgrow hnil
      clear hnil
      have hne : ∀ bb, bb < w.heap.size + 1 + 1 → (Value.slice al o.length cap).ownBlock ≠ some bb := fun bb h => row_ne HOWN.out h
      have g0 := has_grown hgrow (b := w.heap.size) (cs := #[.bool false, .slice none 0 0]) (T := 162) (by (repeat' (first | (with_reducible refine has_drew ?_) | (with_reducible refine has_drewN ?_) | (with_reducible refine has_new ?_; (first | (with_reducible rfl) | omega | (simp; done) | (simp; omega))) | (with_reducible refine has_ov_same ?_; (first | (with_reducible rfl) | omega | (simp; done) | (simp; omega))) | (with_reducible refine has_alloc ?_) | (with_reducible refine has_ov_other ?_ ?_; (focus (first | (with_reducible rfl) | omega | (simp; done) | (simp; omega)))) | (with_reducible assumption) | (with_reducible exact has_below hB (by assumption))))) (hne _ (by omega))
      have g1 := has_grown hgrow (b := w.heap.size + 1) (cs := #[.bool false, .slice al o.length cap]) (T := 162) (by (repeat' (first | (with_reducible refine has_drew ?_) | (with_reducible refine has_drewN ?_) | (with_reducible refine has_new ?_; (first | (with_reducible rfl) | omega | (simp; done) | (simp; omega))) | (with_reducible refine has_ov_same ?_; (first | (with_reducible rfl) | omega | (simp; done) | (simp; omega))) | (with_reducible refine has_alloc ?_) | (with_reducible refine has_ov_other ?_ ?_; (focus (first | (with_reducible rfl) | omega | (simp; done) | (simp; omega)))) | (with_reducible assumption) | (with_reducible exact has_below hB (by assumption))))) (hne _ (by omega))
      have hB1 : Below w.heap.size w w1 := Below.grown (by (repeat' (first | (with_reducible exact Below.refl _ _) | (with_reducible assumption) | (with_reducible refine below_from_drew ?_) | (with_reducible refine Below.alloc ?_ ?_ _) | (with_reducible refine Below.drew ?_) | (with_reducible refine below_drewN ?_ _) | (with_reducible refine Below.setCell ?_ ?_ _) | (with_reducible refine below_via ?_ (by assumption) ?_) | (with_reducible refine below_ov ?_ ?_ _ _) | go_size))) hgrow (by simp; omega) (fun bb h => by have := row_block HOWN.out bb h; omega)
      obtain ⟨u1, rfl, hBu1, hzu1, y0, p0, y1, p1⟩ := after2 (w := w) (W := w1) (w1 := w1) (Below.refl _ _) hB1 g0 g1
      have hown1 := row_out (row_out hown' (by omega)) (by omega)
      have HO := Lib.hid hown1; clear hown1 hown' hgrow hne g0 g1 hB1 hzu1
      obtain ⟨a2, c2, rfl, hr2⟩ := bigR_row (l := o ++ [m % 65536]) (by rw [List.length_append, dvals_snoc]; exact HO.out)
      clear hr2
      go_wp2_with fail
      go_roundw
      case rel => exact ⟨m / 65536, o ++ [m % 65536], _, of_next HOF.out hm, by omega, by go_num, by (repeat' (first | (with_reducible exact Below.refl _ _) | (with_reducible assumption) | (with_reducible refine below_from_drew ?_) | (with_reducible refine Below.alloc ?_ ?_ _) | (with_reducible refine Below.drew ?_) | (with_reducible refine below_drewN ?_ _) | (with_reducible refine Below.setCell ?_ ?_ _) | (with_reducible refine below_via ?_ (by assumption) ?_) | (with_reducible refine below_ov ?_ ?_ _ _) | go_size)), by (repeat' (first | (with_reducible refine has_drew ?_) | (with_reducible refine has_drewN ?_) | (with_reducible refine has_new ?_; (first | (with_reducible rfl) | omega | (simp; done) | (simp; omega))) | (with_reducible refine has_ov_same ?_; (first | (with_reducible rfl) | omega | (simp; done) | (simp; omega))) | (with_reducible refine has_alloc ?_) | (with_reducible refine has_ov_other ?_ ?_; (focus (first | (with_reducible rfl) | omega | (simp; done) | (simp; omega)))) | (with_reducible assumption) | (with_reducible exact has_below hB (by assumption)))), by (repeat' (first | (with_reducible refine has_drew ?_) | (with_reducible refine has_drewN ?_) | (with_reducible refine has_new ?_; (first | (with_reducible rfl) | omega | (simp; done) | (simp; omega))) | (with_reducible refine has_ov_same ?_; (first | (with_reducible rfl) | omega | (simp; done) | (simp; omega))) | (with_reducible refine has_alloc ?_) | (with_reducible refine has_ov_other ?_ ?_; (focus (first | (with_reducible rfl) | omega | (simp; done) | (simp; omega)))) | (with_reducible assumption) | (with_reducible exact has_below hB (by assumption)))), by simpa [dvals_snoc] using row_in (cs := #[.bool false, .slice a2 (o ++ [m % 65536]).length c2]) (T := 162) (b := w.heap.size + 1) (row_in (cs := #[.bool false, .slice none 0 0]) (T := 162) (b := w.heap.size) HO.out (by omega)) (by omega)⟩
      case measure => simp [intOf]; omega
end Go.Proofs.Ytjcbphhemmdnjaa
