/- Package margin, and the sum of margins. -/
import Derived.Test.YtmfbelepmbodlaaAdd
namespace Go.Proofs.Ytmfbelepmbodlaa
open Go.RowKit
set_option linter.unusedSimpArgs false
set_option linter.unusedVariables false
attribute [local go_sem] ov_cell_same ov_cell_other ov_frozen_same ov_frozen_other ov_size ov_setCell_same ov_setCell_other cell_alloc_old frozen_alloc_old setCell_alloc_old old_alloc old_ov old_drew old_drewN old_setCell
attribute [local go_sem ↓] run_max2 run_min2

theorem has_setCell {u : World} {b : Nat} {a : Addr} {v : Value} {cs : Array Value} {T : TypeId} (hne : b ≠ a.block) (h : Has u b cs T) : Has (u.setCell a v) b cs T := (Below.heap_setCell u a v b hne).trans h
theorem mof_any (n : Int) (w : World) : Calls Try.prog 34 #[.int .i64 n] w fun e w' => e = .returned (.agg #[.int .i64 (max n 0), .int .i64 (min n 0)]) ∧ Below w.heap.size w w' := by
  go_enter Try.func34, Try.ntmps34
  go_wp2
  go_returns
  exact ⟨rfl, by (repeat' (first | (with_reducible exact Below.refl _ _) | (with_reducible assumption) | (with_reducible refine Below.alloc ?_ ?_ _) | (with_reducible refine Below.drew ?_) | (with_reducible refine below_drewN ?_ _) | (with_reducible refine Below.setCell ?_ ?_ _) | (with_reducible refine below_via ?_ (by assumption) ?_) | (with_reducible refine below_ov ?_ ?_ _ _) | go_size))⟩
theorem mwith_any (a b c d : Int) (w : World) : Calls Try.prog 35 #[(.agg #[.int .i64 (a), .int .i64 (b)]), (.agg #[.int .i64 (c), .int .i64 (d)])] w fun e w' => e = .returned (.agg #[.int .i64 (max a c), .int .i64 (min b d)]) ∧ Below w.heap.size w w' := by
  go_enter Try.func35, Try.ntmps35
  go_wp2
  go_returns
  exact ⟨rfl, by (repeat' (first | (with_reducible exact Below.refl _ _) | (with_reducible assumption) | (with_reducible refine Below.alloc ?_ ?_ _) | (with_reducible refine Below.drew ?_) | (with_reducible refine below_drewN ?_ _) | (with_reducible refine Below.setCell ?_ ?_ _) | (with_reducible refine below_via ?_ (by assumption) ?_) | (with_reducible refine below_ov ?_ ?_ _ _) | go_size))⟩
theorem msum_ok (a b r : Int) (h : addF 0 [a, b] = some r) (w : World) : Calls Try.prog 59 #[(.agg #[.int .i64 (a), .int .i64 (b)])] w fun e w' => e = .returned (.int .i64 r) ∧ Below w.heap.size w w' := by
  have H := Lib.hid h; clear h
  go_enter Try.func59, Try.ntmps59
  go_wp2_with fail
  refine (add_ok _ 2 2 [a, b] r _ rfl (by intro i hi; rcases i with _ | _ | i <;> first | (simp; done) | omega) (by omega) H.out).mono ?_
  rintro e w1 ⟨rfl, rfl⟩
  go_wp2
  go_ret
  exact ⟨rfl, by (repeat' (first | (with_reducible exact Below.refl _ _) | (with_reducible assumption) | (with_reducible refine Below.alloc ?_ ?_ _) | (with_reducible refine Below.drew ?_) | (with_reducible refine below_drewN ?_ _) | (with_reducible refine Below.setCell ?_ ?_ _) | (with_reducible refine below_via ?_ (by assumption) ?_) | (with_reducible refine below_ov ?_ ?_ _ _) | go_size))⟩
theorem msum_no (a b : Int) (h : addF 0 [a, b] = none) (w : World) : Calls Try.prog 59 #[(.agg #[.int .i64 (a), .int .i64 (b)])] w fun e w' => e = .panicked (gave 2) ∧ Below w.heap.size w w' := by
  have H := Lib.hid h; clear h
  go_enter Try.func59, Try.ntmps59
  go_wp2_with fail
  refine (add_no _ 2 2 [a, b] _ rfl (by intro i hi; rcases i with _ | _ | i <;> first | (simp; done) | omega) (by omega) H.out).mono ?_
  rintro e w1 ⟨rfl, rfl⟩
  exact ⟨rfl, rfl, by (repeat' (first | (with_reducible exact Below.refl _ _) | (with_reducible assumption) | (with_reducible refine Below.alloc ?_ ?_ _) | (with_reducible refine Below.drew ?_) | (with_reducible refine below_drewN ?_ _) | (with_reducible refine Below.setCell ?_ ?_ _) | (with_reducible refine below_via ?_ (by assumption) ?_) | (with_reducible refine below_ov ?_ ?_ _ _) | go_size))⟩
theorem sum1_ok (bm bn : Nat) (a b r x : Int) (h : addF 0 [a, b] = some r) (w : World) (h1 : w.cell? ⟨bm, 0, none⟩ = some (.int .i64 a)) (h2 : w.cell? ⟨bm, 1, none⟩ = some (.int .i64 b)) (h3 : w.cell? ⟨bn, 0, none⟩ = some (.int .i64 x)) (h4 : w.frozen? ⟨bn, 0, none⟩ = false) (h5 : bn < w.heap.size) :
    Calls Try.prog 58 #[.pointer (some ⟨bm, 0, none⟩), .pointer (some ⟨bn, 0, none⟩)] w fun e w' => e = .returned (.tuple #[]) ∧ ∃ u, w' = u.setCell ⟨bn, 0, none⟩ (.int .i64 r) ∧ Below w.heap.size w u := by
  have H := Lib.hid h; clear h
  go_enter Try.func58, Try.ntmps58
  go_wp2_with fail
  refine (msum_ok a b r H.out _).mono ?_
  rintro e w1 ⟨rfl, hb⟩
  have k3 := (hb.cell (p := ⟨bn, 0, none⟩) h5).trans h3
  have k4 := (hb.frozen (p := ⟨bn, 0, none⟩) h5).trans h4
  go_wp2
  go_end0
  exact ⟨rfl, w1, rfl, hb⟩
theorem sum1_no (bm bn : Nat) (a b : Int) (h : addF 0 [a, b] = none) (w : World) (h1 : w.cell? ⟨bm, 0, none⟩ = some (.int .i64 a)) (h2 : w.cell? ⟨bm, 1, none⟩ = some (.int .i64 b)) :
    Calls Try.prog 58 #[.pointer (some ⟨bm, 0, none⟩), .pointer (some ⟨bn, 0, none⟩)] w fun e w' => e = .panicked (gave 2) ∧ Below w.heap.size w w' := by
  have H := Lib.hid h; clear h
  go_enter Try.func58, Try.ntmps58
  go_wp2_with fail
  refine (msum_no a b H.out _).mono ?_
  rintro e w1 ⟨rfl, hb⟩
  exact ⟨rfl, rfl, hb⟩

/-- A slice that reads as a list of integers. -/
def Reads (w : World) (a : Option Addr) (xs : List Int) : Prop := 0 < xs.length → ∃ b, a = some ⟨b, 0, none⟩ ∧ b < w.heap.size ∧ ∀ i, i < xs.length → w.cell? ⟨b, i, none⟩ = some (.int .i64 (xs.getD i 0))
theorem Reads.below {w w' : World} {a : Option Addr} {xs : List Int} (h : Reads w a xs) (hb : Below w.heap.size w w') : Reads w' a xs := fun h0 => by
  obtain ⟨b, h1, h2, h4⟩ := h h0
  exact ⟨b, h1, Nat.lt_of_lt_of_le h2 hb.size, fun i hi => (hb.cell (p := ⟨b, i, none⟩) h2).trans (h4 i hi)⟩

def upOf (xs : List Int) : Int := xs.foldl (fun a x => max a (max x 0)) 0
def dnOf (xs : List Int) : Int := xs.foldl (fun a x => min a (min x 0)) 0
theorem take_snoc {xs : List Int} {k : Nat} (h : k < xs.length) : xs.take (k + 1) = xs.take k ++ [xs.getD k 0] := by
  rw [List.take_succ_eq_append_getElem h]; simp [h]
theorem upOf_snoc (xs : List Int) (x : Int) : upOf (xs ++ [x]) = max (upOf xs) (max x 0) := by simp [upOf]
theorem dnOf_snoc (xs : List Int) (x : Int) : dnOf (xs ++ [x]) = min (dnOf xs) (min x 0) := by simp [dnOf]
/-- What law16.sum hands back. -/
def sumN (xs : List Int) : Int := (addF 0 [upOf xs, dnOf xs]).getD 0
def sumE (xs : List Int) : Int := match addF 0 [upOf xs, dnOf xs] with | some _ => 0 | none => 2

set_option maxRecDepth 100000 in
set_option maxHeartbeats 1000000 in
theorem sum_any (a : Option Addr) (cap : Nat) (xs : List Int) (w : World) (hm : xs.length ≤ 9223372036854775807) (hc : Reads w a xs) :
    Calls Try.prog 32 #[.slice a xs.length cap] w fun e w' => e = .returned (.tuple #[.int .i64 (sumN xs), .int .i64 (sumE xs)]) ∧ Below w.heap.size w w' := by
  have HC := Lib.hid hc; clear hc
  generalize hl : xs.length = len at hm ⊢
  have HL := Lib.hid hl; clear hl
  go_enter Try.func32, Try.ntmps32
  go_wp2_with fail
  go_loopw [5] (fun i wr => ∃ k : Nat, k ≤ len ∧ i = .int .i64 k ∧ Below w.heap.size w wr ∧ Has wr w.heap.size #[.int .i64 (upOf (xs.take k)), .int .i64 (dnOf (xs.take k))] 47) (fun i _ => len - (intOf i).toNat)
  case atStart => exact ⟨0, Nat.zero_le _, rfl, by (repeat' (first | (with_reducible exact Below.refl _ _) | (with_reducible assumption) | (with_reducible refine Below.alloc ?_ ?_ _) | (with_reducible refine Below.drew ?_) | (with_reducible refine below_drewN ?_ _) | (with_reducible refine Below.setCell ?_ ?_ _) | (with_reducible refine below_via ?_ (by assumption) ?_) | (with_reducible refine below_ov ?_ ?_ _ _) | go_size)), has_new rfl⟩
  case round =>
    obtain ⟨k, hk, rfl, hbel, hhas⟩ := hrel
    obtain ⟨u, rfl, hB, hz, z0, o0⟩ := after1 (w := w) (Below.refl _ wr) hbel hhas
    by_cases hlt : k < len
    · obtain ⟨b, rfl, h0, hcs⟩ := HC.out (by rw [HL.out]; omega)
      have hcell := hcs k (by rw [HL.out]; exact hlt)
      clear hcs
      have hs := take_snoc (xs := xs) (k := k) (by rw [HL.out]; exact hlt)
      have e1 : upOf (xs.take (k + 1)) = max (upOf (xs.take k)) (max (xs.getD k 0) 0) := by rw [hs, upOf_snoc]
      have e2 : dnOf (xs.take (k + 1)) = min (dnOf (xs.take k)) (min (xs.getD k 0) 0) := by rw [hs, dnOf_snoc]
      clear hs
      have E1 := Lib.hid e1; clear e1
      have E2 := Lib.hid e2; clear e2
      have cu : ∀ o, u.cell? ⟨b, o, none⟩ = w.cell? ⟨b, o, none⟩ := fun o => hB.cell (p := ⟨b, o, none⟩) h0
      go_wp2_with fail
      refine region_ord [(0, 0), (1, 0), (2, 0), (3, 0), (4, 0), (5, 1), (6, 1), (7, 2)] (by kernel_rfl) (by kernel_rfl) (fun _ _ d _ _ h => by cases d <;> exact h) (fun hS => ?_)
      (refine wpG_read (v := ?_) rfl (.inl ⟨by rfl, fun wx hbx => ?_⟩) ?_; rotate_left; (focus (obtain ⟨cx0, fx0, zx0⟩ := bk hbx (w.heap.size) (by first | omega | (simp; done) | (simp; omega)); obtain ⟨cx1, fx1, zx1⟩ := bk hbx (b) (by first | omega | (simp; done) | (simp; omega)); go_simp; (try go_bits); (try with_reducible rfl))); try simp only [Act.put, List.setIfInBounds_toArray, List.set_cons_zero, List.set_cons_succ])
      (refine wpG_read (v := ?_) rfl (.inl ⟨by rfl, fun wx hbx => ?_⟩) ?_; rotate_left; (focus (obtain ⟨cx0, fx0, zx0⟩ := bk hbx (w.heap.size) (by first | omega | (simp; done) | (simp; omega)); obtain ⟨cx1, fx1, zx1⟩ := bk hbx (b) (by first | omega | (simp; done) | (simp; omega)); go_simp; (try go_bits); (try with_reducible rfl))); try simp only [Act.put, List.setIfInBounds_toArray, List.set_cons_zero, List.set_cons_succ])
      (refine wpG_read (v := ?_) rfl (.inl ⟨by rfl, fun wx hbx => ?_⟩) ?_; rotate_left; (focus (obtain ⟨cx0, fx0, zx0⟩ := bk hbx (w.heap.size) (by first | omega | (simp; done) | (simp; omega)); obtain ⟨cx1, fx1, zx1⟩ := bk hbx (b) (by first | omega | (simp; done) | (simp; omega)); go_simp; (try go_bits); (try with_reducible rfl))); try simp only [Act.put, List.setIfInBounds_toArray, List.set_cons_zero, List.set_cons_succ])
      (refine wpG_read (v := ?_) rfl (.inl ⟨by rfl, fun wx hbx => ?_⟩) ?_; rotate_left; (focus (obtain ⟨cx0, fx0, zx0⟩ := bk hbx (w.heap.size) (by first | omega | (simp; done) | (simp; omega)); obtain ⟨cx1, fx1, zx1⟩ := bk hbx (b) (by first | omega | (simp; done) | (simp; omega)); go_simp; (try go_bits); (try with_reducible rfl))); try simp only [Act.put, List.setIfInBounds_toArray, List.set_cons_zero, List.set_cons_succ])
      (refine wpG_read (v := ?_) rfl (.inl ⟨by rfl, fun wx hbx => ?_⟩) ?_; rotate_left; (focus (obtain ⟨cx0, fx0, zx0⟩ := bk hbx (w.heap.size) (by first | omega | (simp; done) | (simp; omega)); obtain ⟨cx1, fx1, zx1⟩ := bk hbx (b) (by first | omega | (simp; done) | (simp; omega)); go_simp; (try go_bits); (try with_reducible rfl))); try simp only [Act.put, List.setIfInBounds_toArray, List.set_cons_zero, List.set_cons_succ])
      (refine wpG_make rfl (fun K hK => ?_); go_simp; (go_at_call 34; (with_reducible refine (mof_any _ _).mono ?_); rintro e w1 ⟨rfl, hb⟩; refine Exists.elim (after1 (w := w) (b0 := w.heap.size) (cs0 := ?_) (T0 := ?_) hb ?_ ?_) ?_; rotate_left 2; (focus ((repeat' (first | (with_reducible exact Below.refl _ _) | (with_reducible assumption) | (with_reducible refine Below.alloc ?_ ?_ _) | (with_reducible refine Below.drew ?_) | (with_reducible refine below_drewN ?_ _) | (with_reducible refine Below.setCell ?_ ?_ _) | (with_reducible refine below_via ?_ (by assumption) ?_) | (with_reducible refine below_ov ?_ ?_ _ _) | go_size)); done)); (focus ((repeat' (first | (with_reducible refine has_drew ?_) | (with_reducible refine has_drewN ?_) | (with_reducible refine has_new ?_; (first | (with_reducible rfl) | omega | (simp; done) | (simp; omega))) | (with_reducible refine has_ov_same ?_; (first | (with_reducible rfl) | omega | (simp; done) | (simp; omega))) | (with_reducible refine has_alloc ?_) | (with_reducible refine has_ov_other ?_ ?_; (focus (first | (with_reducible rfl) | omega | (simp; done) | (simp; omega)))))); done)); rintro u ⟨rfl, hB, hz, z0, o0⟩; (try simp only [World.size_alloc, World.size_setCell, World.size_drew, ov_size] at hz)); (try simp only []); refine hK _ _ ?_ (fun hS2 => ?_); (focus ((repeat' (first | (with_reducible exact Below.refl _ _) | (with_reducible assumption) | (with_reducible refine Below.alloc ?_ ?_ _) | (with_reducible refine Below.drew ?_) | (with_reducible refine below_drewN ?_ _) | (with_reducible refine Below.setCell ?_ ?_ _) | (with_reducible refine below_via ?_ (by assumption) ?_) | (with_reducible refine below_ov ?_ ?_ _ _) | go_size)); done)); clear hK K hS; have hS := hS2; clear hS2; (try clear hb); try simp only [Act.put, List.setIfInBounds_toArray, List.set_cons_zero, List.set_cons_succ])
      (refine wpG_make rfl (fun K hK => ?_); go_simp; (go_at_call 35; (with_reducible refine (mwith_any _ _ _ _ _).mono ?_); rintro e w1 ⟨rfl, hb⟩; refine Exists.elim (after1 (w := w) (b0 := w.heap.size) (cs0 := ?_) (T0 := ?_) hb ?_ ?_) ?_; rotate_left 2; (focus ((repeat' (first | (with_reducible exact Below.refl _ _) | (with_reducible assumption) | (with_reducible refine Below.alloc ?_ ?_ _) | (with_reducible refine Below.drew ?_) | (with_reducible refine below_drewN ?_ _) | (with_reducible refine Below.setCell ?_ ?_ _) | (with_reducible refine below_via ?_ (by assumption) ?_) | (with_reducible refine below_ov ?_ ?_ _ _) | go_size)); done)); (focus ((repeat' (first | (with_reducible refine has_drew ?_) | (with_reducible refine has_drewN ?_) | (with_reducible refine has_new ?_; (first | (with_reducible rfl) | omega | (simp; done) | (simp; omega))) | (with_reducible refine has_ov_same ?_; (first | (with_reducible rfl) | omega | (simp; done) | (simp; omega))) | (with_reducible refine has_alloc ?_) | (with_reducible refine has_ov_other ?_ ?_; (focus (first | (with_reducible rfl) | omega | (simp; done) | (simp; omega)))))); done)); rintro u ⟨rfl, hB, hz, z0, o0⟩; (try simp only [World.size_alloc, World.size_setCell, World.size_drew, ov_size] at hz)); (try simp only []); refine hK _ _ ?_ (fun hS2 => ?_); (focus ((repeat' (first | (with_reducible exact Below.refl _ _) | (with_reducible assumption) | (with_reducible refine Below.alloc ?_ ?_ _) | (with_reducible refine Below.drew ?_) | (with_reducible refine below_drewN ?_ _) | (with_reducible refine Below.setCell ?_ ?_ _) | (with_reducible refine below_via ?_ (by assumption) ?_) | (with_reducible refine below_ov ?_ ?_ _ _) | go_size)); done)); clear hK K hS; have hS := hS2; clear hS2; (try clear hb); try simp only [Act.put, List.setIfInBounds_toArray, List.set_cons_zero, List.set_cons_succ])
      (refine wpG_late rfl (fun K hK => ?_); go_simp; (try simp only []); (try simp only []); refine hK _ _ ?_; clear hK K; try simp only [Act.put, List.setIfInBounds_toArray, List.set_cons_zero, List.set_cons_succ])
      refine wpG_nil ?_
      go_wp2
      go_roundw
      case rel => exact ⟨k + 1, by omega, by go_num, by (repeat' (first | (with_reducible exact Below.refl _ _) | (with_reducible assumption) | (with_reducible refine Below.alloc ?_ ?_ _) | (with_reducible refine Below.drew ?_) | (with_reducible refine below_drewN ?_ _) | (with_reducible refine Below.setCell ?_ ?_ _) | (with_reducible refine below_via ?_ (by assumption) ?_) | (with_reducible refine below_ov ?_ ?_ _ _) | go_size)), by rw [E1.out, E2.out]; exact has_ov_same z0⟩
      case measure => simp [intOf]; omega
    · have e : xs.take k = xs := List.take_of_length_le (by rw [HL.out]; omega)
      rw [e]
      clear e
      have ne1 : w.heap.size ≠ u.heap.size := by omega
      cases hr : addF 0 [upOf xs, dnOf xs] with
      | some r =>
        have en : sumN xs = r := by simp [sumN, hr]
        have ee : sumE xs = 0 := by simp [sumE, hr]
        have HR := Lib.hid hr; clear hr
        have EN := Lib.hid en; clear en
        have EE := Lib.hid ee; clear ee
        go_wp2_with fail
        refine (try_ok 58 _ _ _ (fun W => by kernel_rfl) (sum1_ok w.heap.size u.heap.size _ _ r 0 HR.out _ (by go_simp) (by go_simp) (by go_simp) (by go_simp) (by simp only [World.size_alloc, ov_size]; omega)) ?_).mono ?_
        · rintro w' ⟨u1, rfl, hb⟩
          exact has_setCell (by simp) (has_below hb (has_new rfl))
        rintro e w1 ⟨rfl, w2, ⟨u1, rfl, hb⟩, rfl⟩
        (refine Exists.elim (after3 (w := w) (b0 := w.heap.size) (cs0 := ?_) (T0 := ?_) (b1 := u.heap.size) (cs1 := ?_) (T1 := ?_) (b2 := u.heap.size + 1) (cs2 := ?_) (T2 := ?_) hb ?_ ?_ ?_ ?_) ?_; rotate_left 6; (focus ((repeat' (first | (with_reducible exact Below.refl _ _) | (with_reducible assumption) | (with_reducible refine Below.alloc ?_ ?_ _) | (with_reducible refine Below.drew ?_) | (with_reducible refine below_drewN ?_ _) | (with_reducible refine Below.setCell ?_ ?_ _) | (with_reducible refine below_via ?_ (by assumption) ?_) | (with_reducible refine below_ov ?_ ?_ _ _) | go_size)); done)); (focus ((repeat' (first | (with_reducible refine has_drew ?_) | (with_reducible refine has_drewN ?_) | (with_reducible refine has_new ?_; (first | (with_reducible rfl) | omega | (simp; done) | (simp; omega))) | (with_reducible refine has_ov_same ?_; (first | (with_reducible rfl) | omega | (simp; done) | (simp; omega))) | (with_reducible refine has_alloc ?_) | (with_reducible refine has_ov_other ?_ ?_; (focus (first | (with_reducible rfl) | omega | (simp; done) | (simp; omega)))))); done)); (focus ((repeat' (first | (with_reducible refine has_drew ?_) | (with_reducible refine has_drewN ?_) | (with_reducible refine has_new ?_; (first | (with_reducible rfl) | omega | (simp; done) | (simp; omega))) | (with_reducible refine has_ov_same ?_; (first | (with_reducible rfl) | omega | (simp; done) | (simp; omega))) | (with_reducible refine has_alloc ?_) | (with_reducible refine has_ov_other ?_ ?_; (focus (first | (with_reducible rfl) | omega | (simp; done) | (simp; omega)))))); done)); (focus ((repeat' (first | (with_reducible refine has_drew ?_) | (with_reducible refine has_drewN ?_) | (with_reducible refine has_new ?_; (first | (with_reducible rfl) | omega | (simp; done) | (simp; omega))) | (with_reducible refine has_ov_same ?_; (first | (with_reducible rfl) | omega | (simp; done) | (simp; omega))) | (with_reducible refine has_alloc ?_) | (with_reducible refine has_ov_other ?_ ?_; (focus (first | (with_reducible rfl) | omega | (simp; done) | (simp; omega)))))); done)); rintro u2 ⟨rfl, hB, hz, z0, o0, z1, o1, z2, o2⟩; (try simp only [World.size_alloc, World.size_setCell, World.size_drew, ov_size] at hz); clear hb)
        go_wp2
        go_ret2
        exact ⟨by rw [EN.out, EE.out]; rfl, by (repeat' (first | (with_reducible exact Below.refl _ _) | (with_reducible assumption) | (with_reducible refine Below.alloc ?_ ?_ _) | (with_reducible refine Below.drew ?_) | (with_reducible refine below_drewN ?_ _) | (with_reducible refine Below.setCell ?_ ?_ _) | (with_reducible refine below_via ?_ (by assumption) ?_) | (with_reducible refine below_ov ?_ ?_ _ _) | go_size))⟩
      | none =>
        have en : sumN xs = 0 := by simp [sumN, hr]
        have ee : sumE xs = 2 := by simp [sumE, hr]
        have HR := Lib.hid hr; clear hr
        have EN := Lib.hid en; clear en
        have EE := Lib.hid ee; clear ee
        go_wp2_with fail
        refine (try_no 58 _ _ _ _ (fun W => by kernel_rfl) (sum1_no w.heap.size u.heap.size _ _ HR.out _ (by go_simp) (by go_simp)) ?_).mono ?_
        · rintro w' hb
          exact has_below hb (has_new rfl)
        rintro e w1 ⟨rfl, u1, hb, rfl⟩
        (refine Exists.elim (after3 (w := w) (b0 := w.heap.size) (cs0 := ?_) (T0 := ?_) (b1 := u.heap.size) (cs1 := ?_) (T1 := ?_) (b2 := u.heap.size + 1) (cs2 := ?_) (T2 := ?_) hb ?_ ?_ ?_ ?_) ?_; rotate_left 6; (focus ((repeat' (first | (with_reducible exact Below.refl _ _) | (with_reducible assumption) | (with_reducible refine Below.alloc ?_ ?_ _) | (with_reducible refine Below.drew ?_) | (with_reducible refine below_drewN ?_ _) | (with_reducible refine Below.setCell ?_ ?_ _) | (with_reducible refine below_via ?_ (by assumption) ?_) | (with_reducible refine below_ov ?_ ?_ _ _) | go_size)); done)); (focus ((repeat' (first | (with_reducible refine has_drew ?_) | (with_reducible refine has_drewN ?_) | (with_reducible refine has_new ?_; (first | (with_reducible rfl) | omega | (simp; done) | (simp; omega))) | (with_reducible refine has_ov_same ?_; (first | (with_reducible rfl) | omega | (simp; done) | (simp; omega))) | (with_reducible refine has_alloc ?_) | (with_reducible refine has_ov_other ?_ ?_; (focus (first | (with_reducible rfl) | omega | (simp; done) | (simp; omega)))))); done)); (focus ((repeat' (first | (with_reducible refine has_drew ?_) | (with_reducible refine has_drewN ?_) | (with_reducible refine has_new ?_; (first | (with_reducible rfl) | omega | (simp; done) | (simp; omega))) | (with_reducible refine has_ov_same ?_; (first | (with_reducible rfl) | omega | (simp; done) | (simp; omega))) | (with_reducible refine has_alloc ?_) | (with_reducible refine has_ov_other ?_ ?_; (focus (first | (with_reducible rfl) | omega | (simp; done) | (simp; omega)))))); done)); (focus ((repeat' (first | (with_reducible refine has_drew ?_) | (with_reducible refine has_drewN ?_) | (with_reducible refine has_new ?_; (first | (with_reducible rfl) | omega | (simp; done) | (simp; omega))) | (with_reducible refine has_ov_same ?_; (first | (with_reducible rfl) | omega | (simp; done) | (simp; omega))) | (with_reducible refine has_alloc ?_) | (with_reducible refine has_ov_other ?_ ?_; (focus (first | (with_reducible rfl) | omega | (simp; done) | (simp; omega)))))); done)); rintro u2 ⟨rfl, hB, hz, z0, o0, z1, o1, z2, o2⟩; (try simp only [World.size_alloc, World.size_setCell, World.size_drew, ov_size] at hz); clear hb)
        go_wp2
        go_ret2
        exact ⟨by rw [EN.out, EE.out]; rfl, by (repeat' (first | (with_reducible exact Below.refl _ _) | (with_reducible assumption) | (with_reducible refine Below.alloc ?_ ?_ _) | (with_reducible refine Below.drew ?_) | (with_reducible refine below_drewN ?_ _) | (with_reducible refine Below.setCell ?_ ?_ _) | (with_reducible refine below_via ?_ (by assumption) ?_) | (with_reducible refine below_ov ?_ ?_ _ _) | go_size))⟩

/-- The margins that law16.short hands on. -/
def cut44 (xs : List Int) : List Int := (xs.take 30).map fun x => x.tmod 17592186044416
theorem cut44_take {xs : List Int} {k : Nat} (hk : k ≤ 30) : cut44 (xs.take k) = (xs.take k).map fun x => x.tmod 17592186044416 := by
  unfold cut44; rw [List.take_take, Nat.min_eq_right hk]
theorem cut44_snoc {xs : List Int} {k : Nat} (h : k < xs.length) (hk : k < 30) : cut44 (xs.take (k + 1)) = cut44 (xs.take k) ++ [(xs.getD k 0).tmod 17592186044416] := by
  rw [cut44_take (by omega), cut44_take (by omega), take_snoc h, List.map_append]; rfl
theorem cut44_len (xs : List Int) : (cut44 xs).length = min 30 xs.length := by simp [cut44]
theorem cut44_all {xs : List Int} {k : Nat} (h : k = 30 ∨ xs.length ≤ k) : cut44 (xs.take k) = cut44 xs := by
  rcases h with rfl | h
  · simp [cut44, List.take_take]
  · rw [List.take_of_length_le h]
theorem ownsRow_block {w : World} {base size n : Nat} {e : TypeId} {v : Value} {xs : List Value} (h : w.ownsRow base e size v n xs) : ∀ g, v.ownBlock = some g → base ≤ g := by
  intro g hg
  rcases h.2 with ⟨rfl, _⟩ | ⟨g', cap, cur, rfl, hb, _⟩
  · cases hg
  · simp [Value.ownBlock] at hg; omega
theorem info64 : (Try.prog.info? 2).map (fun i => (i.zero, i.size, i.bytes)) = some (some (.int .i64 0), 1, 8) := by kernel_rfl

set_option maxRecDepth 100000 in
set_option maxHeartbeats 1000000 in
theorem short_any (a : Option Addr) (cap : Nat) (xs : List Int) (w : World) (hm : xs.length ≤ 9223372036854775807)
    (hc : 0 < xs.length → ∃ b off, a = some ⟨b, off, none⟩ ∧ b < w.heap.size ∧ ∀ i, i < xs.length → w.cell? ⟨b, off + i, none⟩ = some (.int .i64 (xs.getD i 0))) :
    Calls Try.prog 31 #[.slice a xs.length cap] w fun e w' => ∃ v, e = .returned v ∧ Below w.heap.size w w' ∧ w'.ownsRow w.heap.size 2 1 v (cut44 xs).length ((cut44 xs).map (Value.int .i64)) := by
  obtain ⟨i0, hi, hz0, hz1, hz2⟩ := info_parts info64
  have HC := Lib.hid hc; clear hc
  generalize hl : xs.length = len at hm ⊢
  have HL := Lib.hid hl; clear hl
  go_enter Try.func31, Try.ntmps31
  go_wp2_with fail
  go_loopw [3, 4] (fun v i wr => ∃ k : Nat, k ≤ len ∧ k ≤ 30 ∧ i = .int .i64 k ∧ Below w.heap.size w wr ∧ wr.ownsRow w.heap.size 2 1 v k ((cut44 (xs.take k)).map (Value.int .i64))) (fun _ i _ => len - (intOf i).toNat)
  case atStart => exact ⟨0, Nat.zero_le _, Nat.zero_le _, rfl, Below.refl _ _, World.ownsRow_nil _ _ _ _⟩
  case round =>
    obtain ⟨k, hk, hk30, rfl, hbel, hown⟩ := hrel
    by_cases hlt : k < len
    · by_cases h30 : k < 30
      · obtain ⟨b, off, rfl, h0, hcs⟩ := HC.out (by rw [HL.out]; omega)
        have hcell := (hbel.cell (p := ⟨b, off + k, none⟩) h0).trans (hcs k (by rw [HL.out]; exact hlt))
        clear hcs
        have hs := cut44_snoc (xs := xs) (k := k) (by rw [HL.out]; exact hlt) h30
        have HS := Lib.hid hs; clear hs
        have hsz := hbel.size
        generalize xs.getD k 0 = x at *
        go_wp2_with (at_builtin; refine wpList_append_own _ rfl _ _ 40 rfl w.heap.size 2 i0 (.int .i64 0) 1 8 Try.underlying40 hi hz0 hz1 hz2 rfl (by decide) _ _ _ rfl (hown.alloc _) ⟨wr.heap.size, 0, none⟩ 1 1 [.int .i64 (x.tmod 17592186044416)] rfl rfl ?c1 ?c2 ?c3 ?c4 ?c5 ?_)
        case c1 =>
          intro j u hj
          match j, hj with
          | 0, hj => simp at hj; subst hj; simp [Addr.add]
        case c2 => intro u hu; simp at hu; subst hu; rfl
        case c3 => unfold maxLen; omega
        case c4 => omega
        case c5 => simp; omega
        intro v' w1 hown' hgrow _
        have hb' : Below w.heap.size w w1 := (hbel.alloc hsz _).grown hgrow (by simp; omega) (ownsRow_block hown)
        go_wp2
        go_roundw
        case rel => exact ⟨k + 1, by omega, by omega, by go_num, hb', by rw [HS.out, List.map_append]; exact hown'⟩
        case measure => simp [intOf]; omega
      · have e : k = 30 := by omega
        have HE := Lib.hid (cut44_all (xs := xs) (k := k) (.inl e))
        have HN := Lib.hid (cut44_len xs)
        clear e
        go_wp2
        go_ret
        have hn : (cut44 xs).length = k := by have := HN.out; have := HL.out; omega
        exact ⟨_, rfl, hbel, by rw [hn, ← HE.out]; exact hown⟩
    · have HE := Lib.hid (cut44_all (xs := xs) (k := k) (.inr (by rw [HL.out]; omega)))
      have HN := Lib.hid (cut44_len xs)
      go_wp2
      go_ret
      have hn : (cut44 xs).length = k := by have := HN.out; have := HL.out; omega
      exact ⟨_, rfl, hbel, by rw [hn, ← HE.out]; exact hown⟩
end Go.Proofs.Ytmfbelepmbodlaa
