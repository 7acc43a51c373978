/- slices.swapRangeCmpFunc and rotateCmpFunc over places. -/
import Derived.Test.YtgelkmpmificpaaSortB
namespace Go.Proofs.Ytgelkmpmificpaa
open Go.RowKit
set_option linter.unusedSimpArgs false
set_option linter.unusedVariables false
-- below_from_drew
attribute [local go_sem] ov_cell_same ov_cell_other ov_frozen_same ov_frozen_other ov_size ov_setCell_same ov_setCell_other cell_alloc_old frozen_alloc_old setCell_alloc_old old_alloc old_ov old_drew old_drewN old_setCell

/-- Two places swapped. -/
def swp (a b : Nat) (ys : List Nat) : List Nat := (ys.set a (ys.getD b 0)).set b (ys.getD a 0)
theorem swp_length (a b : Nat) (ys : List Nat) : (swp a b ys).length = ys.length := by simp [swp]
theorem swp_at {a b : Nat} {ys : List Nat} (ha : a < ys.length) (hb : b < ys.length) (p : Nat) : (swp a b ys).getD p 0 = if p = b then ys.getD a 0 else if p = a then ys.getD b 0 else ys.getD p 0 := by
  unfold swp
  simp only [List.getD_eq_getElem?_getD]
  by_cases h1 : p = b
  · subst h1; rw [if_pos rfl, List.getElem?_set_self (by simpa using hb)]; rfl
  · rw [if_neg h1, List.getElem?_set_ne (Ne.symm h1)]
    by_cases h2 : p = a
    · subst h2; rw [if_pos rfl, List.getElem?_set_self ha]; rfl
    · rw [if_neg h2, List.getElem?_set_ne (Ne.symm h2)]
/-- As many swaps, one after another. -/
def swaps (a b : Nat) : Nat → List Nat → List Nat
  | 0, ys => ys
  | k + 1, ys => swp (a + k) (b + k) (swaps a b k ys)
theorem swaps_length (a b : Nat) : ∀ (k : Nat) (ys : List Nat), (swaps a b k ys).length = ys.length
  | 0, ys => rfl
  | k + 1, ys => by rw [swaps, swp_length, swaps_length a b k ys]
theorem swaps_at {a b : Nat} {ys : List Nat} : ∀ (k : Nat), a + k ≤ b → b + k ≤ ys.length → ∀ p, (swaps a b k ys).getD p 0 = if a ≤ p ∧ p < a + k then ys.getD (b + (p - a)) 0 else if b ≤ p ∧ p < b + k then ys.getD (a + (p - b)) 0 else ys.getD p 0
  | 0, _, _, p => by rw [if_neg (by omega), if_neg (by omega)]; rfl
  | k + 1, h1, h2, p => by
    have ih := swaps_at (a := a) (b := b) (ys := ys) k (by omega) (by omega)
    rw [swaps, swp_at (a := a + k) (b := b + k) (by rw [swaps_length]; omega) (by rw [swaps_length]; omega), ih, ih, ih]
    by_cases e1 : p = b + k
    · subst e1
      rw [if_pos rfl, if_neg (by omega), if_neg (by omega), if_neg (by omega), if_pos (by omega)]
      congr 1; omega
    · rw [if_neg e1]
      by_cases e2 : p = a + k
      · subst e2
        rw [if_pos rfl, if_neg (by omega), if_neg (by omega), if_pos (by omega)]
        congr 1; omega
      · rw [if_neg e2]
        by_cases e3 : a ≤ p ∧ p < a + k
        · rw [if_pos e3, if_pos (by omega)]
        · rw [if_neg e3]
          rw [if_neg (show ¬ (a ≤ p ∧ p < a + (k + 1)) by omega)]
          by_cases e4 : b ≤ p ∧ p < b + k
          · rw [if_pos e4, if_pos (by omega)]
          · rw [if_neg e4, if_neg (by omega)]
theorem placeCells_swp (ys : List Nat) (a b : Nat) : ((placeCells ys).setIfInBounds a (.int .i64 ((ys.getD b 0 : Nat) : Int))).setIfInBounds b (.int .i64 ((ys.getD a 0 : Nat) : Int)) = placeCells (swp a b ys) := by
  unfold placeCells swp; simp [List.map_set]
set_option maxRecDepth 100000 in
set_option maxHeartbeats 4000000 in
theorem swaps_any (g gcap a b n : Nat) (f : Value) (ys : List Nat) (T : TypeId) (w : World) (hab : a + n ≤ b) (hb : b + n ≤ ys.length) (hm : ys.length ≤ 1000000) (hg : Has w g (placeCells ys) T) :
    Calls Try.prog 134 #[.slice (some ⟨g, 0, none⟩) ys.length gcap, .int .i64 (a : Int), .int .i64 (b : Int), .int .i64 (n : Int), f] w fun e w' => e = .returned (.tuple #[]) ∧ SortL w g T (swaps a b n ys) w' := by
  have HG := Lib.hid hg; have HGL := hg.lt
  clear hg
  generalize hlen : ys.length = l at *
  have HN := Lib.hid hlen; clear hlen
  go_enter Try.func134, Try.ntmps134
  go_wp2_with fail
  go_loopw [10] (fun i wr => ∃ (k : Nat), k ≤ n ∧ i = .int .i64 (k : Int) ∧ SortL w g T (swaps a b k ys) wr) (fun i _ => n - (intOf i).toNat)
  case atStart => exact ⟨0, by omega, rfl, .of HG.out (But.refl _ _ _)⟩
  case round =>
    obtain ⟨k, hk, rfl, hl⟩ := hrel
    have HL := Lib.hid hl
    have l1 := hl.1.lt
    clear hl
    rcases Nat.lt_or_ge k n with c1 | c1
    · have c2 : (k : Int) < n := by omega
      have c3 : (a : Int) + k < l := by omega
      have c4 : (b : Int) + k < l := by omega
      have c5 : (0 : Int) ≤ (a : Int) + k := by omega
      have c6 : (0 : Int) ≤ (b : Int) + k := by omega
      have hsl := swaps_length a b k ys
      have g1 := placeCells_get (ys := swaps a b k ys) (j := a + k) (by rw [hsl, HN.out]; omega)
      have g2 := placeCells_get (ys := swaps a b k ys) (j := b + k) (by rw [hsl, HN.out]; omega)
      have hst := HL.out.store (zs := swp (a + k) (b + k) (swaps a b k ys))
      rw [← placeCells_swp] at hst
      have HST := Lib.hid hst
      have hs5 := ov_self HL.out.1
      clear hst hsl
      have hsw : swaps a b (k + 1) ys = swp (a + k) (b + k) (swaps a b k ys) := rfl
      rw [← hsw] at HST
      clear hsw
      generalize swaps a b k ys = xs at *
      generalize xs.getD (a + k) 0 = X at *
      generalize xs.getD (b + k) 0 = Y at *
      have g3 : ((placeCells xs).setIfInBounds (a + k) (.int .i64 (Y : Int)))[b + k]? = some (.int .i64 (Y : Int)) := by rw [Array.getElem?_setIfInBounds_ne (by omega)]; exact g2
      rw [← hs5]; clear hs5
      go_wp2_with fail
      have mixed : Try.prog.follows .mixedOrders = true := by kernel_rfl
      go_big_region_o
      clear mixed
      go_wp2_with fail
      go_roundw
      case rel => exact ⟨k + 1, by omega, by go_num, HST.out.below (by (repeat' (first | (with_reducible exact Below.refl _ _) | (with_reducible assumption) | (with_reducible refine below_from_drew ?_) | (with_reducible refine Below.alloc ?_ ?_ _) | (with_reducible refine Below.drew ?_) | (with_reducible refine below_drewN ?_ _) | (with_reducible refine Below.setCell ?_ ?_ _) | (with_reducible refine below_via ?_ (by assumption) ?_) | (with_reducible refine below_ov ?_ ?_ _ _) | go_size)))⟩
      case measure => simp [intOf]; omega
    · obtain rfl : k = n := by omega
      have c2 : (k : Int) ≤ k := by omega
      go_wp2_with fail
      go_end0
      exact ⟨rfl, HL.out⟩
/-- What stands where, behind a rotation of two neighbours. -/
def rotG (a m b : Nat) (ys : List Nat) (p : Nat) : Nat := if a ≤ p ∧ p < b then (if p < a + (b - m) then ys.getD (p - a + m) 0 else ys.getD (p - (b - m)) 0) else ys.getD p 0
theorem rot_left {m i j : Nat} {zs : List Nat} (h1 : j < i) (h2 : i ≤ m) (h3 : m + j ≤ zs.length) (p : Nat) : rotG (m - (i - j)) m (m + j) (swaps (m - i) m j zs) p = rotG (m - i) m (m + j) zs p := by
  have e := fun q => swaps_at (a := m - i) (b := m) (ys := zs) j (by omega) h3 q
  unfold rotG
  rw [e, e, e]
  repeat' split
  all_goals first | omega | (refine congrArg (fun q => zs.getD q 0) ?_; omega)
theorem rot_right {m i j : Nat} {zs : List Nat} (h1 : i < j) (h2 : i ≤ m) (h3 : m + j ≤ zs.length) (p : Nat) : rotG (m - i) m (m + (j - i)) (swaps (m - i) (m + j - i) i zs) p = rotG (m - i) m (m + j) zs p := by
  have e := fun q => swaps_at (a := m - i) (b := m + j - i) (ys := zs) i (by omega) (by omega) q
  unfold rotG
  rw [e, e, e]
  repeat' split
  all_goals first | omega | (refine congrArg (fun q => zs.getD q 0) ?_; omega)
theorem rot_last {m i : Nat} {zs : List Nat} (h2 : i ≤ m) (h3 : m + i ≤ zs.length) (p : Nat) : (swaps (m - i) m i zs).getD p 0 = rotG (m - i) m (m + i) zs p := by
  have e := fun q => swaps_at (a := m - i) (b := m) (ys := zs) i (by omega) h3 q
  unfold rotG
  rw [e]
  repeat' split
  all_goals first | omega | (refine congrArg (fun q => zs.getD q 0) ?_; omega)
theorem SortL.trans {w w1 w2 : World} {g : Nat} {T : TypeId} {ys zs : List Nat} (h : SortL w g T ys w1) (k : SortL w1 g T zs w2) : SortL w g T zs w2 :=
  .of k.1 (h.2.2.2.trans ⟨k.2.2.2.os, k.2.2.2.tape, k.2.2.2.output, k.2.2.2.size, fun i hi => k.2.2.2.block i (Nat.lt_of_lt_of_le hi h.2.1)⟩)
set_option maxRecDepth 100000 in
set_option maxHeartbeats 4000000 in
theorem rot_any (g gcap a m b : Nat) (f : Value) (ys : List Nat) (T : TypeId) (w : World) (ham : a < m) (hmb : m < b) (hb : b ≤ ys.length) (hm : ys.length ≤ 1000000) (hg : Has w g (placeCells ys) T) :
    Calls Try.prog 130 #[.slice (some ⟨g, 0, none⟩) ys.length gcap, .int .i64 (a : Int), .int .i64 (m : Int), .int .i64 (b : Int), f] w fun e w' => e = .returned (.tuple #[]) ∧ ∃ zs, zs.length = ys.length ∧ (∀ p, zs.getD p 0 = rotG a m b ys p) ∧ SortL w g T zs w' := by
  have HG := Lib.hid hg
  clear hg
  generalize hlen : ys.length = l at *
  have HN := Lib.hid hlen; clear hlen
  go_enter Try.func130, Try.ntmps130
  go_wp2_with fail
  go_loopw [10, 11] (fun iv jv wr => ∃ (i j : Nat) (zs : List Nat), 1 ≤ i ∧ 1 ≤ j ∧ i ≤ m ∧ m + j ≤ l ∧ iv = .int .i64 (i : Int) ∧ jv = .int .i64 (j : Int) ∧ zs.length = l ∧ (∀ p, rotG (m - i) m (m + j) zs p = rotG a m b ys p) ∧ SortL w g T zs wr) (fun iv jv _ => (intOf iv).toNat + (intOf jv).toNat)
  case atStart => exact ⟨m - a, b - m, ys, by omega, by omega, by omega, by omega, by go_num, by go_num, HN.out, fun p => by rw [show m - (m - a) = a by omega, show m + (b - m) = b by omega], .of HG.out (But.refl _ _ _)⟩
  case round =>
    obtain ⟨i, j, zs, hi1, hj1, him, hjl, rfl, rfl, hzl, hrot, hl⟩ := hrel
    have HZL := Lib.hid hzl; have HROT := Lib.hid hrot; have HL := Lib.hid hl
    clear hzl hrot hl
    have d1 : (m : Int) - i = ((m - i : Nat) : Int) := by omega
    rcases Nat.lt_trichotomy i j with c1 | c1 | c1
    · have d2 : ((i : Int) != j) = true := by simp; omega
      have d3 : decide ((j : Int) < i) = false := by simp; omega
      have d4 : (m : Int) + j - i = ((m + j - i : Nat) : Int) := by omega
      have hsw := swaps_any g gcap (m - i) (m + j - i) i f zs T wr (by omega) (by rw [HZL.out]; omega) (by rw [HZL.out]; omega) HL.out.1
      rw [HZL.out] at hsw
      have HSW := Lib.hid hsw; clear hsw
      go_wp2_with fail
      refine HSW.out.mono ?_
      rintro e wx ⟨rfl, hl⟩
      have HX := Lib.hid (HL.out.trans hl); clear hl
      go_wp2_with fail
      go_roundw
      case rel => exact ⟨i, j - i, _, by omega, by omega, by omega, by omega, rfl, by go_num, by rw [swaps_length, HZL.out], fun p => by rw [rot_right c1 him (by rw [HZL.out]; omega), HROT.out], HX.out⟩
      case measure => simp [intOf]; omega
    · subst c1
      have d2 : ((i : Int) != i) = false := by simp
      have hsw := swaps_any g gcap (m - i) m i f zs T wr (by omega) (by rw [HZL.out]; omega) (by rw [HZL.out]; omega) HL.out.1
      rw [HZL.out] at hsw
      have HSW := Lib.hid hsw; clear hsw
      go_wp2_with fail
      refine HSW.out.mono ?_
      rintro e wx ⟨rfl, hl⟩
      have HX := Lib.hid (HL.out.trans hl); clear hl
      go_wp2_with fail
      go_end0
      exact ⟨rfl, _, by rw [swaps_length, HZL.out], fun p => by rw [rot_last him (by rw [HZL.out]; omega), HROT.out], HX.out⟩
    · have d2 : ((i : Int) != j) = true := by simp; omega
      have d3 : decide ((j : Int) < i) = true := by simp; omega
      have hsw := swaps_any g gcap (m - i) m j f zs T wr (by omega) (by rw [HZL.out]; omega) (by rw [HZL.out]; omega) HL.out.1
      rw [HZL.out] at hsw
      have HSW := Lib.hid hsw; clear hsw
      go_wp2_with fail
      refine HSW.out.mono ?_
      rintro e wx ⟨rfl, hl⟩
      have HX := Lib.hid (HL.out.trans hl); clear hl
      go_wp2_with fail
      go_roundw
      case rel => exact ⟨i - j, j, _, by omega, by omega, by omega, by omega, by go_num, rfl, by rw [swaps_length, HZL.out], fun p => by rw [rot_left c1 him (by rw [HZL.out]; omega), HROT.out], HX.out⟩
      case measure => simp [intOf]; omega
end Go.Proofs.Ytgelkmpmificpaa
