/- package region: bands in memory; row by contract. -/
import Derived.Test.YtkpamofamcndnaaRegU
import Derived.Test.YtkpamofamcndnaaInts
import Derived.Test.YtkpamofamcndnaaBut
import Derived.Test.YtkpamofamcndnaaRegionD
import Derived.Test.YtkpamofamcndnaaRow
import Derived.Test.YtkpamofamcndnaaDrew
import Derived.LoopTactic
import Derived.Deep.OwnRows
import Derived.Deep.DeepCutAuto
namespace Go.Proofs.Ytkpamofamcndnaa
open Go.RowKit
set_option linter.unusedSimpArgs false
set_option linter.unusedVariables false
-- below_from_drew
attribute [local go_sem] ov_cell_same ov_cell_other ov_frozen_same ov_frozen_other ov_size ov_setCell_same ov_setCell_other cell_alloc_old frozen_alloc_old setCell_alloc_old old_alloc old_ov old_drew old_drewN old_setCell
attribute [local go_sem ↓] run_max2 run_min2

def b0Z : BandZ := ⟨0, 0, []⟩
/-- Bands, three cells each. -/
def BandsAt (w : World) (a : Option Addr) (B : List BandZ) : Prop := 0 < B.length → ∃ b off, a = some ⟨b, off, none⟩ ∧ b < w.heap.size ∧ ∀ i, i < B.length → w.cell? ⟨b, off + i * 3, none⟩ = some (.int .i64 (B.getD i b0Z).y0) ∧ w.cell? ⟨b, off + i * 3 + 1, none⟩ = some (.int .i64 (B.getD i b0Z).y1) ∧
  ∃ ea ec, w.cell? ⟨b, off + i * 3 + 2, none⟩ = some (.slice ea (B.getD i b0Z).es.length ec) ∧ (B.getD i b0Z).es.length ≤ ec ∧ IntsAt w ea (B.getD i b0Z).es
theorem BandsAt.below {w w1 : World} {a : Option Addr} {B : List BandZ} (h : BandsAt w a B) (hb : Below w.heap.size w w1) : BandsAt w1 a B := fun h0 => by
  obtain ⟨b, off, h1, h2, h3⟩ := h h0
  refine ⟨b, off, h1, Nat.lt_of_lt_of_le h2 hb.size, fun i hi => ?_⟩
  obtain ⟨k0, k1, ea, ec, k2, k3, k4⟩ := h3 i hi
  exact ⟨(hb.cell (p := ⟨b, _, none⟩) h2).trans k0, (hb.cell (p := ⟨b, _, none⟩) h2).trans k1, ea, ec, (hb.cell (p := ⟨b, _, none⟩) h2).trans k2, k3, k4.below hb⟩
theorem bandsAt_nil (w : World) (a : Option Addr) : BandsAt w a [] := fun h => by simp at h
theorem drop_getD {B : List BandZ} {i : Nat} (h : i < B.length) : B.drop i = B.getD i b0Z :: B.drop (i + 1) := by
  rw [List.drop_eq_getElem_cons h]; simp [List.getD_eq_getElem?_getD, h]
set_option maxRecDepth 100000 in
set_option maxHeartbeats 4000000 in
theorem row_any (a : Option Addr) (n c : Nat) (y : Int) (B : List BandZ) (w : World) (hn : B.length = n) (hm : n ≤ 100000000000) (h : BandsAt w a B) :
    Calls Try.prog 58 #[.agg #[.slice a n c], .int .i64 y] w fun e w' => ∃ ea ec, e = .returned (.slice ea (rowB B y).length ec) ∧ (rowB B y).length ≤ ec ∧ IntsAt w' ea (rowB B y) ∧ Below w.heap.size w w' := by
  have HN := Lib.hid hn; have HB := Lib.hid h
  clear hn h
  go_enter Try.func58, Try.ntmps58
  go_wp2_with fail
  go_loopw [10] (fun iv wr => ∃ i : Nat, iv = .int .i64 (i : Int) ∧ i ≤ n ∧ Below w.heap.size w wr ∧ rowB (B.drop i) y = rowB B y) (fun iv _ => n - (intOf iv).toNat)
  case atStart => exact ⟨0, rfl, Nat.zero_le _, by (repeat' (first | (with_reducible exact Below.refl _ _) | (with_reducible assumption) | (with_reducible refine below_from_drew ?_) | (with_reducible refine Below.alloc ?_ ?_ _) | (with_reducible refine Below.drew ?_) | (with_reducible refine below_drewN ?_ _) | (with_reducible refine Below.setCell ?_ ?_ _) | (with_reducible refine below_via ?_ (by assumption) ?_) | (with_reducible refine below_ov ?_ ?_ _ _) | go_size)), rfl⟩
  case round =>
    obtain ⟨i, rfl, hi, hb, hr⟩ := hrel
    have HW := Lib.hid hb; have HR := Lib.hid hr
    have hzw := hb.size
    clear hb hr
    rcases Nat.lt_or_ge i n with c1 | c1
    · have c2 : (i : Int) < n := by omega
      have c3 : (0 : Int) ≤ (i : Int) := by omega
      obtain ⟨b, off, rfl, hbl, hc⟩ := (HB.out.below HW.out) (by rw [HN.out]; omega)
      obtain ⟨k0, k1, ea, ec, k2, k3, k4⟩ := hc i (by rw [HN.out]; exact c1)
      have hd := drop_getD (B := B) (i := i) (by rw [HN.out]; exact c1)
      have hq := HR.out
      rw [hd] at hq
      have hob : Old wr b := hbl
      generalize B.getD i b0Z = x at *
      obtain ⟨y0, y1, es⟩ := x
      simp only at k0 k1 k2 k3 k4
      have HI := Lib.hid k4; have HQ := Lib.hid hq
      clear hc hd hq k4
      by_cases d0 : y0 ≤ y
      · by_cases d1 : y < y1
        · have e1 : rowB B y = es := by rw [← HQ.out]; exact if_pos ⟨d0, d1⟩
          have HE := Lib.hid e1
          clear e1
          go_wp2_with fail
          go_ret
          exact ⟨ea, ec, by rw [HE.out]; rfl, by rw [HE.out]; exact k3, by rw [HE.out]; exact HI.out.below (by (repeat' (first | (with_reducible exact Below.refl _ _) | (with_reducible assumption) | (with_reducible refine below_from_drew ?_) | (with_reducible refine Below.alloc ?_ ?_ _) | (with_reducible refine Below.drew ?_) | (with_reducible refine below_drewN ?_ _) | (with_reducible refine Below.setCell ?_ ?_ _) | (with_reducible refine below_via ?_ (by assumption) ?_) | (with_reducible refine below_ov ?_ ?_ _ _) | go_size))), by have q := HW.out; (repeat' (first | (with_reducible exact Below.refl _ _) | (with_reducible assumption) | (with_reducible refine below_from_drew ?_) | (with_reducible refine Below.alloc ?_ ?_ _) | (with_reducible refine Below.drew ?_) | (with_reducible refine below_drewN ?_ _) | (with_reducible refine Below.setCell ?_ ?_ _) | (with_reducible refine below_via ?_ (by assumption) ?_) | (with_reducible refine below_ov ?_ ?_ _ _) | go_size))⟩
        · have d2 : decide (y < y1) = false := by simp; omega
          have e1 : rowB (B.drop (i + 1)) y = rowB B y := by rw [← HQ.out]; exact (if_neg (fun q => d1 q.2)).symm
          have HE := Lib.hid e1
          clear e1 d1
          go_wp2_with fail
          go_roundw
          case rel => exact ⟨i + 1, by go_num, by omega, by have q := HW.out; (repeat' (first | (with_reducible exact Below.refl _ _) | (with_reducible assumption) | (with_reducible refine below_from_drew ?_) | (with_reducible refine Below.alloc ?_ ?_ _) | (with_reducible refine Below.drew ?_) | (with_reducible refine below_drewN ?_ _) | (with_reducible refine Below.setCell ?_ ?_ _) | (with_reducible refine below_via ?_ (by assumption) ?_) | (with_reducible refine below_ov ?_ ?_ _ _) | go_size)), HE.out⟩
          case measure => simp [intOf]; omega
      · have d2 : decide (y0 ≤ y) = false := by simp; omega
        have e1 : rowB (B.drop (i + 1)) y = rowB B y := by rw [← HQ.out]; exact (if_neg (fun q => d0 q.1)).symm
        have HE := Lib.hid e1
        clear e1 d0
        go_wp2_with fail
        go_roundw
        case rel => exact ⟨i + 1, by go_num, by omega, by have q := HW.out; (repeat' (first | (with_reducible exact Below.refl _ _) | (with_reducible assumption) | (with_reducible refine below_from_drew ?_) | (with_reducible refine Below.alloc ?_ ?_ _) | (with_reducible refine Below.drew ?_) | (with_reducible refine below_drewN ?_ _) | (with_reducible refine Below.setCell ?_ ?_ _) | (with_reducible refine below_via ?_ (by assumption) ?_) | (with_reducible refine below_ov ?_ ?_ _ _) | go_size)), HE.out⟩
        case measure => simp [intOf]; omega
    · obtain rfl : n = i := by omega
      have c2 : decide ((n : Int) < n) = false := by simp
      have e1 : rowB B y = [] := by
        have q := HR.out
        rw [List.drop_eq_nil_of_le (by rw [HN.out]; exact Nat.le_refl _)] at q
        exact q.symm
      have HE := Lib.hid e1
      clear e1
      go_wp2_with fail
      go_ret
      exact ⟨none, 0, by rw [HE.out]; rfl, by rw [HE.out]; exact Nat.le_refl _, by rw [HE.out]; exact intsAt_nil _ _, by have q := HW.out; (repeat' (first | (with_reducible exact Below.refl _ _) | (with_reducible assumption) | (with_reducible refine below_from_drew ?_) | (with_reducible refine Below.alloc ?_ ?_ _) | (with_reducible refine Below.drew ?_) | (with_reducible refine below_drewN ?_ _) | (with_reducible refine Below.setCell ?_ ?_ _) | (with_reducible refine below_via ?_ (by assumption) ?_) | (with_reducible refine below_ov ?_ ?_ _ _) | go_size))⟩
end Go.Proofs.Ytkpamofamcndnaa
