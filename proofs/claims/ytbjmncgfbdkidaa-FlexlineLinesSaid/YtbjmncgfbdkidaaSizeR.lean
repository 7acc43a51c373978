/- ref18.Size. -/
import Derived.Test.YtbjmncgfbdkidaaAddR
import Derived.Test.YtbjmncgfbdkidaaFlexG
namespace Go.Proofs.Ytbjmncgfbdkidaa
open Go.RowKit
set_option linter.unusedSimpArgs false
set_option linter.unusedVariables false
-- below_from_drew
attribute [local go_sem] ov_cell_same ov_cell_other ov_frozen_same ov_frozen_other ov_size ov_setCell_same ov_setCell_other cell_alloc_old frozen_alloc_old setCell_alloc_old old_alloc old_ov old_drew old_drewN old_setCell
attribute [local go_sem ↓] run_max2 run_min2

/-- The numbers that ref18.Size adds: d items from f on, with the gaps between them. -/
def lstF (xs : List Int) (gap : Int) (f : Nat) : Nat → List Int
  | 0 => []
  | d + 1 => lstF xs gap f d ++ (if 0 < d then [gap] else []) ++ [xs.getD (f + d) 0]
theorem lstF_len (xs : List Int) (gap : Int) (f : Nat) : ∀ d, (lstF xs gap f d).length ≤ 2 * d
  | 0 => by simp [lstF]
  | d + 1 => by
    have := lstF_len xs gap f d
    simp only [lstF, List.length_append]
    split <;> simp <;> omega
theorem lstF_mem {xs : List Int} {gap : Int} {f : Nat} {P : Int → Prop} (hg : P gap) (h0 : P 0) (hx : ∀ x ∈ xs, P x) : ∀ d, ∀ y ∈ lstF xs gap f d, P y
  | 0 => by simp [lstF]
  | d + 1 => by
    intro y hy
    simp only [lstF, List.mem_append, List.mem_singleton] at hy
    rcases hy with (hy | hy) | rfl
    · exact lstF_mem hg h0 hx d y hy
    · split at hy
      · simp at hy; rw [hy]; exact hg
      · simp at hy
    · rcases Nat.lt_or_ge (f + d) xs.length with h | h
      · have := hx _ (List.getElem_mem h)
        simpa [List.getD_eq_getElem?_getD, h] using this
      · simpa [List.getD_eq_getElem?_getD, List.getElem?_eq_none h] using h0
theorem ints_row64 {w : World} {base cap n : Nat} {e : TypeId} {a : Option Addr} {zs : List Int} (hn : n = zs.length) (h : w.ownsRow base e 1 (.slice a n cap) n (ints64 zs)) : IntsIn w a zs := by
  intro h0
  obtain ⟨a', c', hv, _, _, hr⟩ := row_reads h
  cases hv
  obtain ⟨g, ha, _, hg, hcs⟩ := hr (by omega)
  exact ⟨g, 0, ha, hg, fun i hi => by rw [Nat.zero_add]; exact hcs i _ (by simp [ints64, hi])⟩
set_option maxRecDepth 100000 in
set_option maxHeartbeats 4000000 in
theorem size_any (a : Option Addr) (cap : Nat) (xs : List Int) (f t : Nat) (gap : Int) (w : World) (hft : f ≤ t) (ht : t ≤ xs.length) (hn : xs.length ≤ 1000) (hg : -9223372036854775808 ≤ gap ∧ gap ≤ 9223372036854775807) (hx : ∀ x ∈ xs, -9223372036854775808 ≤ x ∧ x ≤ 9223372036854775807) (hr : IntsIn w a xs) :
    Calls Try.prog 83 #[.slice a xs.length cap, .int .i64 (f : Int), .int .i64 (t : Int), .int .i64 gap] w fun e w' => e = .returned (.tuple #[.int .i64 (raN (lstF xs gap f (t - f))), .int .i64 (raE (lstF xs gap f (t - f)))]) ∧ Below w.heap.size w w' := by
  obtain ⟨i0, hi, hz0, hz1, hz2⟩ := info_parts infoI64
  have HX := Lib.hid hx; have HG := Lib.hid hg; have HR := Lib.hid hr
  clear hx hg hr
  generalize hlen : xs.length = n at *
  have HN := Lib.hid hlen; clear hlen
  go_enter Try.func83, Try.ntmps83
  go_wp2_with fail
  go_loopw [10, 11] (fun sl iv wr => ∃ (d len : Nat) (al : Option Addr) (ca : Nat), f + d ≤ t ∧ iv = .int .i64 ((f + d : Nat) : Int) ∧ sl = .slice al len ca ∧ len = (lstF xs gap f d).length ∧ Below w.heap.size w wr ∧ wr.ownsRow w.heap.size 2 1 (.slice al len ca) len (ints64 (lstF xs gap f d))) (fun _ iv _ => t - (intOf iv).toNat)
  case atStart => exact ⟨0, 0, none, 0, by omega, by simp, rfl, rfl, Below.refl _ _, World.ownsRow_nil _ _ _ _⟩
  case round =>
    obtain ⟨d, len, al, ca, hd, rfl, rfl, hlen, hbw, hown⟩ := hrel
    have HOWN := Lib.hid hown; have HBW := Lib.hid hbw; have HLEN := Lib.hid hlen
    have hsz := hbw.size
    have hl2 := lstF_len xs gap f d
    have hl3 : len ≤ 2 * d := by rw [hlen]; exact hl2
    clear hown hl2 hlen
    rcases Nat.lt_or_ge (f + d) t with c1 | c1
    · obtain ⟨b, off, rfl, hbl, hcs⟩ := HR.out (by rw [HN.out]; omega)
      have g0 := (hbw.cell (p := ⟨b, off + (f + d), none⟩) hbl).trans (hcs (f + d) (by rw [HN.out]; omega))
      have hnext : lstF xs gap f (d + 1) = lstF xs gap f d ++ (if 0 < d then [gap] else []) ++ [xs.getD (f + d) 0] := rfl
      have HNX := Lib.hid hnext
      clear hcs hnext hbw
      generalize xs.getD (f + d) 0 = x at *
      generalize hk : f + d = k at *
      have HK := Lib.hid hk; clear hk
      have d1 : (k : Int) < t := by omega
      have d2 : (k : Int) < n := by omega
      have hbr : b < wr.heap.size := by omega
      have hd60 : d ≤ 1000 := by have := HK.out; omega
      rcases Nat.eq_zero_or_pos d with rfl | hd0
      · have d3 : (k : Int) ≤ f := by have := HK.out; omega
        have hnx := HNX.out
        rw [if_neg (by omega)] at hnx
        have HN2 := Lib.hid hnx; clear hnx
        go_wp2_with (at_builtin; refine wpList_append_own _ rfl _ _ 47 rfl w.heap.size 2 i0 (.int .i64 0) 1 8 Try.underlying47 hi hz0 hz1 hz2 rfl (by decide) _ _ _ rfl (HOWN.out.alloc _) ⟨wr.heap.size, 0, none⟩ 1 1 [.int .i64 x] rfl rfl ?p1 ?p2 ?p3 ?p4 ?p5 ?_)
        case p1 => exact news_at (by simp)
        case p2 => exact one_of rfl
        case p3 => unfold maxLen; omega
        case p4 => omega
        case p5 => simp; omega
        intro v' w2 hown' hgrow hnil
        clear hnil
        have hB2 : Below w.heap.size w w2 := Below.grown (by have q := HBW.out; (repeat' (first | (with_reducible exact Below.refl _ _) | (with_reducible assumption) | (with_reducible refine below_from_drew ?_) | (with_reducible refine Below.alloc ?_ ?_ _) | (with_reducible refine Below.drew ?_) | (with_reducible refine below_drewN ?_ _) | (with_reducible refine Below.setCell ?_ ?_ _) | (with_reducible refine below_via ?_ (by assumption) ?_) | (with_reducible refine below_ov ?_ ?_ _ _) | go_size))) hgrow (by simp; omega) (fun bb h => row_block HOWN.out bb h)
        obtain ⟨al', ca', rfl, hcc, _⟩ := row_reads hown'
        have HO2 := Lib.hid hown'; have HB2 := Lib.hid hB2
        clear hown' hB2 hgrow
        go_wp2_with fail
        go_roundw
        case rel => exact ⟨1, len + 1, al', ca', by have := HK.out; omega, by have := HK.out; subst this; go_num, rfl, by rw [HN2.out]; simp [HLEN.out], HB2.out, by rw [HN2.out]; simpa [ints64] using HO2.out⟩
        case measure => simp [intOf]; omega
      · have d3 : (f : Int) < k := by have := HK.out; omega
        have hnx := HNX.out
        rw [if_pos hd0] at hnx
        have HN2 := Lib.hid hnx; clear hnx
        go_wp2_with (at_builtin; refine wpList_append_own _ rfl _ _ 47 rfl w.heap.size 2 i0 (.int .i64 0) 1 8 Try.underlying47 hi hz0 hz1 hz2 rfl (by decide) _ _ _ rfl (HOWN.out.alloc _) ⟨wr.heap.size, 0, none⟩ 1 1 [.int .i64 gap] rfl rfl ?q1 ?q2 ?q3 ?q4 ?q5 ?_)
        case q1 => exact news_at (by simp)
        case q2 => exact one_of rfl
        case q3 => unfold maxLen; omega
        case q4 => omega
        case q5 => simp; omega
        intro v' w2 hown' hgrow hnil
        clear hnil
        have hB2 : Below w.heap.size w w2 := Below.grown (by have q := HBW.out; (repeat' (first | (with_reducible exact Below.refl _ _) | (with_reducible assumption) | (with_reducible refine below_from_drew ?_) | (with_reducible refine Below.alloc ?_ ?_ _) | (with_reducible refine Below.drew ?_) | (with_reducible refine below_drewN ?_ _) | (with_reducible refine Below.setCell ?_ ?_ _) | (with_reducible refine below_via ?_ (by assumption) ?_) | (with_reducible refine below_ov ?_ ?_ _ _) | go_size))) hgrow (by simp; omega) (fun bb h => row_block HOWN.out bb h)
        have g1 : w2.cell? ⟨b, off + k, none⟩ = some (.int .i64 x) := by
          rw [← g0]
          exact (hB2.cell (p := ⟨b, off + k, none⟩) hbl).trans (HBW.out.cell (p := ⟨b, off + k, none⟩) hbl).symm
        obtain ⟨al', ca', rfl, hcc, _⟩ := row_reads hown'
        have hsz2 := hB2.size
        have HO2 := Lib.hid hown'; have HB2 := Lib.hid hB2
        have hbr2 : b < w2.heap.size := by omega
        clear hown' hB2 hgrow g0
        go_wp2_with (at_builtin; refine wpList_append_own _ rfl _ _ 47 rfl w.heap.size 2 i0 (.int .i64 0) 1 8 Try.underlying47 hi hz0 hz1 hz2 rfl (by decide) _ _ _ rfl (HO2.out.alloc _) ⟨w2.heap.size, 0, none⟩ 1 1 [.int .i64 x] rfl rfl ?r1 ?r2 ?r3 ?r4 ?r5 ?_)
        case r1 => exact news_at (by simp)
        case r2 => exact one_of rfl
        case r3 => unfold maxLen; omega
        case r4 => omega
        case r5 => simp; omega
        intro v3 w3 hown3 hgrow3 hnil
        clear hnil
        have hB3 : Below w.heap.size w w3 := Below.grown (by have q := HB2.out; (repeat' (first | (with_reducible exact Below.refl _ _) | (with_reducible assumption) | (with_reducible refine below_from_drew ?_) | (with_reducible refine Below.alloc ?_ ?_ _) | (with_reducible refine Below.drew ?_) | (with_reducible refine below_drewN ?_ _) | (with_reducible refine Below.setCell ?_ ?_ _) | (with_reducible refine below_via ?_ (by assumption) ?_) | (with_reducible refine below_ov ?_ ?_ _ _) | go_size))) hgrow3 (by simp; omega) (fun bb h => row_block HO2.out bb h)
        obtain ⟨al3, ca3, rfl, hcc3, _⟩ := row_reads hown3
        have HO3 := Lib.hid hown3; have HB3 := Lib.hid hB3
        clear hown3 hB3 hgrow3
        go_wp2_with fail
        go_roundw
        case rel => exact ⟨d + 1, len + 1 + 1, al3, ca3, by have := HK.out; omega, by have := HK.out; subst this; go_num, rfl, by rw [HN2.out]; simp [HLEN.out], HB3.out, by rw [HN2.out]; simpa [ints64] using HO3.out⟩
        case measure => simp [intOf]; omega
    · have hdt : d = t - f := by omega
      subst hdt
      rw [show f + (t - f) = t by omega]
      have d1 : decide ((t : Int) < t) = false := by simp
      obtain rfl := HLEN.out
      have hadd := radd_any al ca (lstF xs gap f (t - f)) wr (by omega) (lstF_mem (P := fun y => -9223372036854775808 ≤ y ∧ y ≤ 9223372036854775807) HG.out (by omega) HX.out _) (ints_row64 rfl HOWN.out)
      have HADD := Lib.hid hadd
      clear hadd
      go_wp2_with fail
      refine HADD.out.mono ?_
      rintro e w4 ⟨rfl, hb4⟩
      have H7 := Lib.hid (below_via HBW.out hb4 HBW.out.size)
      clear hb4
      go_wp2_with fail
      go_ret2
      exact ⟨rfl, H7.out⟩
end Go.Proofs.Ytbjmncgfbdkidaa
