/- flexline.Sorted at three orders; clapboardlaw18.speaks. -/
import Derived.Test.YtgelkmpmificpaaSortB
import Derived.Test.YtgelkmpmificpaaFlexB
namespace Go.Proofs.Ytgelkmpmificpaa
open Go.RowKit
set_option linter.unusedSimpArgs false
set_option linter.unusedVariables false
-- below_from_drew
attribute [local go_sem] ov_cell_same ov_cell_other ov_frozen_same ov_frozen_other ov_size ov_setCell_same ov_setCell_other cell_alloc_old frozen_alloc_old setCell_alloc_old old_alloc old_ov old_drew old_drewN old_setCell
attribute [local go_sem ↓] run_max2 run_min2

set_option maxRecDepth 100000 in
set_option maxHeartbeats 2000000 in
theorem stable_small (p b off cap g gcap n : Nat) (os : List Int) (ys : List Nat) (T : TypeId) (w : World) (hn : ys.length = n) (h0 : 0 < n) (h20 : n < 20) (hos : os.length ≤ 1000000) (hin : ∀ y ∈ ys, y < os.length) (hgc : n ≤ gcap)
    (hp : p < w.heap.size) (hb0 : b < w.heap.size) (hpg : p ≠ g) (hbg : b ≠ g) (hc : w.cell? ⟨p, 0, none⟩ = some (.slice (some ⟨b, off, none⟩) os.length cap)) (hr : ∀ i, i < os.length → w.cell? ⟨b, off + i, none⟩ = some (.int .i64 (os.getD i 0))) (hg : Has w g (placeCells ys) T) :
    Calls Try.prog 87 #[.slice (some ⟨g, 0, none⟩) n gcap, .int .i64 (n : Int), .func (Fn.func 55) #[] #[.pointer (some ⟨p, 0, none⟩)]] w fun e w' => e = .returned (.tuple #[]) ∧ SortL w g T (sinksF os 0 1 (n - 1) ys) w' := by
  have hs := sorts_any p b off cap g gcap 0 n os ys T w h0 (by omega) (by omega) hos hin (by omega) hp hb0 hpg hbg hc hr hg
  rw [hn] at hs
  have HS := Lib.hid hs
  clear hs hr hg hin hc
  have c1 : (n : Int) < 20 := by omega
  have c2 : (n : Int) ≤ 20 := by omega
  go_enter Try.func87, Try.ntmps87
  go_wp2_with fail
  refine wp_loop_rounds 1 ?_
  rw [rounds_succ]; go_wp2_with fail
  refine HS.out.mono ?_
  rintro e w1 ⟨rfl, hl⟩
  have HL := Lib.hid hl; clear hl
  go_wp2_with fail
  refine wp_loop_rounds 1 ?_
  rw [rounds_succ]; go_wp2_with fail
  go_end0
  exact ⟨rfl, HL.out⟩
set_option maxRecDepth 100000 in
set_option maxHeartbeats 2000000 in
theorem sortstable_small (p b off cap g gcap n : Nat) (os : List Int) (ys : List Nat) (T : TypeId) (w : World) (hn : ys.length = n) (h0 : 0 < n) (h20 : n < 20) (hos : os.length ≤ 1000000) (hin : ∀ y ∈ ys, y < os.length) (hgc : n ≤ gcap)
    (hp : p < w.heap.size) (hb0 : b < w.heap.size) (hpg : p ≠ g) (hbg : b ≠ g) (hc : w.cell? ⟨p, 0, none⟩ = some (.slice (some ⟨b, off, none⟩) os.length cap)) (hr : ∀ i, i < os.length → w.cell? ⟨b, off + i, none⟩ = some (.int .i64 (os.getD i 0))) (hg : Has w g (placeCells ys) T) :
    Calls Try.prog 54 #[.slice (some ⟨g, 0, none⟩) n gcap, .func (Fn.func 55) #[] #[.pointer (some ⟨p, 0, none⟩)]] w fun e w' => e = .returned (.tuple #[]) ∧ SortL w g T (sinksF os 0 1 (n - 1) ys) w' := by
  have HS := Lib.hid (stable_small p b off cap g gcap n os ys T w hn h0 h20 hos hin hgc hp hb0 hpg hbg hc hr hg)
  clear hr hg hin hc
  go_enter Try.func54, Try.ntmps54
  go_wp2_with fail
  refine HS.out.mono ?_
  rintro e w1 ⟨rfl, hl⟩
  have HL := Lib.hid hl; clear hl
  go_wp2_with fail
  go_end0
  exact ⟨rfl, HL.out⟩
set_option maxRecDepth 100000 in
set_option maxHeartbeats 2000000 in
theorem infoN : (Try.prog.info? 3).map (fun i => (i.zero, i.size, i.bytes)) = some (some (.int .i64 0), 1, 8) := by kernel_rfl
set_option maxRecDepth 100000 in
set_option maxHeartbeats 2000000 in
theorem sorted3 (b : Nat) (w : World) (h : Has w b #[.int .i64 1, .int .i64 0, .int .i64 1] 3) :
    Calls Try.prog 14 #[.slice (some ⟨b, 0, none⟩) 3 3] w fun e w' => ∃ g, e = .returned (.slice (some ⟨g, 0, none⟩) 3 3) ∧ Has w' g #[.int .i64 1, .int .i64 0, .int .i64 2] 3 ∧ Below w.heap.size w w' := by
  have hl := h.lt
  have H := Lib.hid h; clear h
  obtain ⟨i0, hi, hz0, hz1, hz2⟩ := info_parts infoN
  have hmk : ∀ W : World, (Instr.makeSlice 22 (.int .i64 3) (.int .i64 3)).run Try.prog W = .ok (.slice (some ⟨W.heap.size, 0, none⟩) 3 3) (W.alloc (.cells #[.int .i64 0, .int .i64 0, .int .i64 0] 3)) := fun W => by
    have := run_make W 22 3 i0 (.int .i64 0) Try.underlying22 hi hz0 .i64 .i64 3 3 (by omega) (by omega) (by rw [hz2]; decide) (by omega)
    rw [hz1, show madeCells (Value.int .i64 0).cells (Int.toNat 3 * 1) = #[.int .i64 0, .int .i64 0, .int .i64 0] from by kernel_rfl] at this
    exact this
  clear hi hz0 hz1 hz2
  go_enter Try.func14, Try.ntmps14
  go_wp2_with fail
  refine wp_loop_rounds 4 ?_
  rw [rounds_succ]; go_wp2_with fail
  rw [rounds_succ]; go_wp2_with fail
  rw [rounds_succ]; go_wp2_with fail
  rw [rounds_succ]; go_wp2_with fail
  have hn := has_new (w := w.alloc (.cells #[.slice (some ⟨b, 0, none⟩) 3 3] 22)) (b := w.heap.size + 1) (cs := placeCells [0, 1, 2]) (T := 3) (by simp)
  refine (sortstable_small w.heap.size b 0 3 (w.heap.size + 1) 3 3 [1, 0, 1] [0, 1, 2] 3 _ rfl (by omega) (by omega) (by simp) (by decide) (by omega) (by simp; omega) (by simp; omega) (by omega) (by omega) ?_ ?_ hn).mono ?_
  · exact (has_cell (has_alloc (has_new rfl)) rfl)
  · intro i hi
    rcases i with _ | _ | _ | i
    · exact has_cell (has_alloc (has_alloc H.out)) rfl
    · exact has_cell (has_alloc (has_alloc H.out)) rfl
    · exact has_cell (has_alloc (has_alloc H.out)) rfl
    · simp at hi; omega
  rintro e w1 ⟨rfl, hs⟩
  have h1 : Has w1 (w.heap.size + 1) #[.int .i64 1, .int .i64 0, .int .i64 2] 3 := hs.1
  have h2 : Below w.heap.size w w1 := by
    obtain ⟨u, hu, rfl⟩ := hs.2.2.2.apart hn h1
    exact below_ov (below_via (by (repeat' (first | (with_reducible exact Below.refl _ _) | (with_reducible assumption) | (with_reducible refine below_from_drew ?_) | (with_reducible refine Below.alloc ?_ ?_ _) | (with_reducible refine Below.drew ?_) | (with_reducible refine below_drewN ?_ _) | (with_reducible refine Below.setCell ?_ ?_ _) | (with_reducible refine below_via ?_ (by assumption) ?_) | (with_reducible refine below_ov ?_ ?_ _ _) | go_size))) hu (by simp; omega)) (by omega) _ _
  have H1 := Lib.hid h1; have H2 := Lib.hid h2
  clear hs h1 h2 hn hmk
  go_wp2_with fail
  go_ret
  exact ⟨_, rfl, H1.out, H2.out⟩
def eqP (a b x y : Int) : Bool := decide (a = x) && decide (b = y)
theorem eqIn_pair (a b x y : Int) (w : World) : (Op.equalIn 10000 130 (.agg #[.int .i64 (a), .int .i64 (b)]) (.agg #[.int .i64 (x), .int .i64 (y)])).run Try.prog w = .ok (eqP a b x y) w := by
  have u3 := Try.underlying3
  have a3 := Try.isAgg3
  have z3 := Try.sizeOf3
  rw [show (10000 : Nat) = 9999 + 1 from rfl, Op.equalIn]
  simp only [Sem.run_bind, run_underlying Try.underlying130, Result.andThen_ok]
  simp only [Std.Legacy.Range.forIn_eq_forIn_range', Std.Legacy.Range.size, Nat.sub_zero, Nat.add_sub_cancel, Nat.div_one, List.range'_succ, List.range'_zero, List.forIn_cons, List.forIn_nil]
  go_simp
  by_cases h1 : a = x <;> by_cases h2 : b = y <;> simp [eqP, h1, h2]
attribute [local go_sem] eqIn_pair
set_option maxRecDepth 100000 in
set_option maxHeartbeats 2000000 in
theorem speaks18_any (w : World) : Calls Try.prog 13 #[] w fun e w' => e = .returned (.bool true) ∧ Below w.heap.size w w' := by
  go_enter Try.func13, Try.ntmps13
  go_wp2_with fail
  have hn := has_new (w := w) (b := w.heap.size) (cs := #[.int .i64 40, .int .i64 40, .int .i64 40]) (T := 2) rfl
  refine (l18_ok w.heap.size 0 3 [40, 40, 40] 95 10 (L := [(0, 2), (2, 3)]) (by kernel_rfl) _ (by simp) (by simp) hn.lt (by simp) ?_).mono ?_
  · intro i hi
    rcases i with _ | _ | _ | i
    · exact has_cell hn rfl
    · exact has_cell hn rfl
    · exact has_cell hn rfl
    · simp at hi; omega
  rintro e w1 ⟨a, c, rfl, hp, hb⟩
  obtain ⟨g, rfl, hg, hc⟩ := hp (by simp)
  obtain ⟨p0, p1⟩ := hc 0 (by simp)
  obtain ⟨p2, p3⟩ := hc 1 (by simp)
  simp at p0 p1 p2 p3
  have hB : Below w.heap.size w w1 := below_via (by (repeat' (first | (with_reducible exact Below.refl _ _) | (with_reducible assumption) | (with_reducible refine below_from_drew ?_) | (with_reducible refine Below.alloc ?_ ?_ _) | (with_reducible refine Below.drew ?_) | (with_reducible refine below_drewN ?_ _) | (with_reducible refine Below.setCell ?_ ?_ _) | (with_reducible refine below_via ?_ (by assumption) ?_) | (with_reducible refine below_ov ?_ ?_ _ _) | go_size))) hb (by simp)
  have HB := Lib.hid hB
  have hsz := hB.size
  clear hb hc hn hp hB
  go_wp2_with fail
  refine (sorted3 w1.heap.size _ (has_new rfl)).mono ?_
  rintro e w2 ⟨g2, rfl, h2, hb2⟩
  have k2 := h2.cells
  have hB2 : Below w.heap.size w w2 := below_via (by have q := HB.out; (repeat' (first | (with_reducible exact Below.refl _ _) | (with_reducible assumption) | (with_reducible refine below_from_drew ?_) | (with_reducible refine Below.alloc ?_ ?_ _) | (with_reducible refine Below.drew ?_) | (with_reducible refine below_drewN ?_ _) | (with_reducible refine Below.setCell ?_ ?_ _) | (with_reducible refine below_via ?_ (by assumption) ?_) | (with_reducible refine below_ov ?_ ?_ _ _) | go_size))) hb2 (by simp; omega)
  have hg2 : ∀ o, w2.cell? ⟨g, o, none⟩ = w1.cell? ⟨g, o, none⟩ := fun o => (hb2.cell (p := ⟨g, o, none⟩) (by simp; omega)).trans (World.cell?_alloc_old _ _ _ (by show g ≠ _; omega))
  have HB2 := Lib.hid hB2
  have q1 : eqP 0 2 0 2 = true := by decide
  have q2 : eqP 2 3 2 3 = true := by decide
  clear hb2 hB2 h2
  go_wp2_with fail
  go_ret
  exact ⟨rfl, HB2.out⟩
end Go.Proofs.Ytgelkmpmificpaa
