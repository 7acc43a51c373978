/- Package snap: edges, boxes on whole pixels. -/
import Derived.Test.YtbjmncgfbdkidaaFix
import Derived.Test.YtbjmncgfbdkidaaRectP
import Derived.Test.YtbjmncgfbdkidaaBlk
namespace Go.Proofs.Ytbjmncgfbdkidaa
open Go.RowKit
set_option linter.unusedSimpArgs false
set_option linter.unusedVariables false
-- below_from_drew
attribute [local go_sem] ov_cell_same ov_cell_other ov_frozen_same ov_frozen_other ov_size ov_setCell_same ov_setCell_other cell_alloc_old frozen_alloc_old setCell_alloc_old old_alloc old_ov old_drew old_drewN old_setCell
attribute [local go_sem ↓] run_max2 run_min2 eql_rect

theorem t64 (a : Int) : (0 ≤ a ∧ a.tdiv 64 = a / 64 ∧ a.tmod 64 = a % 64) ∨ (a < 0 ∧ a.tdiv 64 = -((-a) / 64) ∧ a.tmod 64 = -((-a) % 64)) := by
  by_cases h : a < 0
  · refine .inr ⟨h, ?_, ?_⟩
    · have e : a.tdiv 64 = -((-a).tdiv 64) := by rw [Int.neg_tdiv]; omega
      rw [e, Int.tdiv_eq_ediv_of_nonneg (by omega)]
    · have e : a.tmod 64 = -((-a).tmod 64) := by rw [Int.neg_tmod]; omega
      rw [e, Int.tmod_eq_emod_of_nonneg (by omega)]
  · exact .inl ⟨by omega, Int.tdiv_eq_ediv_of_nonneg (by omega), Int.tmod_eq_emod_of_nonneg (by omega)⟩
theorem floor_any (a : Int) (h : i64 a) (w : World) : Calls Try.prog 114 #[.int .i64 a] w fun e w' => e = .returned (.int .i64 (a / 64)) ∧ w = w' := by
  have ht := t64 a
  unfold i64 at h
  have h1 : -144115188075855872 ≤ a.tdiv 64 := by omega
  have h2 : a.tdiv 64 ≤ 144115188075855872 := by omega
  have HT := Lib.hid ht; have H := Lib.hid h
  clear ht h
  by_cases h3 : a.tmod 64 < 0
  all_goals
    go_enter Try.func114, Try.ntmps114
    go_wp2
    go_ret
    have ht := HT.out
    have h := H.out
    exact ⟨ret_int (by omega), rfl⟩
theorem round_any (a : Int) (h : inL a) (w : World) : Calls Try.prog 140 #[.int .i64 a] w fun e w' => e = .returned (.int .i64 ((a + 32) / 64)) ∧ w = w' := by
  obtain ⟨h1, h2⟩ := h
  have hi : i64 a := by unfold i64; omega
  have b1 : -274877906944 ≤ a / 64 := by omega
  have b2 : a / 64 ≤ 274877906944 := by omega
  have HI := Lib.hid hi; clear hi
  by_cases h3 : 32 ≤ a - a / 64 * 64
  all_goals
    go_enter Try.func140, Try.ntmps140
    go_wp2_with (go_at_call 114; (with_reducible refine (floor_any _ HI.out _).mono ?_); rintro e w1 ⟨rfl, rfl⟩)
    go_ret
    exact ⟨ret_int (by omega), rfl⟩
/-- An edge that is snapped. -/
def edgeF (n : Int) : Option Int := (ofF n).bind fun m => some ((m + 32) / 64)
theorem edge_any (n : Int) (w : World) : Calls Try.prog 131 #[.int .i64 n] w fun e w' => Res vi (edgeF n) e ∧ w = w' := by
  go_enter Try.func131, Try.ntmps131
  go_wp2_with (first | (go_at_call 117; (with_reducible refine (of_any _ _).mono ?_); rintro e w1 ⟨⟨m, hm, rfl⟩ | ⟨hm, rfl⟩, rfl⟩; rotate_left; (focus (exact ⟨rfl, .inr ⟨by unfold edgeF; rw [hm]; rfl, rfl⟩, rfl⟩))) | (go_at_call 140; (with_reducible refine (round_any _ (ofF_in hm) _).mono ?_); rintro e w1 ⟨rfl, rfl⟩))
  go_ret
  exact ⟨.inl ⟨_, by unfold edgeF; rw [hm]; rfl, rfl⟩, rfl⟩
abbrev vR (o : Int × Int × Int × Int) : Value := (.agg #[.int .i64 (r0 o.1 o.2.1 o.2.2.1 o.2.2.2), .int .i64 (r1 o.1 o.2.1 o.2.2.1 o.2.2.2), .int .i64 (r2 o.1 o.2.1 o.2.2.1 o.2.2.2), .int .i64 (r3 o.1 o.2.1 o.2.2.1 o.2.2.2)])
/-- A box, as its edges are snapped. -/
def boxF (x y u v : Int) : Option (Int × Int × Int × Int) :=
  (edgeF x).bind fun a => (edgeF y).bind fun b => (addF 0 [x, u]).bind fun s => (edgeF s).bind fun c => (addF 0 [y, v]).bind fun t => (edgeF t).bind fun d => some (a, b, c, d)
set_option maxRecDepth 100000 in
set_option maxHeartbeats 1000000 in
theorem box_any (x y u v : Int) (w : World) : Calls Try.prog 105 #[.int .i64 x, .int .i64 y, .int .i64 u, .int .i64 v] w fun e w' => Res vR (boxF x y u v) e ∧ Below w.heap.size w w' := by
  go_enter Try.func105, Try.ntmps105
  go_wp2_with (first | (go_at_call 131; (with_reducible refine (edge_any x _).mono ?_); rintro e w1 ⟨⟨a, ha, rfl⟩ | ⟨ha, rfl⟩, rfl⟩; rotate_left; (focus (exact ⟨rfl, .inr ⟨by unfold boxF; rw [ha]; rfl, rfl⟩, (by (repeat' (first | (with_reducible exact Below.refl _ _) | (with_reducible assumption) | (with_reducible refine below_from_drew ?_) | (with_reducible refine Below.alloc ?_ ?_ _) | (with_reducible refine Below.drew ?_) | (with_reducible refine below_drewN ?_ _) | (with_reducible refine Below.setCell ?_ ?_ _) | (with_reducible refine below_via ?_ (by assumption) ?_) | (with_reducible refine below_ov ?_ ?_ _ _) | go_size)))⟩))) | (go_at_call 131; (with_reducible refine (edge_any y _).mono ?_); rintro e w1 ⟨⟨b1, hb1, rfl⟩ | ⟨hb1, rfl⟩, rfl⟩; rotate_left; (focus (exact ⟨rfl, .inr ⟨by unfold boxF; rw [ha, hb1]; rfl, rfl⟩, (by (repeat' (first | (with_reducible exact Below.refl _ _) | (with_reducible assumption) | (with_reducible refine below_from_drew ?_) | (with_reducible refine Below.alloc ?_ ?_ _) | (with_reducible refine Below.drew ?_) | (with_reducible refine below_drewN ?_ _) | (with_reducible refine Below.setCell ?_ ?_ _) | (with_reducible refine below_via ?_ (by assumption) ?_) | (with_reducible refine below_ov ?_ ?_ _ _) | go_size)))⟩))))
  (go_at_call 72; (with_reducible refine (add_any _ 2 2 [x, u] _ rfl (by (intro i hi; rcases i with _ | _ | _ | _ | _ | _ | _ | _ | i <;> first | (simp; done) | (go_simp; done) | (simp at hi; done) | omega)) (by omega)).mono ?_); rintro e w1 ⟨⟨s, hs, rfl⟩ | ⟨hs, rfl⟩, rfl⟩; rotate_left; (focus (exact ⟨rfl, .inr ⟨by unfold boxF; rw [ha, hb1, hs]; rfl, rfl⟩, (by (repeat' (first | (with_reducible exact Below.refl _ _) | (with_reducible assumption) | (with_reducible refine below_from_drew ?_) | (with_reducible refine Below.alloc ?_ ?_ _) | (with_reducible refine Below.drew ?_) | (with_reducible refine below_drewN ?_ _) | (with_reducible refine Below.setCell ?_ ?_ _) | (with_reducible refine below_via ?_ (by assumption) ?_) | (with_reducible refine below_ov ?_ ?_ _ _) | go_size)))⟩)))
  go_wp2_with (go_at_call 131; (with_reducible refine (edge_any s _).mono ?_); rintro e w1 ⟨⟨c, hc, rfl⟩ | ⟨hc, rfl⟩, rfl⟩; rotate_left; (focus (exact ⟨rfl, .inr ⟨by unfold boxF; rw [ha, hb1, hs]; dsimp only [Option.bind_some]; rw [hc]; rfl, rfl⟩, (by (repeat' (first | (with_reducible exact Below.refl _ _) | (with_reducible assumption) | (with_reducible refine below_from_drew ?_) | (with_reducible refine Below.alloc ?_ ?_ _) | (with_reducible refine Below.drew ?_) | (with_reducible refine below_drewN ?_ _) | (with_reducible refine Below.setCell ?_ ?_ _) | (with_reducible refine below_via ?_ (by assumption) ?_) | (with_reducible refine below_ov ?_ ?_ _ _) | go_size)))⟩)))
  (go_at_call 72; (with_reducible refine (add_any _ 2 2 [y, v] _ rfl (by (intro i hi; rcases i with _ | _ | _ | _ | _ | _ | _ | _ | i <;> first | (simp; done) | (go_simp; done) | (simp at hi; done) | omega)) (by omega)).mono ?_); rintro e w1 ⟨⟨t, ht, rfl⟩ | ⟨ht, rfl⟩, rfl⟩; rotate_left; (focus (exact ⟨rfl, .inr ⟨by unfold boxF; rw [ha, hb1, hs]; dsimp only [Option.bind_some]; rw [hc, ht]; rfl, rfl⟩, (by (repeat' (first | (with_reducible exact Below.refl _ _) | (with_reducible assumption) | (with_reducible refine below_from_drew ?_) | (with_reducible refine Below.alloc ?_ ?_ _) | (with_reducible refine Below.drew ?_) | (with_reducible refine below_drewN ?_ _) | (with_reducible refine Below.setCell ?_ ?_ _) | (with_reducible refine below_via ?_ (by assumption) ?_) | (with_reducible refine below_ov ?_ ?_ _ _) | go_size)))⟩)))
  go_wp2_with (first | (go_at_call 131; (with_reducible refine (edge_any t _).mono ?_); rintro e w1 ⟨⟨d, hd, rfl⟩ | ⟨hd, rfl⟩, rfl⟩; rotate_left; (focus (exact ⟨rfl, .inr ⟨by unfold boxF; rw [ha, hb1, hs]; dsimp only [Option.bind_some]; rw [hc, ht]; dsimp only [Option.bind_some]; rw [hd]; rfl, rfl⟩, (by (repeat' (first | (with_reducible exact Below.refl _ _) | (with_reducible assumption) | (with_reducible refine below_from_drew ?_) | (with_reducible refine Below.alloc ?_ ?_ _) | (with_reducible refine Below.drew ?_) | (with_reducible refine below_drewN ?_ _) | (with_reducible refine Below.setCell ?_ ?_ _) | (with_reducible refine below_via ?_ (by assumption) ?_) | (with_reducible refine below_ov ?_ ?_ _ _) | go_size)))⟩))) | (go_at_call 15; (with_reducible refine (new_any _ _ _ _ _).mono ?_); rintro e w1 ⟨rfl, hb⟩; refine Exists.elim (after1 (w := w) (b0 := w.heap.size) (cs0 := ?_) (T0 := ?_) hb ?_ ?_) ?_; rotate_left 2; (focus ((repeat' (first | (with_reducible exact Below.refl _ _) | (with_reducible assumption) | (with_reducible refine below_from_drew ?_) | (with_reducible refine Below.alloc ?_ ?_ _) | (with_reducible refine Below.drew ?_) | (with_reducible refine below_drewN ?_ _) | (with_reducible refine Below.setCell ?_ ?_ _) | (with_reducible refine below_via ?_ (by assumption) ?_) | (with_reducible refine below_ov ?_ ?_ _ _) | go_size)); done)); (focus ((repeat' (first | (with_reducible refine has_drew ?_) | (with_reducible refine has_drewN ?_) | (with_reducible refine has_new ?_; (first | (with_reducible rfl) | omega | (simp; done) | (simp; omega))) | (with_reducible refine has_ov_same ?_; (first | (with_reducible rfl) | omega | (simp; done) | (simp; omega))) | (with_reducible refine has_alloc ?_) | (with_reducible refine has_ov_other ?_ ?_; (focus (first | (with_reducible rfl) | omega | (simp; done) | (simp; omega)))))); done)); rintro u9 ⟨rfl, hB, hz, z0, o0⟩; (try simp only [World.size_alloc, World.size_setCell, World.size_drew, ov_size] at hz)))
  refine bodyPost_row (cs := ?_) (T := ?_) (n := 4) Try.results105 (b := w.heap.size) (by rfl) ?_ Try.underlying28 rfl (by kernel_rfl) ?_ rfl ?_; rotate_left 2; (focus ((repeat' (first | (with_reducible refine has_drew ?_) | (with_reducible refine has_drewN ?_) | (with_reducible refine has_new ?_; (first | (with_reducible rfl) | omega | (simp; done) | (simp; omega))) | (with_reducible refine has_ov_same ?_; (first | (with_reducible rfl) | omega | (simp; done) | (simp; omega))) | (with_reducible refine has_alloc ?_) | (with_reducible refine has_ov_other ?_ ?_; (focus (first | (with_reducible rfl) | omega | (simp; done) | (simp; omega)))))); done)); (focus (rfl))
  exact ⟨.inl ⟨(a, b1, c, d), by unfold boxF; rw [ha, hb1, hs]; dsimp only [Option.bind_some]; rw [hc, ht]; dsimp only [Option.bind_some]; rw [hd]; rfl, rfl⟩, by (repeat' (first | (with_reducible exact Below.refl _ _) | (with_reducible assumption) | (with_reducible refine below_from_drew ?_) | (with_reducible refine Below.alloc ?_ ?_ _) | (with_reducible refine Below.drew ?_) | (with_reducible refine below_drewN ?_ _) | (with_reducible refine Below.setCell ?_ ?_ _) | (with_reducible refine below_via ?_ (by assumption) ?_) | (with_reducible refine below_ov ?_ ?_ _ _) | go_size))⟩
end Go.Proofs.Ytbjmncgfbdkidaa
