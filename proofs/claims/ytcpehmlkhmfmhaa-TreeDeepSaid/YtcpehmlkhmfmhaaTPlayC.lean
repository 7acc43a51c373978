/- clapboardlaw10: speaks by contract; what a tree's operation leaves alone. -/
import Derived.Test.YtcpehmlkhmfmhaaTPlayA
namespace Go.Proofs.Ytcpehmlkhmfmhaa
open Go.RowKit
set_option linter.unusedSimpArgs false
set_option linter.unusedVariables false
-- below_from_drew
attribute [local go_sem] ov_cell_same ov_cell_other ov_frozen_same ov_frozen_other ov_size ov_setCell_same ov_setCell_other cell_alloc_old frozen_alloc_old setCell_alloc_old old_alloc old_ov old_drew old_drewN old_setCell
attribute [local go_sem ↓] run_max2 run_min2

theorem TreeAt.other {w w' : World} {p bm p' bm' base : Nat} {R : Rows} {next : Int} (h : TreeAt w p' bm' base R next) (hb : ButS (fun b => b = p ∨ b = bm) w.heap.size w w') (hp : p < base) (hm : bm < base) (hp2 : base ≤ p') (hm2 : base ≤ bm') : TreeAt w' p' bm' base R next :=
  h.to hb.size (fun b hl h1 => hb.block b hl (fun q => by rcases h1 with h1 | h1 | h1 <;> rcases q with q | q <;> omega))
theorem has_ne_tree {w : World} {b p bm base : Nat} {cs : Array Value} {T : TypeId} {R : Rows} {next : Int} (h : Has w b cs T) (ht : TreeAt w p bm base R next) (hc : ∀ m, cs[0]? ≠ some (.map m)) : ¬ (b = p ∨ b = bm) := fun q => by
  rcases q with q | q
  · subst q
    have h1 := h.cells 0
    rw [ht.str.cells 0] at h1
    exact hc _ h1.symm
  · subst q
    obtain ⟨es, c, h1, _⟩ := ht.ok
    unfold Has at h
    rw [h1] at h; cases h
theorem has_tree {w w' : World} {b p bm base : Nat} {cs : Array Value} {T : TypeId} {R : Rows} {next : Int} (h : Has w b cs T) (ht : TreeAt w p bm base R next) (hb : ButS (fun b => b = p ∨ b = bm) w.heap.size w w') (hc : ∀ m, cs[0]? ≠ some (.map m)) : Has w' b cs T := hb.has h h.lt (has_ne_tree h ht hc)
theorem RefAt.tree {w w' : World} {v : Value} {p bm base : Nat} {R R' : Rows} {next next' : Int} (h : RefAt w v R' next') (h0 : 0 < R'.length) (ht : TreeAt w p bm base R next) (hb : ButS (fun b => b = p ∨ b = bm) w.heap.size w w') : RefAt w' v R' next' := by
  obtain ⟨b, off, c, h1, h2, h3, h4⟩ := h
  have hn : ¬ (b = p ∨ b = bm) := fun q => by
    obtain ⟨k1, k2⟩ := h4 0 h0
    rcases q with q | q
    · subst q
      rw [ht.str.cells] at k1 k2
      rcases off with _ | _ | off
      · simp at k1
      · simp at k2
      · simp at k1
    · subst q
      rw [ok_notCells ht.ok] at k1; cases k1
  have e := hb.block b h3 hn
  refine ⟨b, off, c, h1, h2, Nat.lt_of_lt_of_le h3 hb.size, fun i hi => ?_⟩
  obtain ⟨k1, k2⟩ := h4 i hi
  exact ⟨(World.cell?_of_block (w := w) e).trans k1, (World.cell?_of_block (w := w) e).trans k2⟩
theorem WfR.pos {R : Rows} {next : Int} (h : WfR R next) : 0 < R.length := by
  obtain ⟨R', e, _⟩ := h.head
  rw [e]; simp
/-- A tree's operation leaves all that was there before the tree. -/
theorem buts_below {w w' : World} {p bm B : Nat} (h : ButS (fun b => b = p ∨ b = bm) w.heap.size w w') (hB : B ≤ w.heap.size) (hp : B ≤ p) (hm : B ≤ bm) : Below B w w' :=
  (h.less hB).below (fun k hk q => by rcases q with q | q <;> omega)
theorem ints21 (w : World) : IntsAt (w.alloc (.cells #[.int .i64 2, .int .i64 1] 3)) (some ⟨w.heap.size, 0, none⟩) [2, 1] := by
  refine intsAt_has (has_new rfl) (fun i hi => ?_)
  have h : i = 0 ∨ i = 1 := by simp at hi; omega
  rcases h with h | h <;> subst h <;> rfl
set_option maxRecDepth 100000 in
set_option maxHeartbeats 4000000 in
theorem speaks10_any (w : World) : Calls Try.prog 12 #[] w fun e w' => e = .returned (.bool true) ∧ Below w.heap.size w w' := by
  go_enter Try.func12, Try.ntmps12
  go_wp2_with fail
  refine (tnew_any w).mono ?_
  rintro e1 w1 ⟨p, bm, rfl, hT1, hp1, hm1, hb1⟩
  have HB1 := Lib.hid hb1; have HT1 := Lib.hid hT1
  have hA1 := tadd_any p bm w.heap.size [(0, 0)] 1 0 0 w1 hT1 (by simp) (by omega) (by omega)
  unfold AddPost at hA1
  rw [show addT [(0, 0)] 1 0 0 = ([(0, 0), (1, 1)], 1, 0) from by decide] at hA1
  have HA1 := Lib.hid hA1
  clear hA1 hT1 hb1
  go_wp2_with fail
  refine HA1.out.mono ?_
  rintro e2 w2 ⟨rfl, hT2, hs2⟩
  have hT2 : TreeAt w2 p bm w.heap.size [(0, 0), (1, 1)] 2 := hT2
  have HB2 := Lib.hid (HB1.out.trans (buts_below hs2 HB1.out.size hp1 hm1))
  have hA2 := tadd_any p bm w.heap.size [(0, 0), (1, 1)] 2 0 0 w2 hT2 (by simp) (by omega) (by omega)
  unfold AddPost at hA2
  rw [show addT [(0, 0), (1, 1)] 2 0 0 = ([(0, 0), (2, 1), (1, 1)], 2, 0) from by decide] at hA2
  have HA2 := Lib.hid hA2; have HT2 := Lib.hid hT2
  clear hA2 hT2 hs2
  go_wp2_with fail
  refine HA2.out.mono ?_
  rintro e3 w3 ⟨rfl, hT3, hs3⟩
  have hT3 : TreeAt w3 p bm w.heap.size [(0, 0), (2, 1), (1, 1)] 3 := hT3
  have HB3 := Lib.hid (HB2.out.trans (buts_below hs3 HB2.out.size hp1 hm1))
  have HP := Lib.hid (parent_any p bm w.heap.size [(0, 0), (2, 1), (1, 1)] [(0, 0)] [(1, 1)] 3 2 1 w3 hT3 rfl (by simp))
  rw [show parR 1 [((0 : Int), (0 : Int))].reverse = 0 from by decide] at HP
  have HT3 := Lib.hid hT3
  clear hT3 hs3
  go_wp2_with fail
  refine HP.out.mono ?_
  rintro e4 w4 ⟨rfl, hb4⟩
  have HB4 := Lib.hid (below_via HB3.out hb4 HB3.out.size)
  have HT4 := Lib.hid (HT3.out.below hb4)
  clear hb4
  have HTK := Lib.hid (tkids_any p bm w.heap.size [(0, 0), (2, 1), (1, 1)] [] [(2, 1), (1, 1)] 3 0 0 w4 HT4.out rfl (by simp) (by simp [show kidsR 0 [((2 : Int), (1 : Int)), (1, 1)] = [2, 1] from by decide]))
  rw [show kidsR 0 [((2 : Int), (1 : Int)), (1, 1)] = [2, 1] from by decide] at HTK
  go_wp2_with fail
  refine HTK.out.mono ?_
  rintro e5 w5 ⟨ak, ck, rfl, hIk, hb5⟩
  have HB5 := Lib.hid (below_via HB4.out hb5 HB4.out.size)
  have HT5 := Lib.hid (HT4.out.below hb5)
  have HIK := Lib.hid (hIk.below (by (repeat' (first | (with_reducible exact Below.refl _ _) | (with_reducible assumption) | (with_reducible refine below_from_drew ?_) | (with_reducible refine Below.alloc ?_ ?_ _) | (with_reducible refine Below.drew ?_) | (with_reducible refine below_drewN ?_ _) | (with_reducible refine Below.setCell ?_ ?_ _) | (with_reducible refine below_via ?_ (by assumption) ?_) | (with_reducible refine below_ov ?_ ?_ _ _) | go_size)) : Below w5.heap.size w5 (w5.alloc (.cells #[.int .i64 2, .int .i64 1] 3))))
  have HI2 := Lib.hid (ints21 w5)
  clear hIk hb5
  go_wp2_with fail
  refine (same_any ak _ 2 ck 2 [2, 1] _ rfl (by omega) HIK.out HI2.out).mono ?_
  rintro e6 w6 ⟨rfl, hb6⟩
  have hz5 := HB5.out.size
  have HB6 := Lib.hid (below_via (by have q := HB5.out; (repeat' (first | (with_reducible exact Below.refl _ _) | (with_reducible assumption) | (with_reducible refine below_from_drew ?_) | (with_reducible refine Below.alloc ?_ ?_ _) | (with_reducible refine Below.drew ?_) | (with_reducible refine below_drewN ?_ _) | (with_reducible refine Below.setCell ?_ ?_ _) | (with_reducible refine below_via ?_ (by assumption) ?_) | (with_reducible refine below_ov ?_ ?_ _ _) | go_size)) : Below w.heap.size w (w5.alloc (.cells #[.int .i64 2, .int .i64 1] 3))) hb6 (by have := HB5.out.size; simp; omega))
  have HT6 := Lib.hid ((HT5.out.below (by (repeat' (first | (with_reducible exact Below.refl _ _) | (with_reducible assumption) | (with_reducible refine below_from_drew ?_) | (with_reducible refine Below.alloc ?_ ?_ _) | (with_reducible refine Below.drew ?_) | (with_reducible refine below_drewN ?_ _) | (with_reducible refine Below.setCell ?_ ?_ _) | (with_reducible refine below_via ?_ (by assumption) ?_) | (with_reducible refine below_ov ?_ ?_ _ _) | go_size)) : Below w5.heap.size w5 (w5.alloc (.cells #[.int .i64 2, .int .i64 1] 3)))).below hb6)
  clear hb6
  go_wp2_with fail
  refine (depth_any p bm w.heap.size [(0, 0), (2, 1), (1, 1)] 3 2 [(0, 0)] [(1, 1)] 2 1 w6 (by decide) HT6.out rfl).mono ?_
  rintro e7 w7 ⟨rfl, hb7⟩
  have HB7 := Lib.hid (below_via HB6.out hb7 HB6.out.size)
  have HT7 := Lib.hid (HT6.out.below hb7)
  clear hb7
  go_wp2_with fail
  refine (len_any p bm w.heap.size [(0, 0), (2, 1), (1, 1)] 3 w7 HT7.out).mono ?_
  rintro e8 w8 ⟨rfl, rfl⟩
  go_wp2_with fail
  go_ret
  exact ⟨rfl, HB7.out⟩
end Go.Proofs.Ytcpehmlkhmfmhaa
