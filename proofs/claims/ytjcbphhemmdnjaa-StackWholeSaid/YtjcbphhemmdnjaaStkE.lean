/- law26 (stack): what the statements begin with; StackOrders, walked. -/
import Derived.Test.YtjcbphhemmdnjaaStkB
import Derived.Test.YtjcbphhemmdnjaaStkK
import Derived.Test.YtjcbphhemmdnjaaStkD
namespace Go.Proofs.Ytjcbphhemmdnjaa
open Go Go.RowKit
set_option linter.unusedSimpArgs false
set_option linter.unusedVariables false
-- below_from_drew
attribute [local go_sem] ov_cell_same ov_cell_other ov_frozen_same ov_frozen_other ov_size ov_setCell_same ov_setCell_other cell_alloc_old frozen_alloc_old setCell_alloc_old old_alloc old_ov old_drew old_drewN old_setCell
attribute [local go_sem ↓] run_max2 run_min2
theorem cnt26_pos (l : List N26) (most : Nat) : 0 < cnt26 l most := by unfold cnt26; omega
theorem cnt26_le (l : List N26) {most : Nat} (h : 1 ≤ most) : cnt26 l most ≤ most := by unfold cnt26; omega
def sp26 : List N26 := [⟨0, 0, 0, 0, false, false⟩, ⟨0, 1, 0, 1, false, false⟩, ⟨0, 1, 0, -1, false, false⟩]
theorem sp26_paint : paintN (pa26 sp26) 3 (ctx26 sp26) (z26 sp26) 0 = [0, 2, 1] := by
  have hp : ∀ i, 0 < i → pa26 sp26 i < i := fun i hi => pa26_lt sp26 hi
  have o0 : ofN (pa26 sp26) 3 (ctx26 sp26) 0 = [1, 2] := by decide
  have o1 : ofN (pa26 sp26) 3 (ctx26 sp26) 1 = [] := by decide
  have o2 : ofN (pa26 sp26) 3 (ctx26 sp26) 2 = [] := by decide
  have s0 : srtK (pa26 sp26) 3 (ctx26 sp26) (z26 sp26) (ofN (pa26 sp26) 3 (ctx26 sp26) 0) = [2, 1] := by
    refine srtK_uniq hp (by omega) (by rw [o0]; exact List.Perm.swap _ _ _) ?_
    rw [List.pairwise_cons]
    refine ⟨fun a ha => ?_, List.pairwise_singleton _ _⟩
    obtain rfl : a = 1 := by simpa using ha
    exact .inl (by decide)
  have sn : ∀ l, l = [] → srtK (pa26 sp26) 3 (ctx26 sp26) (z26 sp26) l = [] := fun l e => by subst e; exact List.mergeSort_nil
  have p1 : paintN (pa26 sp26) 3 (ctx26 sp26) (z26 sp26) 1 = [1] := by rw [paintN_eq hp, sn _ o1]; rfl
  have p2 : paintN (pa26 sp26) 3 (ctx26 sp26) (z26 sp26) 2 = [2] := by rw [paintN_eq hp, sn _ o2]; rfl
  rw [paintN_eq hp, s0]
  have c1 : ctx26 sp26 1 = true := by decide
  have c2 : ctx26 sp26 2 = true := by decide
  simp [c1, c2, p1, p2]
theorem sp26_at (w : World) (T : TypeId) : N26sAt (w.alloc (.cells #[.int .u8 0, .int .u8 0, .int .u8 0, .int .i8 0, .bool false, .bool false, .int .u8 0, .int .u8 1, .int .u8 0, .int .i8 1, .bool false, .bool false, .int .u8 0, .int .u8 1, .int .u8 0, .int .i8 (-1), .bool false, .bool false] T)) (some ⟨w.heap.size, 0, none⟩) sp26 := fun _ => by
  have hn := has_new (w := w) (b := w.heap.size) (cs := #[.int .u8 0, .int .u8 0, .int .u8 0, .int .i8 0, .bool false, .bool false, .int .u8 0, .int .u8 1, .int .u8 0, .int .i8 1, .bool false, .bool false, .int .u8 0, .int .u8 1, .int .u8 0, .int .i8 (-1), .bool false, .bool false]) (T := T) rfl
  refine ⟨_, _, rfl, hn.lt, fun i hi => ?_⟩
  have c := hn.cells
  rcases i with _ | _ | _ | i
  · exact ⟨⟨by decide, by decide, by decide, by decide⟩, c _, c _, c _, c _, c _, c _⟩
  · exact ⟨⟨by decide, by decide, by decide, by decide⟩, c _, c _, c _, c _, c _, c _⟩
  · exact ⟨⟨by decide, by decide, by decide, by decide⟩, c _, c _, c _, c _, c _, c _⟩
  · exact absurd hi (by show ¬ (i + 3 < 3); omega)
set_option maxRecDepth 100000 in
set_option maxHeartbeats 2000000 in
theorem speaks26_any (w : World) : Calls Try.prog 16 #[] w fun e w' => e = .returned (.bool true) ∧ Below w.heap.size w w' := by
  go_enter Try.func16, Try.ntmps16
  go_wp2_with fail
  refine (made26_any (some ⟨w.heap.size, 0, none⟩) 3 3 3 sp26 _ rfl (by omega) (by omega) (by omega) (sp26_at w _)).mono ?_
  rintro e w1 ⟨pt, bm, bn, aL, cL, R, f, O, rfl, hM⟩
  have hI := hM.into (cnt26_pos _ _)
  have hb1 : Below w.heap.size w w1 := ((Below.refl _ w).alloc (Nat.le_refl _) _).trans (hM.wd.bel.mono (by simp))
  have HI := Lib.hid hI; have HB1 := Lib.hid hb1
  clear hM hI hb1
  have hc2 : cnt26 sp26 3 = 3 := rfl
  rw [hc2] at HI ⊢
  unfold W26
  go_upto_region 2 with fail
  refine name_w (f := Code.wp _ _ _ _) (fun Y hY => ?_)
  have hbY : Below w1.heap.size w1 Y := by rw [hY]; (repeat' (first | (with_reducible exact Below.refl _ _) | (with_reducible assumption) | (with_reducible refine below_from_drew ?_) | (with_reducible refine Below.alloc ?_ ?_ _) | (with_reducible refine Below.drew ?_) | (with_reducible refine below_drewN ?_ _) | (with_reducible refine Below.setCell ?_ ?_ _) | (with_reducible refine below_via ?_ (by assumption) ?_) | (with_reducible refine below_ov ?_ ?_ _ _) | go_size))
  have HBY := Lib.hid (HB1.out.trans (hbY.mono HB1.out.size)); have HIY := Lib.hid (HI.out.below hbY)
  clear hY hbY HB1 HI
  have HP := Lib.hid (porder_any sp26 3 pt bm bn _ R Y (by omega) (by omega) HIY.out)
  rw [sp26_paint] at HP
  go_upto_region 3 with ((go_at_call 18); (with_reducible refine HP.out.mono ?_); rintro e u ⟨v, rfl, hv, hb⟩)
  obtain ⟨g, c, rfl, _, zg, hc⟩ := hv.cells (by decide)
  have q0 : u.cell? ⟨g, 0, none⟩ = some (.int .i64 0) := hc 0 (by decide)
  have q1 : u.cell? ⟨g, 1, none⟩ = some (.int .i64 2) := hc 1 (by decide)
  have q2 : u.cell? ⟨g, 2, none⟩ = some (.int .i64 1) := hc 2 (by decide)
  have og : Old u g := zg
  have HBU := Lib.hid (HBY.out.trans (hb.mono HBY.out.size))
  have hl : [0, 2, 1].length = 3 := rfl
  clear hc hv hb HP
  go_wp2_with fail
  go_ret
  exact ⟨rfl, HBU.out⟩
set_option maxRecDepth 100000 in
set_option maxHeartbeats 4000000 in
theorem orders26_any (a : Option Addr) (n c : Nat) (l : List N26) (w : World) (hn : l.length = n) (hn1 : n ≤ c) (hc : c ≤ 9223372036854775807) (h : N26sAt w a l) :
    Calls Try.prog 5 #[.slice a n c] w fun e w' => e = .returned (.bool true) ∧ Below w.heap.size w w' := by
  have HA := Lib.hid h
  clear h
  have hN := cnt26_le l (most := 24) (by omega); have hN0 := cnt26_pos l 24
  obtain ⟨N, hNN⟩ : ∃ N, cnt26 l 24 = N := ⟨_, rfl⟩
  rw [hNN] at hN hN0
  have HM : ∀ X, Below w.heap.size w X → Calls Try.prog 17 #[.slice a n c, .int .i64 24] X (Made26 l 24 X) := fun X hX => made26_any a n c 24 l X hn hn1 hc (by omega) (HA.out.below hX)
  have HMM := Lib.hid HM
  clear HM
  go_enter Try.func5, Try.ntmps5
  go_upto_region 3 with (go_at_call 16; (with_reducible refine (speaks26_any _).mono ?_); rintro e u ⟨rfl, hb⟩; have hz := hb.size; refine (fun hB => ?_ : Below w.heap.size w u → _) ?_; rotate_left; (focus ((repeat' (first | (with_reducible exact Below.refl _ _) | (with_reducible assumption) | (with_reducible refine below_from_drew ?_) | (with_reducible refine Below.alloc ?_ ?_ _) | (with_reducible refine Below.drew ?_) | (with_reducible refine below_drewN ?_ _) | (with_reducible refine Below.setCell ?_ ?_ _) | (with_reducible refine below_via ?_ (by assumption) ?_) | (with_reducible refine below_ov ?_ ?_ _ _) | go_size)); done)); (try simp only [World.size_alloc, World.size_setCell, World.size_drew, ov_size] at hz))
  go_upto_region 4 with ((go_at_call 17); (with_reducible refine (HMM.out _ (by assumption)).mono ?_); rintro e w1 ⟨pt, bm, bn, aL, cL, R, f, O, rfl, hM⟩; rw [hNN] at hM; obtain ⟨gL, rfl, hR⟩ := hM.rd hN0; have hI := hM.into hN0; have hb1 := hM.wd.bel; have HRD := Lib.hid hR; have HI := Lib.hid hI; have HB1 := Lib.hid (hB.trans (hb1.mono hB.size)); clear hM hR hI hb1 hB hb; unfold W26; rw [hNN])
  obtain ⟨b3, hb3⟩ : ∃ b, w1.heap.size = b := ⟨_, rfl⟩
  refine name_w (f := Code.wp _ _ _ _) (fun Y hY => ?_)
  have hbY : Below w1.heap.size w1 Y := by rw [hY]; (repeat' (first | (with_reducible exact Below.refl _ _) | (with_reducible assumption) | (with_reducible refine below_from_drew ?_) | (with_reducible refine Below.alloc ?_ ?_ _) | (with_reducible refine Below.drew ?_) | (with_reducible refine below_drewN ?_ _) | (with_reducible refine Below.setCell ?_ ?_ _) | (with_reducible refine below_via ?_ (by assumption) ?_) | (with_reducible refine below_ov ?_ ?_ _ _) | go_size))
  have hY3 : Has Y b3 #[.slice (some ⟨gL, 0, none⟩) N cL, .int .i64 0, .int .i64 0] 29 := by rw [hY, ← hb3]; (repeat' (first | (with_reducible refine has_drew ?_) | (with_reducible refine has_drewN ?_) | (with_reducible refine has_new ?_; (first | (with_reducible rfl) | omega | (simp; done) | (simp; omega))) | (with_reducible refine has_ov_same ?_; (first | (with_reducible rfl) | omega | (simp; done) | (simp; omega))) | (with_reducible refine has_alloc ?_) | (with_reducible refine has_ov_other ?_ ?_; (focus (first | (with_reducible rfl) | omega | (simp; done) | (simp; omega)))) | (with_reducible assumption) | (with_reducible exact has_below hB (by assumption))))
  have HBY := Lib.hid (HB1.out.trans (hbY.mono HB1.out.size)); have HRY := Lib.hid (HRD.out.below hbY); have HIY := Lib.hid (HI.out.below hbY); have HY3 := Lib.hid hY3
  have c3 := hY3.cells; have l3 := hY3.lt; have o3 : Old Y b3 := l3
  rw [hb3]
  clear hbY hY3 hY HRD HI HB1 hb3 HMM
  have HPO := Lib.hid (fun X (hX : Below Y.heap.size Y X) => porder_any l N pt bm bn _ R X (by omega) hN0 (HIY.out.below hX))
  have HRO := Lib.hid (fun X (hX : Below Y.heap.size Y X) => rord26_any gL N cL l X (by omega) hN0 (HRY.out.below hX))
  have hPl : (paintN (pa26 l) N (ctx26 l) (z26 l) 0).length = N := by
    rw [(paintN_perm (fun i hi => pa26_lt l hi) 0).length_eq, preN_len (fun i hi => pa26_lt l hi) hN0]
  generalize paintN (pa26 l) N (ctx26 l) (z26 l) 0 = P at *
  have HPL := Lib.hid hPl
  clear hPl
  refine region_ord [(0, 0), (1, 0), (3, 0), (2, 1), (4, 1), (5, 0), (6, 0)] (by kernel_rfl) (by kernel_rfl) (fun _ _ d _ _ h => by cases d <;> exact h) (fun hS => ?_)
  (refine wpG_read (v := ?_) rfl (.inl ⟨by rfl, fun wx hbx => ?_⟩) ?_; rotate_left; (focus (obtain ⟨cx0, fx0, zx0⟩ := bk hbx (b3) (by first | omega | (simp; done) | (simp; omega)); go_simp; (try go_bits); (try with_reducible rfl))); try simp only [Act.put, List.setIfInBounds_toArray, List.set_cons_zero, List.set_cons_succ])
  (refine wpG_read (v := ?_) rfl (.inl ⟨by rfl, fun wx hbx => ?_⟩) ?_; rotate_left; (focus (obtain ⟨cx0, fx0, zx0⟩ := bk hbx (b3) (by first | omega | (simp; done) | (simp; omega)); go_simp; (try go_bits); (try with_reducible rfl))); try simp only [Act.put, List.setIfInBounds_toArray, List.set_cons_zero, List.set_cons_succ])
  (refine wpG_read (v := ?_) rfl (.inl ⟨by rfl, fun wx hbx => ?_⟩) ?_; rotate_left; (focus (obtain ⟨cx0, fx0, zx0⟩ := bk hbx (b3) (by first | omega | (simp; done) | (simp; omega)); go_simp; (try go_bits); (try with_reducible rfl))); try simp only [Act.put, List.setIfInBounds_toArray, List.set_cons_zero, List.set_cons_succ])
  (refine wpG_make rfl (fun K hK => ?_); go_simp; (go_at_call 18; (with_reducible refine (HPO.out _ (by (repeat' (first | (with_reducible exact Below.refl _ _) | (with_reducible assumption) | (with_reducible refine below_from_drew ?_) | (with_reducible refine Below.alloc ?_ ?_ _) | (with_reducible refine Below.drew ?_) | (with_reducible refine below_drewN ?_ _) | (with_reducible refine Below.setCell ?_ ?_ _) | (with_reducible refine below_via ?_ (by assumption) ?_) | (with_reducible refine below_ov ?_ ?_ _ _) | go_size)))).mono ?_); rintro e u1 ⟨v1, rfl, hv1, hb⟩; have hz := hb.size; refine (fun hB => ?_ : Below Y.heap.size Y u1 → _) ?_; rotate_left; (focus ((repeat' (first | (with_reducible exact Below.refl _ _) | (with_reducible assumption) | (with_reducible refine below_from_drew ?_) | (with_reducible refine Below.alloc ?_ ?_ _) | (with_reducible refine Below.drew ?_) | (with_reducible refine below_drewN ?_ _) | (with_reducible refine Below.setCell ?_ ?_ _) | (with_reducible refine below_via ?_ (by assumption) ?_) | (with_reducible refine below_ov ?_ ?_ _ _) | go_size)); done)); (try simp only [World.size_alloc, World.size_setCell, World.size_drew, ov_size] at hz)); (try simp only []); refine hK _ _ ?_ (fun hS2 => ?_); (focus ((repeat' (first | (with_reducible exact Below.refl _ _) | (with_reducible assumption) | (with_reducible refine below_from_drew ?_) | (with_reducible refine Below.alloc ?_ ?_ _) | (with_reducible refine Below.drew ?_) | (with_reducible refine below_drewN ?_ _) | (with_reducible refine Below.setCell ?_ ?_ _) | (with_reducible refine below_via ?_ (by assumption) ?_) | (with_reducible refine below_ov ?_ ?_ _ _) | go_size)); done)); clear hK K hS; have hS := hS2; clear hS2; (try clear hb); try simp only [Act.put, List.setIfInBounds_toArray, List.set_cons_zero, List.set_cons_succ])
  (refine wpG_make rfl (fun K hK => ?_); go_simp; (go_at_call 19; (with_reducible refine (HRO.out _ (by (repeat' (first | (with_reducible exact Below.refl _ _) | (with_reducible assumption) | (with_reducible refine below_from_drew ?_) | (with_reducible refine Below.alloc ?_ ?_ _) | (with_reducible refine Below.drew ?_) | (with_reducible refine below_drewN ?_ _) | (with_reducible refine Below.setCell ?_ ?_ _) | (with_reducible refine below_via ?_ (by assumption) ?_) | (with_reducible refine below_ov ?_ ?_ _ _) | go_size)))).mono ?_); rintro e u2 ⟨v2, rfl, hv2, hb⟩; replace hv1 := hv1.below hb; have hz := hb.size; refine (fun hB => ?_ : Below Y.heap.size Y u2 → _) ?_; rotate_left; (focus ((repeat' (first | (with_reducible exact Below.refl _ _) | (with_reducible assumption) | (with_reducible refine below_from_drew ?_) | (with_reducible refine Below.alloc ?_ ?_ _) | (with_reducible refine Below.drew ?_) | (with_reducible refine below_drewN ?_ _) | (with_reducible refine Below.setCell ?_ ?_ _) | (with_reducible refine below_via ?_ (by assumption) ?_) | (with_reducible refine below_ov ?_ ?_ _ _) | go_size)); done)); (try simp only [World.size_alloc, World.size_setCell, World.size_drew, ov_size] at hz)); (try simp only []); refine hK _ _ ?_ (fun hS2 => ?_); (focus ((repeat' (first | (with_reducible exact Below.refl _ _) | (with_reducible assumption) | (with_reducible refine below_from_drew ?_) | (with_reducible refine Below.alloc ?_ ?_ _) | (with_reducible refine Below.drew ?_) | (with_reducible refine below_drewN ?_ _) | (with_reducible refine Below.setCell ?_ ?_ _) | (with_reducible refine below_via ?_ (by assumption) ?_) | (with_reducible refine below_ov ?_ ?_ _ _) | go_size)); done)); clear hK K hS; have hS := hS2; clear hS2; (try clear hb); try simp only [Act.put, List.setIfInBounds_toArray, List.set_cons_zero, List.set_cons_succ])
  (refine wpG_read (v := ?_) rfl (.inl ⟨by rfl, fun wx hbx => ?_⟩) ?_; rotate_left; (focus (obtain ⟨cx0, fx0, zx0⟩ := bk hbx (b3) (by first | omega | (simp; done) | (simp; omega)); go_simp; (try go_bits); (try with_reducible rfl))); try simp only [Act.put, List.setIfInBounds_toArray, List.set_cons_zero, List.set_cons_succ])
  (refine wpG_read (v := ?_) rfl (.inl ⟨by rfl, fun wx hbx => ?_⟩) ?_; rotate_left; (focus (obtain ⟨cx0, fx0, zx0⟩ := bk hbx (b3) (by first | omega | (simp; done) | (simp; omega)); go_simp; (try go_bits); (try with_reducible rfl))); try simp only [Act.put, List.setIfInBounds_toArray, List.set_cons_zero, List.set_cons_succ])
  refine wpG_nil ?_
  obtain ⟨g1, k1, rfl, _, zg1, hp1⟩ := hv1.cells (by rw [HPL.out]; exact hN0)
  obtain ⟨g2, k2, rfl, _, zg2, hp2⟩ := hv2.cells (by rw [HPL.out]; exact hN0)
  have HP1 := Lib.hid hp1; have HP2 := Lib.hid hp2
  have HB2 := Lib.hid (HBY.out.trans (hB.mono HBY.out.size))
  have h60 : P.length ≤ 60 := by have := HPL.out; omega
  clear hp1 hp2 hv1 hv2 hB hS HPO HRO
  go_upto_region 7 with ((go_at_call 18; (with_reducible refine (porder_nil _ _).mono ?_); rintro e u3 ⟨rfl, hb⟩; have hz := hb.size; refine (fun hB => ?_ : Below u2.heap.size u2 u3 → _) ?_; rotate_left; (focus ((repeat' (first | (with_reducible exact Below.refl _ _) | (with_reducible assumption) | (with_reducible refine below_from_drew ?_) | (with_reducible refine Below.alloc ?_ ?_ _) | (with_reducible refine Below.drew ?_) | (with_reducible refine below_drewN ?_ _) | (with_reducible refine Below.setCell ?_ ?_ _) | (with_reducible refine below_via ?_ (by assumption) ?_) | (with_reducible refine below_ov ?_ ?_ _ _) | go_size)); done)); (try simp only [World.size_alloc, World.size_setCell, World.size_drew, ov_size] at hz)))
  have HB3 := Lib.hid hB
  clear hB hb
  go_wp2_with fail
  go_loopw [9] (fun vi wr => ∃ i : Nat, vi = .int .i64 i ∧ i ≤ P.length ∧ Below u2.heap.size u2 wr) (fun vi _ => P.length - (intOf vi).toNat)
  case atStart => exact ⟨0, rfl, Nat.zero_le _, HB3.out⟩
  case round =>
    obtain ⟨i, rfl, hi, hbr⟩ := hrel
    have HBR := Lib.hid hbr
    have hsz := hbr.size
    have og1 : Old wr g1 := Nat.lt_of_lt_of_le zg1 hsz
    have og2 : Old wr g2 := Nat.lt_of_lt_of_le zg2 hsz
    have zz1 : g1 < wr.heap.size := og1
    have zz2 : g2 < wr.heap.size := og2
    clear hbr
    rcases Nat.lt_or_ge i P.length with c | c
    · have ci : (i : Int) < (P.length : Nat) := by omega
      have ci0 : (0 : Int) ≤ i := by omega
      have q1 := (HBR.out.cell (p := ⟨g1, i, none⟩) zg1).trans (HP1.out i c)
      have q2 := (HBR.out.cell (p := ⟨g2, i, none⟩) zg2).trans (HP2.out i c)
      go_upto_region 10 with fail
      refine region_ord [(0, 0), (1, 0), (2, 0), (3, 0), (4, 0), (5, 0), (6, 0), (7, 0), (8, 0)] (by kernel_rfl) (by kernel_rfl) (fun _ _ d _ _ h => by cases d <;> exact h) (fun hS => ?_)
      (refine wpG_read (v := ?_) rfl (.inl ⟨by rfl, fun wx hbx => ?_⟩) ?_; rotate_left; (focus (obtain ⟨cx0, fx0, zx0⟩ := bk hbx (g1) (by first | omega | (simp; done) | (simp; omega)); obtain ⟨cx1, fx1, zx1⟩ := bk hbx (g2) (by first | omega | (simp; done) | (simp; omega)); go_simp; (try go_bits); (try with_reducible rfl))); try simp only [Act.put, List.setIfInBounds_toArray, List.set_cons_zero, List.set_cons_succ])
      (refine wpG_read (v := ?_) rfl (.inl ⟨by rfl, fun wx hbx => ?_⟩) ?_; rotate_left; (focus (obtain ⟨cx0, fx0, zx0⟩ := bk hbx (g1) (by first | omega | (simp; done) | (simp; omega)); obtain ⟨cx1, fx1, zx1⟩ := bk hbx (g2) (by first | omega | (simp; done) | (simp; omega)); go_simp; (try go_bits); (try with_reducible rfl))); try simp only [Act.put, List.setIfInBounds_toArray, List.set_cons_zero, List.set_cons_succ])
      (refine wpG_read (v := ?_) rfl (.inl ⟨by rfl, fun wx hbx => ?_⟩) ?_; rotate_left; (focus (obtain ⟨cx0, fx0, zx0⟩ := bk hbx (g1) (by first | omega | (simp; done) | (simp; omega)); obtain ⟨cx1, fx1, zx1⟩ := bk hbx (g2) (by first | omega | (simp; done) | (simp; omega)); go_simp; (try go_bits); (try with_reducible rfl))); try simp only [Act.put, List.setIfInBounds_toArray, List.set_cons_zero, List.set_cons_succ])
      (refine wpG_read (v := ?_) rfl (.inl ⟨by rfl, fun wx hbx => ?_⟩) ?_; rotate_left; (focus (obtain ⟨cx0, fx0, zx0⟩ := bk hbx (g1) (by first | omega | (simp; done) | (simp; omega)); obtain ⟨cx1, fx1, zx1⟩ := bk hbx (g2) (by first | omega | (simp; done) | (simp; omega)); go_simp; (try go_bits); (try with_reducible rfl))); try simp only [Act.put, List.setIfInBounds_toArray, List.set_cons_zero, List.set_cons_succ])
      (refine wpG_read (v := ?_) rfl (.inl ⟨by rfl, fun wx hbx => ?_⟩) ?_; rotate_left; (focus (obtain ⟨cx0, fx0, zx0⟩ := bk hbx (g1) (by first | omega | (simp; done) | (simp; omega)); obtain ⟨cx1, fx1, zx1⟩ := bk hbx (g2) (by first | omega | (simp; done) | (simp; omega)); go_simp; (try go_bits); (try with_reducible rfl))); try simp only [Act.put, List.setIfInBounds_toArray, List.set_cons_zero, List.set_cons_succ])
      (refine wpG_read (v := ?_) rfl (.inl ⟨by rfl, fun wx hbx => ?_⟩) ?_; rotate_left; (focus (obtain ⟨cx0, fx0, zx0⟩ := bk hbx (g1) (by first | omega | (simp; done) | (simp; omega)); obtain ⟨cx1, fx1, zx1⟩ := bk hbx (g2) (by first | omega | (simp; done) | (simp; omega)); go_simp; (try go_bits); (try with_reducible rfl))); try simp only [Act.put, List.setIfInBounds_toArray, List.set_cons_zero, List.set_cons_succ])
      (refine wpG_read (v := ?_) rfl (.inl ⟨by rfl, fun wx hbx => ?_⟩) ?_; rotate_left; (focus (obtain ⟨cx0, fx0, zx0⟩ := bk hbx (g1) (by first | omega | (simp; done) | (simp; omega)); obtain ⟨cx1, fx1, zx1⟩ := bk hbx (g2) (by first | omega | (simp; done) | (simp; omega)); go_simp; (try go_bits); (try with_reducible rfl))); try simp only [Act.put, List.setIfInBounds_toArray, List.set_cons_zero, List.set_cons_succ])
      (refine wpG_read (v := ?_) rfl (.inl ⟨by rfl, fun wx hbx => ?_⟩) ?_; rotate_left; (focus (obtain ⟨cx0, fx0, zx0⟩ := bk hbx (g1) (by first | omega | (simp; done) | (simp; omega)); obtain ⟨cx1, fx1, zx1⟩ := bk hbx (g2) (by first | omega | (simp; done) | (simp; omega)); go_simp; (try go_bits); (try with_reducible rfl))); try simp only [Act.put, List.setIfInBounds_toArray, List.set_cons_zero, List.set_cons_succ])
      (refine wpG_read (v := ?_) rfl (.inl ⟨by rfl, fun wx hbx => ?_⟩) ?_; rotate_left; (focus (obtain ⟨cx0, fx0, zx0⟩ := bk hbx (g1) (by first | omega | (simp; done) | (simp; omega)); obtain ⟨cx1, fx1, zx1⟩ := bk hbx (g2) (by first | omega | (simp; done) | (simp; omega)); go_simp; (try go_bits); (try with_reducible rfl))); try simp only [Act.put, List.setIfInBounds_toArray, List.set_cons_zero, List.set_cons_succ])
      refine wpG_nil ?_
      go_wp2_with fail
      exact ⟨⟨i + 1, by push_cast; rfl, c, HBR.out.trans (Below.mono (by (repeat' (first | (with_reducible exact Below.refl _ _) | (with_reducible assumption) | (with_reducible refine below_from_drew ?_) | (with_reducible refine Below.alloc ?_ ?_ _) | (with_reducible refine Below.drew ?_) | (with_reducible refine below_drewN ?_ _) | (with_reducible refine Below.setCell ?_ ?_ _) | (with_reducible refine below_via ?_ (by assumption) ?_) | (with_reducible refine below_ov ?_ ?_ _ _) | go_size))) HBR.out.size)⟩, by simp only [intOf]; omega⟩
    · have ci : decide ((i : Int) < (P.length : Nat)) = false := by simp; omega
      have ci2 : decide (i < P.length) = false := by simp; omega
      go_wp2_with fail
      go_ret
      exact ⟨rfl, HB2.out.trans (HBR.out.mono HB2.out.size)⟩
end Go.Proofs.Ytjcbphhemmdnjaa
