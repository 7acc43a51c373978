/- law26 (stack): StackClips, walked. -/
import Derived.Test.YtjcbphhemmdnjaaStkE
namespace Go.Proofs.Ytjcbphhemmdnjaa
open Go Go.RowKit
set_option linter.unusedSimpArgs false
set_option linter.unusedVariables false
-- below_from_drew
attribute [local go_sem] ov_cell_same ov_cell_other ov_frozen_same ov_frozen_other ov_size ov_setCell_same ov_setCell_other cell_alloc_old frozen_alloc_old setCell_alloc_old old_alloc old_ov old_drew old_drewN old_setCell
attribute [local go_sem ↓] run_max2 run_min2
theorem rem26b {at_ : Int} {N : Nat} (h : 0 < N) (hp : 0 ≤ at_) : at_.tmod (N : Int) = (((at_ % N).toNat : Nat) : Int) := by
  rw [Int.tmod_eq_emod_of_nonneg hp]
  have h2 := Int.emod_nonneg at_ (show (N : Int) ≠ 0 by omega)
  omega
set_option maxRecDepth 100000 in
set_option maxHeartbeats 4000000 in
theorem clips26_any (a : Option Addr) (n c : Nat) (l : List N26) (at_ : Int) (w : World) (hn : l.length = n) (hn1 : n ≤ c) (hc : c ≤ 9223372036854775807) (h : N26sAt w a l) (hat : (Lit.int .u8 at_).wf = true) :
    Calls Try.prog 6 #[.slice a n c, .int .u8 at_] w fun e w' => e = .returned (.bool true) ∧ Below w.heap.size w w' := by
  have HA := Lib.hid h
  clear h
  have hat2 : 0 ≤ at_ ∧ at_ ≤ 255 := by simpa [Lit.wf, IntKind.min, IntKind.max, IntKind.bits, IntKind.signed] using hat
  clear hat
  have hpa : ∀ i, 0 < i → pa26 l i < i := fun i hi => pa26_lt l hi
  have HPA := Lib.hid hpa
  clear hpa
  have hN := cnt26_le l (most := 24) (by omega); have hN0 := cnt26_pos l 24
  obtain ⟨N, hNN⟩ : ∃ N, cnt26 l 24 = N := ⟨_, rfl⟩
  rw [hNN] at hN hN0
  have HM : ∀ X, Below w.heap.size w X → Calls Try.prog 17 #[.slice a n c, .int .i64 24] X (Made26 l 24 X) := fun X hX => made26_any a n c 24 l X hn hn1 hc (by omega) (HA.out.below hX)
  have HMM := Lib.hid HM
  clear HM
  go_enter Try.func6, Try.ntmps6
  go_upto_region 3 with (go_at_call 16; (with_reducible refine (speaks26_any _).mono ?_); rintro e u ⟨rfl, hb⟩; have hz := hb.size; refine (fun hB => ?_ : Below w.heap.size w u → _) ?_; rotate_left; (focus ((repeat' (first | (with_reducible exact Below.refl _ _) | (with_reducible assumption) | (with_reducible refine below_from_drew ?_) | (with_reducible refine Below.alloc ?_ ?_ _) | (with_reducible refine Below.drew ?_) | (with_reducible refine below_drewN ?_ _) | (with_reducible refine Below.setCell ?_ ?_ _) | (with_reducible refine below_via ?_ (by assumption) ?_) | (with_reducible refine below_ov ?_ ?_ _ _) | go_size)); done)); (try simp only [World.size_alloc, World.size_setCell, World.size_drew, ov_size] at hz))
  go_upto_region 4 with ((go_at_call 17); (with_reducible refine (HMM.out _ (by assumption)).mono ?_); rintro e w1 ⟨pt, bm, bn, aL, cL, R, f, O, rfl, hM⟩; rw [hNN] at hM; obtain ⟨gL, rfl, hR⟩ := hM.rd hN0; have hI := hM.into hN0; have hb1 := hM.wd.bel; have HRD := Lib.hid hR; have HI := Lib.hid hI; have HB1 := Lib.hid (hB.trans (hb1.mono hB.size)); clear hM hR hI hb1 hB hb; unfold W26; rw [hNN])
  obtain ⟨b3, hb3⟩ : ∃ b, w1.heap.size = b := ⟨_, rfl⟩
  refine name_w (f := Code.wp _ _ _ _) (fun Y hY => ?_)
  have hbY : Below w1.heap.size w1 Y := by rw [hY]; (repeat' (first | (with_reducible exact Below.refl _ _) | (with_reducible assumption) | (with_reducible refine below_from_drew ?_) | (with_reducible refine Below.alloc ?_ ?_ _) | (with_reducible refine Below.drew ?_) | (with_reducible refine below_drewN ?_ _) | (with_reducible refine Below.setCell ?_ ?_ _) | (with_reducible refine below_via ?_ (by assumption) ?_) | (with_reducible refine below_ov ?_ ?_ _ _) | go_size))
  have hY3 : Has Y b3 #[.slice (some ⟨gL, 0, none⟩) N cL, .int .i64 0, .int .i64 0] 29 := by rw [hY, ← hb3]; (repeat' (first | (with_reducible refine has_drew ?_) | (with_reducible refine has_drewN ?_) | (with_reducible refine has_new ?_; (first | (with_reducible rfl) | omega | (simp; done) | (simp; omega))) | (with_reducible refine has_ov_same ?_; (first | (with_reducible rfl) | omega | (simp; done) | (simp; omega))) | (with_reducible refine has_alloc ?_) | (with_reducible refine has_ov_other ?_ ?_; (focus (first | (with_reducible rfl) | omega | (simp; done) | (simp; omega)))) | (with_reducible assumption) | (with_reducible exact has_below hB (by assumption))))
  have HBY := Lib.hid (HB1.out.trans (hbY.mono HB1.out.size)); have HRY := Lib.hid (HRD.out.below hbY); have HIY := Lib.hid (HI.out.below hbY); have HY3 := Lib.hid hY3
  have l3 := hY3.lt
  rw [hb3]
  clear hbY hY3 hY HRD HI HB1 hb3 HMM
  have HC1 := Lib.hid (fun X (hX : Below Y.heap.size Y X) => pclips_none none (some bn) 0 X (fun Z hZ => parent_nil 0 Z))
  have HC2 := Lib.hid (show ∀ X, Below Y.heap.size Y X → Calls Try.prog 20 #[.pointer (some ⟨pt, 0, none⟩), .map (some bn), .int .i64 99] X fun e w' => e = .returned (.slice none 0 0) ∧ Below X.heap.size X w' from fun X hX => pclips_none (some ⟨pt, 0, none⟩) (some bn) 99 X (fun Z hZ => up26_out (n := 99) (by omega) (HIY.out.below (hX.trans (hZ.mono hX.size)))))
  go_upto_region 6 with (first | ((go_at_call 20; (with_reducible refine (HC1.out _ (by (repeat' (first | (with_reducible exact Below.refl _ _) | (with_reducible assumption) | (with_reducible refine below_from_drew ?_) | (with_reducible refine Below.alloc ?_ ?_ _) | (with_reducible refine Below.drew ?_) | (with_reducible refine below_drewN ?_ _) | (with_reducible refine Below.setCell ?_ ?_ _) | (with_reducible refine below_via ?_ (by assumption) ?_) | (with_reducible refine below_ov ?_ ?_ _ _) | go_size)))).mono ?_); rintro e u1 ⟨rfl, hb⟩; have hz := hb.size; refine (fun hB => ?_ : Below Y.heap.size Y u1 → _) ?_; rotate_left; (focus ((repeat' (first | (with_reducible exact Below.refl _ _) | (with_reducible assumption) | (with_reducible refine below_from_drew ?_) | (with_reducible refine Below.alloc ?_ ?_ _) | (with_reducible refine Below.drew ?_) | (with_reducible refine below_drewN ?_ _) | (with_reducible refine Below.setCell ?_ ?_ _) | (with_reducible refine below_via ?_ (by assumption) ?_) | (with_reducible refine below_ov ?_ ?_ _ _) | go_size)); done)); (try simp only [World.size_alloc, World.size_setCell, World.size_drew, ov_size] at hz))) | ((go_at_call 20; (with_reducible refine (HC2.out _ (by (repeat' (first | (with_reducible exact Below.refl _ _) | (with_reducible assumption) | (with_reducible refine below_from_drew ?_) | (with_reducible refine Below.alloc ?_ ?_ _) | (with_reducible refine Below.drew ?_) | (with_reducible refine below_drewN ?_ _) | (with_reducible refine Below.setCell ?_ ?_ _) | (with_reducible refine below_via ?_ (by assumption) ?_) | (with_reducible refine below_ov ?_ ?_ _ _) | go_size)))).mono ?_); rintro e u2 ⟨rfl, hb⟩; have hz := hb.size; refine (fun hB => ?_ : Below Y.heap.size Y u2 → _) ?_; rotate_left; (focus ((repeat' (first | (with_reducible exact Below.refl _ _) | (with_reducible assumption) | (with_reducible refine below_from_drew ?_) | (with_reducible refine Below.alloc ?_ ?_ _) | (with_reducible refine Below.drew ?_) | (with_reducible refine below_drewN ?_ _) | (with_reducible refine Below.setCell ?_ ?_ _) | (with_reducible refine below_via ?_ (by assumption) ?_) | (with_reducible refine below_ov ?_ ?_ _ _) | go_size)); done)); (try simp only [World.size_alloc, World.size_setCell, World.size_drew, ov_size] at hz))))
  have HB2 := Lib.hid hB
  have hs2 := hB.size
  have HP2 := Lib.hid (has_below hB HY3.out)
  have c3 := HP2.out.cells; have l32 := HP2.out.lt; have o3 : Old u2 b3 := l32
  have HR2 := Lib.hid (HRY.out.below hB)
  clear HC1 HC2 hB hb
  have hk0 : (at_ % N).toNat < N := by
    have h1 := Int.emod_lt_of_pos at_ (show (0 : Int) < N by omega)
    have h2 := Int.emod_nonneg at_ (show (N : Int) ≠ 0 by omega)
    omega
  have hrm := rem26b hN0 hat2.1
  have hN63 : ¬ (N : Int) = 0 := by omega
  have hNb : ((N : Int) == 0) = false := by simpa using hN63
  obtain ⟨n1, hn1'⟩ : ∃ m, (at_ % N).toNat = m := ⟨_, rfl⟩
  rw [hn1'] at hrm hk0
  clear hn1'
  go_upto_region 7 with fail
  clear hrm
  have HC := Lib.hid (fun X (hX : Below u2.heap.size u2 X) => pclips_any l N pt bm bn n1 _ R X (by omega) hk0 (HIY.out.below (HB2.out.trans (hX.mono HB2.out.size))))
  have hul := upsN_len (pa := pa26 l) (clp := clip26 l) HPA.out n1
  obtain ⟨U, hU⟩ : ∃ U, (upsN (pa26 l) (clip26 l) n1).reverse = U := ⟨_, rfl⟩
  have hUl : U.length ≤ 60 := by rw [← hU, List.length_reverse]; omega
  have HUE := Lib.hid hU
  rw [hU] at HC
  clear hU c3 l32 o3
  go_wp2_with fail
  go_loopw [10, 11] (fun vo vk wr => ∃ (m : Nat) (xs : List Nat), vk = .int .i64 m ∧ m < N ∧ m ≤ n1 ∧ OwnN wr u2.heap.size vo xs ∧ (upsN (pa26 l) (clip26 l) m).reverse ++ xs = U ∧ Below u2.heap.size u2 wr) (fun _ vk _ => (intOf vk).toNat)
  case atStart => exact ⟨n1, [], rfl, hk0, Nat.le_refl _, ownN_nil _ _, by rw [List.append_nil]; exact HUE.out, Below.refl _ _⟩
  case round =>
    obtain ⟨m, xs, rfl, hm, hmn, ho, hxs, hb⟩ := hrel
    have HO := Lib.hid ho; have HXS := Lib.hid hxs; have HBR := Lib.hid hb
    have hxl : xs.length ≤ 60 := by have := congrArg List.length hxs; rw [List.length_append] at this; omega
    obtain ⟨ax, cx, rfl⟩ := ho.shape
    have hp3 := has_below hb HP2.out
    have HP3 := Lib.hid hp3
    have hsr := hb.size
    have HRR := Lib.hid (HR2.out.below hb)
    rcases Nat.eq_zero_or_pos m with d | d
    · subst d
      have HE : Hid (xs = U) := Lib.hid (by rw [← hxs, upsN_zero]; rfl)
      clear ho hxs hb hp3
      rw [show xs.length = U.length by rw [HE.out]]
      go_upto_region 14 with (((go_at_call 20; (with_reducible refine (HC.out _ (HBR.out.trans (Below.mono (by (repeat' (first | (with_reducible exact Below.refl _ _) | (with_reducible assumption) | (with_reducible refine below_from_drew ?_) | (with_reducible refine Below.alloc ?_ ?_ _) | (with_reducible refine Below.drew ?_) | (with_reducible refine below_drewN ?_ _) | (with_reducible refine Below.setCell ?_ ?_ _) | (with_reducible refine below_via ?_ (by assumption) ?_) | (with_reducible refine below_ov ?_ ?_ _ _) | go_size))) HBR.out.size))).mono ?_); rintro e u4 ⟨v2, rfl, hv2, hb⟩; have hz := hb.size; refine (fun hB => ?_ : Below wr.heap.size wr u4 → _) ?_; rotate_left; (focus ((repeat' (first | (with_reducible exact Below.refl _ _) | (with_reducible assumption) | (with_reducible refine below_from_drew ?_) | (with_reducible refine Below.alloc ?_ ?_ _) | (with_reducible refine Below.drew ?_) | (with_reducible refine below_drewN ?_ _) | (with_reducible refine Below.setCell ?_ ?_ _) | (with_reducible refine below_via ?_ (by assumption) ?_) | (with_reducible refine below_ov ?_ ?_ _ _) | go_size)); done)); (try simp only [World.size_alloc, World.size_setCell, World.size_drew, ov_size] at hz))); have HO4 := Lib.hid (HO.out.below hB); have HV4 := Lib.hid hv2; clear hv2)
      have HBS := Lib.hid (HBR.out.trans (hB.mono hsr))
      have hss := hB.size
      clear hB hb
      obtain ⟨x2, y2, rfl⟩ := HV4.out.shape
      have hxu : xs.length = U.length := by rw [HE.out]
      go_wp2_with fail
      go_loopw [13] (fun vi wx => ∃ i : Nat, vi = .int .i64 i ∧ i ≤ U.length ∧ Below u4.heap.size u4 wx) (fun vi _ => U.length - (intOf vi).toNat)
      case atStart => exact ⟨0, rfl, Nat.zero_le _, Below.refl _ _⟩
      case round =>
        obtain ⟨i, rfl, hi, hbx⟩ := hrel
        have HBX := Lib.hid hbx
        have hsx := hbx.size
        clear hbx
        rcases Nat.lt_or_ge i U.length with e | e
        · have ci : (i : Int) < (U.length : Nat) := by omega
          have ci0 : (0 : Int) ≤ i := by omega
          obtain ⟨g1, k1, e1, _, zg1, hp1⟩ := HO4.out.cells (by omega)
          obtain ⟨g2, k2, e2, _, zg2, hp2⟩ := HV4.out.cells (by omega)
          cases e1; cases e2
          have q1 := (HBX.out.cell (p := ⟨g1, i, none⟩) zg1).trans (hp1 i (by omega))
          have q2 := (HBX.out.cell (p := ⟨g2, i, none⟩) zg2).trans (hp2 i e)
          rw [HE.out] at q1
          have og1 : Old wr g1 := Nat.lt_of_lt_of_le zg1 hsx
          have og2 : Old wr g2 := Nat.lt_of_lt_of_le zg2 hsx
          have zz1 : g1 < wr.heap.size := og1
          have zz2 : g2 < wr.heap.size := og2
          clear hp1 hp2
          go_upto_region 19 with fail
          refine region_ord [(0, 0), (1, 0), (2, 0), (3, 0), (4, 0), (5, 0), (6, 0), (7, 0), (8, 0)] (by kernel_rfl) (by kernel_rfl) (fun _ _ d _ _ h => by cases d <;> exact h) (fun hS => ?_)
          (refine wpG_read (v := ?_) rfl (.inl ⟨by rfl, fun wx hbx => ?_⟩) ?_; rotate_left; (focus (obtain ⟨cx0, fx0, zx0⟩ := bk hbx (g2) (by first | omega | (simp; done) | (simp; omega)); obtain ⟨cx1, fx1, zx1⟩ := bk hbx (g1) (by first | omega | (simp; done) | (simp; omega)); go_simp; (try go_bits); (try with_reducible rfl))); try simp only [Act.put, List.setIfInBounds_toArray, List.set_cons_zero, List.set_cons_succ])
          (refine wpG_read (v := ?_) rfl (.inl ⟨by rfl, fun wx hbx => ?_⟩) ?_; rotate_left; (focus (obtain ⟨cx0, fx0, zx0⟩ := bk hbx (g2) (by first | omega | (simp; done) | (simp; omega)); obtain ⟨cx1, fx1, zx1⟩ := bk hbx (g1) (by first | omega | (simp; done) | (simp; omega)); go_simp; (try go_bits); (try with_reducible rfl))); try simp only [Act.put, List.setIfInBounds_toArray, List.set_cons_zero, List.set_cons_succ])
          (refine wpG_read (v := ?_) rfl (.inl ⟨by rfl, fun wx hbx => ?_⟩) ?_; rotate_left; (focus (obtain ⟨cx0, fx0, zx0⟩ := bk hbx (g2) (by first | omega | (simp; done) | (simp; omega)); obtain ⟨cx1, fx1, zx1⟩ := bk hbx (g1) (by first | omega | (simp; done) | (simp; omega)); go_simp; (try go_bits); (try with_reducible rfl))); try simp only [Act.put, List.setIfInBounds_toArray, List.set_cons_zero, List.set_cons_succ])
          (refine wpG_read (v := ?_) rfl (.inl ⟨by rfl, fun wx hbx => ?_⟩) ?_; rotate_left; (focus (obtain ⟨cx0, fx0, zx0⟩ := bk hbx (g2) (by first | omega | (simp; done) | (simp; omega)); obtain ⟨cx1, fx1, zx1⟩ := bk hbx (g1) (by first | omega | (simp; done) | (simp; omega)); go_simp; (try go_bits); (try with_reducible rfl))); try simp only [Act.put, List.setIfInBounds_toArray, List.set_cons_zero, List.set_cons_succ])
          (refine wpG_read (v := ?_) rfl (.inl ⟨by rfl, fun wx hbx => ?_⟩) ?_; rotate_left; (focus (obtain ⟨cx0, fx0, zx0⟩ := bk hbx (g2) (by first | omega | (simp; done) | (simp; omega)); obtain ⟨cx1, fx1, zx1⟩ := bk hbx (g1) (by first | omega | (simp; done) | (simp; omega)); go_simp; (try go_bits); (try with_reducible rfl))); try simp only [Act.put, List.setIfInBounds_toArray, List.set_cons_zero, List.set_cons_succ])
          (refine wpG_read (v := ?_) rfl (.inl ⟨by rfl, fun wx hbx => ?_⟩) ?_; rotate_left; (focus (obtain ⟨cx0, fx0, zx0⟩ := bk hbx (g2) (by first | omega | (simp; done) | (simp; omega)); obtain ⟨cx1, fx1, zx1⟩ := bk hbx (g1) (by first | omega | (simp; done) | (simp; omega)); go_simp; (try go_bits); (try with_reducible rfl))); try simp only [Act.put, List.setIfInBounds_toArray, List.set_cons_zero, List.set_cons_succ])
          (refine wpG_read (v := ?_) rfl (.inl ⟨by rfl, fun wx hbx => ?_⟩) ?_; rotate_left; (focus (obtain ⟨cx0, fx0, zx0⟩ := bk hbx (g2) (by first | omega | (simp; done) | (simp; omega)); obtain ⟨cx1, fx1, zx1⟩ := bk hbx (g1) (by first | omega | (simp; done) | (simp; omega)); go_simp; (try go_bits); (try with_reducible rfl))); try simp only [Act.put, List.setIfInBounds_toArray, List.set_cons_zero, List.set_cons_succ])
          (refine wpG_read (v := ?_) rfl (.inl ⟨by rfl, fun wx hbx => ?_⟩) ?_; rotate_left; (focus (obtain ⟨cx0, fx0, zx0⟩ := bk hbx (g2) (by first | omega | (simp; done) | (simp; omega)); obtain ⟨cx1, fx1, zx1⟩ := bk hbx (g1) (by first | omega | (simp; done) | (simp; omega)); go_simp; (try go_bits); (try with_reducible rfl))); try simp only [Act.put, List.setIfInBounds_toArray, List.set_cons_zero, List.set_cons_succ])
          (refine wpG_read (v := ?_) rfl (.inl ⟨by rfl, fun wx hbx => ?_⟩) ?_; rotate_left; (focus (obtain ⟨cx0, fx0, zx0⟩ := bk hbx (g2) (by first | omega | (simp; done) | (simp; omega)); obtain ⟨cx1, fx1, zx1⟩ := bk hbx (g1) (by first | omega | (simp; done) | (simp; omega)); go_simp; (try go_bits); (try with_reducible rfl))); try simp only [Act.put, List.setIfInBounds_toArray, List.set_cons_zero, List.set_cons_succ])
          refine wpG_nil ?_
          go_wp2_with fail
          exact ⟨⟨i + 1, by push_cast; rfl, e, HBX.out.trans (Below.mono (by (repeat' (first | (with_reducible exact Below.refl _ _) | (with_reducible assumption) | (with_reducible refine below_from_drew ?_) | (with_reducible refine Below.alloc ?_ ?_ _) | (with_reducible refine Below.drew ?_) | (with_reducible refine below_drewN ?_ _) | (with_reducible refine Below.setCell ?_ ?_ _) | (with_reducible refine below_via ?_ (by assumption) ?_) | (with_reducible refine below_ov ?_ ?_ _ _) | go_size))) HBX.out.size)⟩, by simp only [intOf]; omega⟩
        · have ci : decide ((i : Int) < (U.length : Nat)) = false := by simp; omega
          have ci2 : decide (i < U.length) = false := by simp; omega
          go_wp2_with fail
          go_ret
          exact ⟨rfl, HBY.out.trans (((HB2.out.trans (HBS.out.mono hs2)).trans (HBX.out.mono (by omega))).mono HBY.out.size)⟩
    · have hlt := HPA.out m d
      have hxx := upsN_pos (pa := pa26 l) (clp := clip26 l) HPA.out d
      have q1 := HRR.out.par m hm
      obtain ⟨k, hk⟩ : ∃ k, pa26 l m = k := ⟨_, rfl⟩
      rw [hk] at hxx hlt q1
      have q2 := HRR.out.ov k (by omega)
      have hov : clip26 l k = decide (1 + (nd26 l k).ov % 3 ≠ 1) := by unfold clip26; congr 1; apply propext; omega
      obtain ⟨ov', hove⟩ : ∃ z, 1 + (nd26 l k).ov % 3 = z := ⟨_, rfl⟩
      rw [hove] at q2 hov
      have HX := Lib.hid hxx; have HOV := Lib.hid hov
      have c3 := hp3.cells; have l33 := hp3.lt; have o3 : Old wr b3 := l33
      have zgL := HRR.out.zL
      have ogL : Old wr gL := zgL
      have hmI : (m : Int) < N := by omega
      have hm0 : (0 : Int) ≤ m := by omega
      have hmn0 : ¬ m = 0 := by omega
      have hmb : ((m : Int) != 0) = true := by simp; omega
      have hkI : (k : Int) < N := by omega
      have hk0' : (0 : Int) ≤ k := by omega
      clear ho hxs hb hp3 hxx hov hove hk
      by_cases c1 : ov' = 1
      · subst c1
        have HE := Lib.hid (show upsN (pa26 l) (clip26 l) m = upsN (pa26 l) (clip26 l) k by rw [HX.out, HOV.out]; rfl)
        go_wp2_with fail
        exact ⟨⟨k, xs, rfl, by omega, by omega, HO.out, by rw [← HE.out]; exact HXS.out, HBR.out⟩, by simp only [intOf]; omega⟩
      · have hnb : (ov' != 1) = true := by simpa using c1
        have HE := Lib.hid (show upsN (pa26 l) (clip26 l) m = [k] ++ upsN (pa26 l) (clip26 l) k by rw [HX.out, HOV.out, decide_eq_true c1]; rfl)
        go_upto_region 12 with fail
        go_wp2_with (at_builtin; refine wpList_app_nat _ rfl _ _ rfl wr.heap.size u2.heap.size _ _ [k] xs rfl (ownN_one wr k) rfl (HO.out.below ((Below.refl _ wr).alloc (Nat.le_refl _) _)) ?pl ?pb ?_)
        case pl => simp; omega
        case pb => simp
        intro v' w3 hown hgrow
        have hB3 : Below wr.heap.size wr (wr.alloc (.cells #[.int .i64 (k : Int)] 3)) := (Below.refl _ wr).alloc (Nat.le_refl _) _
        have hB4 : Below wr.heap.size wr w3 := Below.grown hB3 hgrow (by simp) (fun bb h => row_block (ownN_one wr k) bb h)
        have HB4 := Lib.hid (HBR.out.trans (hB4.mono hsr))
        have HO4 := Lib.hid (hown.wide hsr)
        have hex : (upsN (pa26 l) (clip26 l) k).reverse ++ ([k] ++ xs) = U := by rw [← HXS.out, HE.out]; simp
        have HEX := Lib.hid hex
        clear hown hgrow hB3 hB4 hex
        go_wp2_with fail
        exact ⟨⟨k, [k] ++ xs, rfl, by omega, by omega, HO4.out, HEX.out, HB4.out⟩, by simp only [intOf]; omega⟩
end Go.Proofs.Ytjcbphhemmdnjaa
