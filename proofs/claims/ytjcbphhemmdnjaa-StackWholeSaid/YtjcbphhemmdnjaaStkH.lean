/- law26 (stack): StackWhole, walked. -/
import Derived.Test.YtjcbphhemmdnjaaStkE
import Derived.Test.YtjcbphhemmdnjaaStkG
namespace Go.Proofs.Ytjcbphhemmdnjaa
open Go Go.RowKit
set_option linter.unusedSimpArgs false
set_option linter.unusedVariables false
-- below_from_drew
attribute [local go_sem] ov_cell_same ov_cell_other ov_frozen_same ov_frozen_other ov_size ov_setCell_same ov_setCell_other cell_alloc_old frozen_alloc_old setCell_alloc_old old_alloc old_ov old_drew old_drewN old_setCell
attribute [local go_sem ↓] run_max2 run_min2
attribute [local go_sem ↓] bigl_xl bigl_xs bigs_xl bigs_xs
attribute [local go_sem] bigl_l bigl_s bigs_l bigs_s blkCells_ov_same blkCells_ov_other blkCells_new blkCells_old blkCells_drew blkCells_drewN putBlk_ov_same putBlk_ov_other putBlk_new putBlk_old putBlk_drew putBlk_drewN putBlk_size allOne_nil allOne_int allOne_bool allOne_slice allOne_pointer allOne_map allOne_string
attribute [local go_sem] look_lay mapOk_alloc mapOf_alloc mapOk_drew mapOf_drew mapOk_drewN mapOf_drewN mapOk_ov mapOf_ov put_lay26
theorem posC_zero (P : List Nat) (N : Nat) : posC P N 0 = (List.range N).map fun _ => Value.int .i64 (-1) := by
  unfold posC
  apply List.map_congr_left
  intro k _
  rw [if_neg (by omega)]
/-- An array of zeros whose first few are -1. -/
def negC (N i : Nat) : List Value := (List.range N).map fun k => .int .i64 (if k < i then -1 else 0)
theorem negC_len (N i : Nat) : (negC N i).length = N := by simp [negC]
theorem negC_get {N i k : Nat} (h : k < N) : (negC N i)[k]? = some (.int .i64 (if k < i then -1 else 0)) := by
  unfold negC
  rw [List.getElem?_map, List.getElem?_range h]
  rfl
theorem negC_set {N i : Nat} (hi : i < N) : (negC N i).set i (.int .i64 (-1)) = negC N (i + 1) := by
  apply List.ext_getElem?
  intro k
  by_cases hk : k < N
  · by_cases c : k = i
    · subst c
      rw [List.getElem?_set_self (by rw [negC_len]; exact hk), negC_get hk, if_pos (by omega)]
    · rw [List.getElem?_set_ne (by omega), negC_get hk, negC_get hk]
      by_cases c2 : k < i
      · rw [if_pos c2, if_pos (by omega)]
      · rw [if_neg c2, if_neg (by omega)]
  · rw [List.getElem?_eq_none (by rw [List.length_set, negC_len]; omega), List.getElem?_eq_none (by rw [negC_len]; omega)]
theorem negC_zero (N : Nat) : madeCells #[.int .i64 0] (N * 1) = (negC N 0).toArray := by
  apply Array.ext_getElem?
  intro k
  unfold madeCells negC
  by_cases hk : k < N
  · simp [hk, Nat.mod_one]
  · simp [hk]
theorem negC_full (P : List Nat) (N : Nat) : negC N N = posC P N 0 := by
  rw [posC_zero]
  unfold negC
  apply List.map_congr_left
  intro k hk
  rw [if_pos (List.mem_range.1 hk)]
/-- A node's Z made auto, in the document's row. -/
theorem M26.auto {l : List N26} {w0 w : World} {pt bm m bn N gL cL q : Nat} {B : Nat → BlkT} {R : Rows} {f : Nat → RowT} {O : Nat → Prop} (h : M26 (au26 l q) w0 w pt bm m B bn N N N N (some ⟨gL, 0, none⟩) cL R f O) (hq : q < N) (h1 : 1 ≤ q) (hl : q < l.length) :
    ∃ f' O', Mt (V26 (au26 l (q + 1))) (pa26 (au26 l (q + 1))) 1 w0 (w.setCell ⟨gL, q * 65 + 48, none⟩ (.bool true)) pt bm m B 1 (fun _ => ⟨bn, m26 (au26 l q) N⟩) N N N (some ⟨gL, 0, none⟩) cL R f' O' := by
  have hv : ∀ r v, V26 (au26 l (q + 1)) r v = if r = q then (V26 (au26 l q) q v).set 48 (.bool true) else V26 (au26 l q) r v := fun r v => by
    have ht : ∀ m, tx26 (au26 l m) r = tx26 l r := fun m => au26_tx l m r
    have hp : ∀ m, pa26 (au26 l m) r = pa26 l r := fun m => au26_pa l m r
    by_cases c : r = q
    · subst c
      rw [if_pos rfl]
      unfold V26
      rw [ht, ht, hp, hp, au26_nd, au26_nd, if_pos ⟨h1, by omega, hl⟩, if_neg (by omega)]
      exact (nodeC_t48 _ _ _ _ _ _ _ _).symm
    · rw [if_neg c]
      unfold V26
      rw [ht, ht, hp, hp, au26_nd, au26_nd]
      by_cases c2 : 1 ≤ r ∧ r < q ∧ r < l.length
      · rw [if_pos c2, if_pos ⟨c2.1, by omega, c2.2.2⟩]
      · rw [if_neg c2, if_neg (fun k => c2 ⟨k.1, by omega, k.2.2⟩)]
  have hf0 := h.f0
  have W := h.wd.set (q := 0) (g := gL) (c := cL) (j := q * 65 + 48) (by omega) (by rw [hf0]) (by rw [hf0]; show q * 65 + 48 < N * 65; omega) (.bool true)
  rw [hf0] at W
  refine ⟨_, _, W, ?_, h.k1, fun i v => nodeC_len _ _ _ _ _ _ _, ?_, fun k hk => ?_⟩
  · rw [show pa26 (au26 l (q + 1)) = pa26 (au26 l q) from funext fun i => by rw [au26_pa, au26_pa]]
    exact h.told
  · rw [upd_same]
    congr 1
    dsimp only
    rw [rng_set (V := fun i => V26 (au26 l q) i (f (1 + i)).v) (fun i => nodeC_len _ _ _ _ _ _ _) _ (by omega) hq]
    refine rng_congr fun r hr => ?_
    rw [upd_other _ _ (show 1 + r ≠ 0 by omega), hv]
    by_cases c : r = q
    · subst c; rw [if_pos rfl]
    · rw [if_neg c, if_neg c]
  · rw [upd_other _ _ (show 1 + k ≠ 0 by omega), show pa26 (au26 l (q + 1)) = pa26 (au26 l q) from funext fun i => by rw [au26_pa, au26_pa]]
    exact h.fk k hk
/-- .. and in the map. -/
theorem M26.autoMap {l : List N26} {w0 w : World} {pt bm m bn N gL cL q : Nat} {B : Nat → BlkT} {R : Rows} {f : Nat → RowT} {O : Nat → Prop}
    (h : Mt (V26 (au26 l (q + 1))) (pa26 (au26 l (q + 1))) 1 w0 w pt bm m B 1 (fun _ => ⟨bn, m26 (au26 l q) N⟩) N N N (some ⟨gL, 0, none⟩) cL R f O) (hq : q < N) :
    ∃ O', M26 (au26 l (q + 1)) w0 (putM w bn q (lay26 (au26 l (q + 1)) q)) pt bm m B bn N N N N (some ⟨gL, 0, none⟩) cL R f O' := by
  obtain ⟨O', h'⟩ := Mt.put h (q := 0) (by omega) (q : Int) (lay26 (au26 l (q + 1)) q) (M' := fun _ => ⟨bn, m26 (au26 l (q + 1)) N⟩) (fun r hr => ⟨rfl, fun y => by
    obtain rfl : r = 0 := by omega
    rw [if_pos rfl]
    show m26 (au26 l (q + 1)) N y = if y = (q : Int) then _ else m26 (au26 l q) N y
    unfold m26
    by_cases c : y = (q : Int)
    · subst c
      rw [if_pos ⟨by omega, by omega⟩, if_pos rfl, Int.toNat_natCast]
    · rw [if_neg c]
      by_cases c2 : 0 ≤ y ∧ y < (N : Int)
      · rw [if_pos c2, if_pos c2]
        unfold lay26
        rw [au26_tx, au26_tx, au26_nd, au26_nd]
        by_cases c3 : 1 ≤ y.toNat ∧ y.toNat < q ∧ y.toNat < l.length
        · rw [if_pos ⟨c3.1, by omega, c3.2.2⟩, if_pos c3]
        · rw [if_neg (fun k => c3 ⟨k.1, by omega, k.2.2⟩), if_neg c3]
      · rw [if_neg c2, if_neg c2]⟩)
  exact ⟨O', h'⟩
theorem layC_s48 (z : Int) (au : Bool) (p o : Int) (tx : Bool) (b : Bool) : (layC z au p o tx).toArray.setIfInBounds 48 (.bool b) = (layC z b p o tx).toArray := rfl
theorem layC_t48 (z : Int) (au : Bool) (p o : Int) (tx : Bool) (b : Bool) : (layC z au p o tx).set 48 (.bool b) = layC z b p o tx := rfl
theorem layC_g48 (z : Int) (au : Bool) (p o : Int) (tx : Bool) : (layC z au p o tx).toArray[48]? = some (.bool au) := rfl
theorem layC_h48 (z : Int) (au : Bool) (p o : Int) (tx : Bool) : (layC z au p o tx)[48]? = some (.bool au) := rfl
attribute [local go_sem] layC_s48 layC_t48 layC_g48 layC_h48
set_option maxRecDepth 100000 in
set_option maxHeartbeats 8000000 in
theorem whole26_any (a : Option Addr) (n c : Nat) (l : List N26) (w : World) (hn : l.length = n) (hn1 : n ≤ c) (hc : c ≤ 9223372036854775807) (h : N26sAt w a l) :
    Calls Try.prog 7 #[.slice a n c] w fun e w' => e = .returned (.bool true) ∧ Below w.heap.size w w' := by
  have HA := Lib.hid h
  clear h
  have hN := cnt26_le l (most := 24) (by omega); have hN0 := cnt26_pos l 24
  obtain ⟨N, hNN⟩ : ∃ N, cnt26 l 24 = N := ⟨_, rfl⟩
  have hNl : Hid (∀ k, 1 ≤ k → k < N → k < l.length) := Lib.hid (fun k h1 h2 => by unfold cnt26 at hNN; omega)
  rw [hNN] at hN hN0
  have HM : ∀ X, Below w.heap.size w X → Calls Try.prog 17 #[.slice a n c, .int .i64 24] X (Made26 l 24 X) := fun X hX => made26_any a n c 24 l X hn hn1 hc (by omega) (HA.out.below hX)
  have HMM := Lib.hid HM
  clear HM
  have hpa : ∀ i, 0 < i → pa26 l i < i := fun i hi => pa26_lt l hi
  have HPA := Lib.hid hpa
  clear hpa
  obtain ⟨i0, hi, hz0, hz1, hz2⟩ := info_parts infoNat
  have hmk : ∀ W : World, (Instr.makeSlice 54 (.int .i64 N) (.int .i64 N)).run Try.prog W = .ok (.slice (some ⟨W.heap.size, 0, none⟩) N N) (W.alloc (.cells (negC N 0).toArray 3)) := fun W => by
    have := run_make W 54 3 i0 (.int .i64 0) Try.underlying54 hi hz0 .i64 .i64 N N (by omega) (by omega) (by rw [hz2]; omega) (by omega)
    rw [hz1, Int.toNat_natCast, show (Value.int .i64 0).cells = #[.int .i64 0] from rfl, negC_zero] at this
    exact this
  clear hi hz0 hz1 hz2
  go_enter Try.func7, Try.ntmps7
  go_upto_region 3 with (go_at_call 16; (with_reducible refine (speaks26_any _).mono ?_); rintro e u ⟨rfl, hb⟩; have hz := hb.size; refine (fun hB => ?_ : Below w.heap.size w u → _) ?_; rotate_left; (focus ((repeat' (first | (with_reducible exact Below.refl _ _) | (with_reducible assumption) | (with_reducible refine below_from_drew ?_) | (with_reducible refine Below.alloc ?_ ?_ _) | (with_reducible refine Below.drew ?_) | (with_reducible refine below_drewN ?_ _) | (with_reducible refine Below.setCell ?_ ?_ _) | (with_reducible refine below_via ?_ (by assumption) ?_) | (with_reducible refine below_ov ?_ ?_ _ _) | go_size)); done)); (try simp only [World.size_alloc, World.size_setCell, World.size_drew, ov_size] at hz))
  go_upto_region 4 with ((go_at_call 17); (with_reducible refine (HMM.out _ (by assumption)).mono ?_); rintro e w1 ⟨pt, bm, bn, aL, cL, R, f, O, rfl, hM⟩; rw [hNN] at hM; obtain ⟨gL, rfl, hR⟩ := hM.rd hN0; have hI := hM.into hN0; have hb1 := hM.wd.bel; have HMD := Lib.hid hM; have HRD := Lib.hid hR; have HI := Lib.hid hI; have HB1 := Lib.hid (hB.trans (hb1.mono hB.size)); have HBU := Lib.hid hB; clear hM hR hI hb1 hB hb; unfold W26; rw [hNN])
  obtain ⟨b3, hb3⟩ : ∃ b, w1.heap.size = b := ⟨_, rfl⟩
  refine name_w (f := Code.wp _ _ _ _) (fun Y hY => ?_)
  have hbY : Below w1.heap.size w1 Y := by rw [hY]; (repeat' (first | (with_reducible exact Below.refl _ _) | (with_reducible assumption) | (with_reducible refine below_from_drew ?_) | (with_reducible refine Below.alloc ?_ ?_ _) | (with_reducible refine Below.drew ?_) | (with_reducible refine below_drewN ?_ _) | (with_reducible refine Below.setCell ?_ ?_ _) | (with_reducible refine below_via ?_ (by assumption) ?_) | (with_reducible refine below_ov ?_ ?_ _ _) | go_size))
  have hY3 : Has Y b3 #[.slice (some ⟨gL, 0, none⟩) N cL, .int .i64 0, .int .i64 0] 29 := by rw [hY, ← hb3]; (repeat' (first | (with_reducible refine has_drew ?_) | (with_reducible refine has_drewN ?_) | (with_reducible refine has_new ?_; (first | (with_reducible rfl) | omega | (simp; done) | (simp; omega))) | (with_reducible refine has_ov_same ?_; (first | (with_reducible rfl) | omega | (simp; done) | (simp; omega))) | (with_reducible refine has_alloc ?_) | (with_reducible refine has_ov_other ?_ ?_; (focus (first | (with_reducible rfl) | omega | (simp; done) | (simp; omega)))) | (with_reducible assumption) | (with_reducible exact has_below hB (by assumption))))
  have HB1Y := Lib.hid hbY
  have HBY := Lib.hid (HB1.out.trans (hbY.mono HB1.out.size)); have HRY := Lib.hid (HRD.out.below hbY); have HIY := Lib.hid (HI.out.below hbY); have HY3 := Lib.hid hY3
  have l3 := hY3.lt
  rw [hb3]
  have hw1 := Lib.hid hb3
  clear hbY hY3 hY HRD HI HB1 hb3 HMM
  have HPO := Lib.hid (porder_any l N pt bm bn _ R Y (by omega) hN0 HIY.out)
  have hperm : (paintN (pa26 l) N (ctx26 l) (z26 l) 0).Perm (List.range N) := (paintN_perm HPA.out 0).trans (preN_perm HPA.out hN0)
  have HPT := Lib.hid (fun c hc hx => paintN_part (ctx := ctx26 l) (z := z26 l) (N := N) HPA.out c hc hx)
  obtain ⟨P, hP⟩ : ∃ P, paintN (pa26 l) N (ctx26 l) (z26 l) 0 = P := ⟨_, rfl⟩
  have HPE := Lib.hid hP
  rw [hP] at HPO hperm HPT
  have HPM := Lib.hid hperm
  have HPL : Hid (P.length = N) := Lib.hid (by rw [hperm.length_eq, List.length_range])
  clear hP hperm
  go_upto_region 5 with ((go_at_call 18); (with_reducible refine HPO.out.mono ?_); rintro e u2 ⟨v, rfl, hv, hb⟩)
  obtain ⟨gp, kp, rfl, _, zgp, hpc⟩ := hv.cells (by rw [HPL.out]; exact hN0)
  have HB2 := Lib.hid hb
  have hp3 := has_below hb HY3.out
  have HP3 := Lib.hid hp3
  have HPC := Lib.hid hpc
  have c3 := hp3.cells; have l32 := hp3.lt; have o3 : Old u2 b3 := l32
  have hPN : P.length = N := HPL.out
  rw [hPN]
  clear hPN hp3 hv hb hpc HPO
  go_upto_region 8 with fail
  refine name_w (f := Code.wp _ _ _ _) (fun V hV => ?_)
  have hbV : Below u2.heap.size u2 V := by rw [hV]; (repeat' (first | (with_reducible exact Below.refl _ _) | (with_reducible assumption) | (with_reducible refine below_from_drew ?_) | (with_reducible refine Below.alloc ?_ ?_ _) | (with_reducible refine Below.drew ?_) | (with_reducible refine below_drewN ?_ _) | (with_reducible refine Below.setCell ?_ ?_ _) | (with_reducible refine below_via ?_ (by assumption) ?_) | (with_reducible refine below_ov ?_ ?_ _ _) | go_size))
  have hgV : Has V u2.heap.size (negC N 0).toArray 3 := by rw [hV]; exact has_new rfl
  have HGV := Lib.hid hgV
  have hgl := hgV.lt
  have HPV := Lib.hid (has_below hbV HP3.out)
  have HWV := Lib.hid (HB2.out.trans (hbV.mono HB2.out.size))
  have HPC2 := Lib.hid (fun j (hj : j < P.length) => (hbV.cell (p := ⟨gp, j, none⟩) zgp).trans (HPC.out j hj))
  have hne1 : ¬ gp = u2.heap.size := by omega
  have hne2 : ¬ u2.heap.size = gp := by omega
  have hne3 : ¬ b3 = u2.heap.size := by omega
  have hne4 : ¬ u2.heap.size = b3 := by omega
  have hsV := hbV.size
  have hs2 := HB2.out.size
  clear hV hbV hgV c3 l32 o3 HPC HP3 hmk
  generalize hg : u2.heap.size = ga at *
  have og : Old V ga := hgl
  have ogp : Old V gp := by show gp < V.heap.size; omega
  have zgp2 : gp < V.heap.size := ogp
  have hga := Lib.hid hg
  clear hg
  go_wp2_with fail
  go_loopw [9] (fun vi wr => ∃ i : Nat, vi = .int .i64 i ∧ i ≤ N ∧ wr = ov V ga (negC N i).toArray 3) (fun vi _ => N - (intOf vi).toNat)
  case atStart => exact ⟨0, rfl, Nat.zero_le _, (ov_self HGV.out).symm⟩
  case round =>
    obtain ⟨i, rfl, hi, rfl⟩ := hrel
    have hi0 : (0 : Int) ≤ i := by omega
    rcases Nat.lt_or_ge i N with e | e
    · have ci : (i : Int) < N := by omega
      have HS := Lib.hid (negC_set e)
      have q3 := negC_get (N := N) (i := i) e
      go_wp2_with fail
      refine ⟨⟨i + 1, by push_cast; rfl, e, ?_⟩, by simp only [intOf]; omega⟩
      rw [← HS.out]
    · obtain rfl : N = i := by omega
      have hd : decide ((N : Int) < (N : Int)) = false := by simp
      rw [negC_full P N]
      clear HGV hi
      go_wp2_with fail
      go_loopw [10] (fun vi wr => ∃ i : Nat, vi = .int .i64 i ∧ i ≤ N ∧ wr = ov V ga (posC P N i).toArray 3) (fun vi _ => N - (intOf vi).toNat)
      case atStart => exact ⟨0, rfl, Nat.zero_le _, rfl⟩
      case round =>
        obtain ⟨i, rfl, hi, rfl⟩ := hrel
        have hi0 : (0 : Int) ≤ i := by omega
        rcases Nat.lt_or_ge i N with e | e
        · have ci : (i : Int) < N := by omega
          have e2 : i < P.length := by rw [HPL.out]; exact e
          have q2 := HPC2.out i e2
          have hm : P.getD i 0 < N := List.mem_range.1 (HPM.out.mem_iff.1 (by simp [List.getD_eq_getElem?_getD, e2]))
          have HS := Lib.hid (fun t (ht : t < N) (q : P.getD i 0 = t) => posC_set HPM.out ht e2 q)
          have HX := Lib.hid (fun t (q : P.getD i 0 = t) => idx_at (HPM.out.nodup_iff.2 List.nodup_range) e2 q)
          obtain ⟨t, ht⟩ : ∃ t, P.getD i 0 = t := ⟨_, rfl⟩
          rw [ht] at q2 hm
          have q3 := posC_get (P := P) (N := N) (i := i) hm
          rw [HX.out t ht, if_neg (by omega)] at q3
          replace HS := Lib.hid (HS.out t hm ht)
          have hmI : (t : Int) < N := by omega
          have ht0 : (0 : Int) ≤ t := by omega
          have hd1 : decide ((N : Int) ≤ (t : Int)) = false := by simp; omega
          have hd2 : decide (N ≤ t) = false := by simp; omega
          have hd3 : decide ((t : Int) < 0) = false := by simp
          clear ht HX e2
          go_wp2_with fail
          exact ⟨⟨i + 1, by push_cast; rfl, e, by rw [HS.out]⟩, by simp only [intOf]; omega⟩
        · obtain rfl : N = i := by omega
          have hpl : P.length = N := HPL.out
          have hd1 : decide ((N : Int) < (N : Int)) = false := by simp
          go_upto_region 18 with fail
          refine name_w (f := Code.wp _ _ _ _) (fun Z hZ => ?_)
          have hbZ : Below Y.heap.size Y Z := by rw [hZ]; exact below_ov HWV.out hs2 _ _
          have hZ3 : Has Z b3 #[.slice (some ⟨gL, 0, none⟩) N cL, .int .i64 0, .int .i64 0] 29 := by rw [hZ]; exact has_ov_other hne3 HPV.out
          have hat : ∀ k, k < N → Z.cell? ⟨ga, k, none⟩ = some (.int .i64 ((P.idxOf k : Nat) : Int)) := fun k hk => by
            rw [hZ, ov_cell_same hgl, List.getElem?_toArray, posC_get hk, if_pos]
            have := List.idxOf_lt_length_of_mem (HPM.out.mem_iff.2 (List.mem_range.2 hk))
            omega
          have zga : ga < Z.heap.size := by rw [hZ]; simpa using hgl
          have HAT := Lib.hid hat; have HBZ := Lib.hid hbZ; have HZ3 := Lib.hid hZ3
          have HRZ := Lib.hid (HRY.out.below hbZ)
          clear hZ hbZ hZ3 hat HPC2 HWV HPV hne1 hne2 hne3 hne4 og ogp HB2 hi hpl hd hd1 hsV
          go_wp2_with fail
          go_loopw [11] (fun vi wr => ∃ i : Nat, vi = .int .i64 i ∧ i ≤ N ∧ Below Z.heap.size Z wr) (fun vi _ => N - (intOf vi).toNat)
          case atStart => exact ⟨0, rfl, Nat.zero_le _, Below.refl _ _⟩
          case round =>
            obtain ⟨i, rfl, hi, hbr⟩ := hrel
            have HBR := Lib.hid hbr
            have hp3 := has_below hbr HZ3.out
            have HP3 := Lib.hid hp3
            have c3 := hp3.cells; have l33 := hp3.lt; have o3 : Old wr b3 := l33
            have HRR := Lib.hid (HRZ.out.below hbr)
            have hsr := hbr.size
            clear hbr hp3
            rcases Nat.lt_or_ge i N with e | e
            · have ci : (i : Int) < N := by omega
              have HC := Lib.hid (fun X (hX : Below wr.heap.size wr X) => rctx_any gL N cL i l X (by omega) e (HRR.out.below hX))
              rcases hcx : ctx26 l i with _ | _
              · rw [hcx] at HC
                go_wp2_with ((go_at_call 21; (with_reducible refine (HC.out _ (by (repeat' (first | (with_reducible exact Below.refl _ _) | (with_reducible assumption) | (with_reducible refine below_from_drew ?_) | (with_reducible refine Below.alloc ?_ ?_ _) | (with_reducible refine Below.drew ?_) | (with_reducible refine below_drewN ?_ _) | (with_reducible refine Below.setCell ?_ ?_ _) | (with_reducible refine below_via ?_ (by assumption) ?_) | (with_reducible refine below_ov ?_ ?_ _ _) | go_size)))).mono ?_); rintro e u5 ⟨rfl, hb⟩; have hz := hb.size; refine (fun hB => ?_ : Below wr.heap.size wr u5 → _) ?_; rotate_left; (focus ((repeat' (first | (with_reducible exact Below.refl _ _) | (with_reducible assumption) | (with_reducible refine below_from_drew ?_) | (with_reducible refine Below.alloc ?_ ?_ _) | (with_reducible refine Below.drew ?_) | (with_reducible refine below_drewN ?_ _) | (with_reducible refine Below.setCell ?_ ?_ _) | (with_reducible refine below_via ?_ (by assumption) ?_) | (with_reducible refine below_ov ?_ ?_ _ _) | go_size)); done)); (try simp only [World.size_alloc, World.size_setCell, World.size_drew, ov_size] at hz)))
                exact ⟨⟨i + 1, by push_cast; rfl, e, HBR.out.trans (hB.mono hsr)⟩, by simp only [intOf]; omega⟩
              · have hq : ∀ x, x ∈ preN (pa26 l) N i → x < N ∧ P.idxOf i ≤ P.idxOf x ∧ P.idxOf x < P.idxOf i + (preN (pa26 l) N i).length := fun x hx => by
                  obtain ⟨A, B, e1⟩ := HPT.out i e (.inr hcx)
                  have hpp := paintN_perm (ctx := ctx26 l) (z := z26 l) (N := N) HPA.out i
                  rw [← hpp.length_eq]
                  have hx' := hpp.mem_iff.2 hx
                  rw [paintN_eq HPA.out] at e1 hx' ⊢
                  refine ⟨((preN_mem HPA.out i e x).1 hx).1, idx_part (HPM.out.nodup_iff.2 List.nodup_range) e1 hx'⟩
                have HQ := Lib.hid hq
                have HRO := Lib.hid (fun X (hX : Below wr.heap.size wr X) => rorder_any gL N cL l (by omega) N i X (by omega) e (HRR.out.below hX))
                have hDl := preN_small (l := l) e
                have hD0 : Hid (0 < (preN (pa26 l) N i).length) := Lib.hid (by rw [preN_eq HPA.out]; simp)
                have hii := HQ.out i (by rw [preN_eq HPA.out]; simp)
                have hic : P.idxOf i < N := by
                  have := List.idxOf_lt_length_of_mem (HPM.out.mem_iff.2 (List.mem_range.2 e))
                  rw [HPL.out] at this; exact this
                rw [hcx] at HC
                clear hq hcx hii
                generalize preN (pa26 l) N i = D at *
                go_upto_region 22 with (((go_at_call 21; (with_reducible refine (HC.out _ (by (repeat' (first | (with_reducible exact Below.refl _ _) | (with_reducible assumption) | (with_reducible refine below_from_drew ?_) | (with_reducible refine Below.alloc ?_ ?_ _) | (with_reducible refine Below.drew ?_) | (with_reducible refine below_drewN ?_ _) | (with_reducible refine Below.setCell ?_ ?_ _) | (with_reducible refine below_via ?_ (by assumption) ?_) | (with_reducible refine below_ov ?_ ?_ _ _) | go_size)))).mono ?_); rintro e u5 ⟨rfl, hb⟩; have hz := hb.size; refine (fun hB => ?_ : Below wr.heap.size wr u5 → _) ?_; rotate_left; (focus ((repeat' (first | (with_reducible exact Below.refl _ _) | (with_reducible assumption) | (with_reducible refine below_from_drew ?_) | (with_reducible refine Below.alloc ?_ ?_ _) | (with_reducible refine Below.drew ?_) | (with_reducible refine below_drewN ?_ _) | (with_reducible refine Below.setCell ?_ ?_ _) | (with_reducible refine below_via ?_ (by assumption) ?_) | (with_reducible refine below_ov ?_ ?_ _ _) | go_size)); done)); (try simp only [World.size_alloc, World.size_setCell, World.size_drew, ov_size] at hz))); have k3 := has_below hB HP3.out; have c3 := k3.cells; have l33 := k3.lt; have o3 : Old u5 b3 := l33; clear k3)
                go_upto_region 24 with ((go_at_call 22; (with_reducible refine (HRO.out _ (by (repeat' (first | (with_reducible exact Below.refl _ _) | (with_reducible assumption) | (with_reducible refine below_from_drew ?_) | (with_reducible refine Below.alloc ?_ ?_ _) | (with_reducible refine Below.drew ?_) | (with_reducible refine below_drewN ?_ _) | (with_reducible refine Below.setCell ?_ ?_ _) | (with_reducible refine below_via ?_ (by assumption) ?_) | (with_reducible refine below_ov ?_ ?_ _ _) | go_size)))).mono ?_); rintro e u6 ⟨vD, rfl, hvD, hb⟩; have hz := hb.size; refine (fun hB => ?_ : Below wr.heap.size wr u6 → _) ?_; rotate_left; (focus ((repeat' (first | (with_reducible exact Below.refl _ _) | (with_reducible assumption) | (with_reducible refine below_from_drew ?_) | (with_reducible refine Below.alloc ?_ ?_ _) | (with_reducible refine Below.drew ?_) | (with_reducible refine below_drewN ?_ _) | (with_reducible refine Below.setCell ?_ ?_ _) | (with_reducible refine below_via ?_ (by assumption) ?_) | (with_reducible refine below_ov ?_ ?_ _ _) | go_size)); done)); (try simp only [World.size_alloc, World.size_setCell, World.size_drew, ov_size] at hz)))
                obtain ⟨gd, kd, rfl, _, zgd, hdc⟩ := hvD.cells hD0.out
                have HDC := Lib.hid hdc
                have HB6 := Lib.hid hB
                have hs6 := hB.size
                have hDx : ∀ j, j < D.length → D.getD j 0 ∈ D := fun j hj => by simp [List.getD_eq_getElem?_getD, hj]
                have HDX := Lib.hid hDx
                clear hvD hdc hb hB hz c3 l33 o3 hDx HC HRO
                go_loopw [13] (fun vj wx => ∃ j : Nat, vj = .int .i64 j ∧ j ≤ D.length ∧ Below u6.heap.size u6 wx) (fun vj _ => D.length - (intOf vj).toNat)
                case atStart => exact ⟨0, rfl, Nat.zero_le _, Below.refl _ _⟩
                case round =>
                  obtain ⟨j, rfl, hj, hbx⟩ := hrel
                  have HBX := Lib.hid hbx
                  have hsx := hbx.size
                  clear hbx
                  rcases Nat.lt_or_ge j D.length with d | d
                  · have dj : (j : Int) < (D.length : Nat) := by omega
                    have dj0 : (0 : Int) ≤ j := by omega
                    have q1 := (HBX.out.cell (p := ⟨gd, j, none⟩) zgd).trans (HDC.out j d)
                    have hq := HQ.out _ (HDX.out j d)
                    obtain ⟨x, hx⟩ : ∃ x, D.getD j 0 = x := ⟨_, rfl⟩
                    rw [hx] at q1 hq
                    obtain ⟨hx1, hx2, hx3⟩ := hq
                    have hbz : Below Z.heap.size Z wr := HBR.out.trans ((HB6.out.trans (HBX.out.mono hs6)).mono hsr)
                    have q2 := (hbz.cell (p := ⟨ga, x, none⟩) zga).trans (HAT.out x hx1)
                    have q3 := (hbz.cell (p := ⟨ga, i, none⟩) zga).trans (HAT.out i e)
                    generalize P.idxOf x = ix at *
                    generalize P.idxOf i = ic at *
                    have ogd : Old wr gd := Nat.lt_of_lt_of_le zgd hsx
                    have zgd2 : gd < wr.heap.size := ogd
                    have zga2 : ga < wr.heap.size := Nat.lt_of_lt_of_le zga hbz.size
                    have oga : Old wr ga := zga2
                    have hx1I : (x : Int) < N := by omega
                    have hx0 : (0 : Int) ≤ x := by omega
                    have hi0' : (0 : Int) ≤ i := by omega
                    have hic60 : ic ≤ 60 := by omega
                    have hD60 : D.length ≤ 60 := by omega
                    have t1 : decide ((ix : Int) < (ic : Int)) = false := by simp; omega
                    have t1n : decide (ix < ic) = false := by simp; omega
                    have t2 : decide ((ic : Int) + (D.length : Nat) ≤ (ix : Int)) = false := by simp; omega
                    have t2n : decide (ic + D.length ≤ ix) = false := by simp; omega
                    clear hx hbz
                    go_upto_region 26 with fail
                    refine region_ord [(0, 0), (1, 0), (2, 0), (3, 0), (4, 0), (5, 0), (6, 0), (7, 0), (8, 0), (9, 0), (10, 0), (11, 0), (12, 0), (13, 0), (14, 0), (15, 0), (16, 0), (17, 0), (18, 0), (19, 0), (20, 0), (21, 0), (22, 0), (23, 0), (24, 0), (25, 0), (26, 0), (27, 0), (28, 0)] (by kernel_rfl) (by kernel_rfl) (fun _ _ d _ _ h => by cases d <;> exact h) (fun hS => ?_)
                    (refine wpG_read (v := ?_) rfl (.inl ⟨by rfl, fun wx hbx => ?_⟩) ?_; rotate_left; (focus (obtain ⟨cx0, fx0, zx0⟩ := bk hbx (gd) (by first | omega | (simp; done) | (simp; omega)); have bx0 := bkB hbx (gd) (by first | omega | (simp; done) | (simp; omega)); obtain ⟨cx1, fx1, zx1⟩ := bk hbx (ga) (by first | omega | (simp; done) | (simp; omega)); have bx1 := bkB hbx (ga) (by first | omega | (simp; done) | (simp; omega)); go_simp; (try go_bits); (try with_reducible rfl))); try simp only [Act.put, List.setIfInBounds_toArray, List.set_cons_zero, List.set_cons_succ])
                    (refine wpG_read (v := ?_) rfl (.inl ⟨by rfl, fun wx hbx => ?_⟩) ?_; rotate_left; (focus (obtain ⟨cx0, fx0, zx0⟩ := bk hbx (gd) (by first | omega | (simp; done) | (simp; omega)); have bx0 := bkB hbx (gd) (by first | omega | (simp; done) | (simp; omega)); obtain ⟨cx1, fx1, zx1⟩ := bk hbx (ga) (by first | omega | (simp; done) | (simp; omega)); have bx1 := bkB hbx (ga) (by first | omega | (simp; done) | (simp; omega)); go_simp; (try go_bits); (try with_reducible rfl))); try simp only [Act.put, List.setIfInBounds_toArray, List.set_cons_zero, List.set_cons_succ])
                    (refine wpG_read (v := ?_) rfl (.inl ⟨by rfl, fun wx hbx => ?_⟩) ?_; rotate_left; (focus (obtain ⟨cx0, fx0, zx0⟩ := bk hbx (gd) (by first | omega | (simp; done) | (simp; omega)); have bx0 := bkB hbx (gd) (by first | omega | (simp; done) | (simp; omega)); obtain ⟨cx1, fx1, zx1⟩ := bk hbx (ga) (by first | omega | (simp; done) | (simp; omega)); have bx1 := bkB hbx (ga) (by first | omega | (simp; done) | (simp; omega)); go_simp; (try go_bits); (try with_reducible rfl))); try simp only [Act.put, List.setIfInBounds_toArray, List.set_cons_zero, List.set_cons_succ])
                    (refine wpG_read (v := ?_) rfl (.inl ⟨by rfl, fun wx hbx => ?_⟩) ?_; rotate_left; (focus (obtain ⟨cx0, fx0, zx0⟩ := bk hbx (gd) (by first | omega | (simp; done) | (simp; omega)); have bx0 := bkB hbx (gd) (by first | omega | (simp; done) | (simp; omega)); obtain ⟨cx1, fx1, zx1⟩ := bk hbx (ga) (by first | omega | (simp; done) | (simp; omega)); have bx1 := bkB hbx (ga) (by first | omega | (simp; done) | (simp; omega)); go_simp; (try go_bits); (try with_reducible rfl))); try simp only [Act.put, List.setIfInBounds_toArray, List.set_cons_zero, List.set_cons_succ])
                    (refine wpG_read (v := ?_) rfl (.inl ⟨by rfl, fun wx hbx => ?_⟩) ?_; rotate_left; (focus (obtain ⟨cx0, fx0, zx0⟩ := bk hbx (gd) (by first | omega | (simp; done) | (simp; omega)); have bx0 := bkB hbx (gd) (by first | omega | (simp; done) | (simp; omega)); obtain ⟨cx1, fx1, zx1⟩ := bk hbx (ga) (by first | omega | (simp; done) | (simp; omega)); have bx1 := bkB hbx (ga) (by first | omega | (simp; done) | (simp; omega)); go_simp; (try go_bits); (try with_reducible rfl))); try simp only [Act.put, List.setIfInBounds_toArray, List.set_cons_zero, List.set_cons_succ])
                    (refine wpG_read (v := ?_) rfl (.inl ⟨by rfl, fun wx hbx => ?_⟩) ?_; rotate_left; (focus (obtain ⟨cx0, fx0, zx0⟩ := bk hbx (gd) (by first | omega | (simp; done) | (simp; omega)); have bx0 := bkB hbx (gd) (by first | omega | (simp; done) | (simp; omega)); obtain ⟨cx1, fx1, zx1⟩ := bk hbx (ga) (by first | omega | (simp; done) | (simp; omega)); have bx1 := bkB hbx (ga) (by first | omega | (simp; done) | (simp; omega)); go_simp; (try go_bits); (try with_reducible rfl))); try simp only [Act.put, List.setIfInBounds_toArray, List.set_cons_zero, List.set_cons_succ])
                    (refine wpG_read (v := ?_) rfl (.inl ⟨by rfl, fun wx hbx => ?_⟩) ?_; rotate_left; (focus (obtain ⟨cx0, fx0, zx0⟩ := bk hbx (gd) (by first | omega | (simp; done) | (simp; omega)); have bx0 := bkB hbx (gd) (by first | omega | (simp; done) | (simp; omega)); obtain ⟨cx1, fx1, zx1⟩ := bk hbx (ga) (by first | omega | (simp; done) | (simp; omega)); have bx1 := bkB hbx (ga) (by first | omega | (simp; done) | (simp; omega)); go_simp; (try go_bits); (try with_reducible rfl))); try simp only [Act.put, List.setIfInBounds_toArray, List.set_cons_zero, List.set_cons_succ])
                    (refine wpG_read (v := ?_) rfl (.inl ⟨by rfl, fun wx hbx => ?_⟩) ?_; rotate_left; (focus (obtain ⟨cx0, fx0, zx0⟩ := bk hbx (gd) (by first | omega | (simp; done) | (simp; omega)); have bx0 := bkB hbx (gd) (by first | omega | (simp; done) | (simp; omega)); obtain ⟨cx1, fx1, zx1⟩ := bk hbx (ga) (by first | omega | (simp; done) | (simp; omega)); have bx1 := bkB hbx (ga) (by first | omega | (simp; done) | (simp; omega)); go_simp; (try go_bits); (try with_reducible rfl))); try simp only [Act.put, List.setIfInBounds_toArray, List.set_cons_zero, List.set_cons_succ])
                    (refine wpG_read (v := ?_) rfl (.inl ⟨by rfl, fun wx hbx => ?_⟩) ?_; rotate_left; (focus (obtain ⟨cx0, fx0, zx0⟩ := bk hbx (gd) (by first | omega | (simp; done) | (simp; omega)); have bx0 := bkB hbx (gd) (by first | omega | (simp; done) | (simp; omega)); obtain ⟨cx1, fx1, zx1⟩ := bk hbx (ga) (by first | omega | (simp; done) | (simp; omega)); have bx1 := bkB hbx (ga) (by first | omega | (simp; done) | (simp; omega)); go_simp; (try go_bits); (try with_reducible rfl))); try simp only [Act.put, List.setIfInBounds_toArray, List.set_cons_zero, List.set_cons_succ])
                    (refine wpG_read (v := ?_) rfl (.inl ⟨by rfl, fun wx hbx => ?_⟩) ?_; rotate_left; (focus (obtain ⟨cx0, fx0, zx0⟩ := bk hbx (gd) (by first | omega | (simp; done) | (simp; omega)); have bx0 := bkB hbx (gd) (by first | omega | (simp; done) | (simp; omega)); obtain ⟨cx1, fx1, zx1⟩ := bk hbx (ga) (by first | omega | (simp; done) | (simp; omega)); have bx1 := bkB hbx (ga) (by first | omega | (simp; done) | (simp; omega)); go_simp; (try go_bits); (try with_reducible rfl))); try simp only [Act.put, List.setIfInBounds_toArray, List.set_cons_zero, List.set_cons_succ])
                    (refine wpG_read (v := ?_) rfl (.inl ⟨by rfl, fun wx hbx => ?_⟩) ?_; rotate_left; (focus (obtain ⟨cx0, fx0, zx0⟩ := bk hbx (gd) (by first | omega | (simp; done) | (simp; omega)); have bx0 := bkB hbx (gd) (by first | omega | (simp; done) | (simp; omega)); obtain ⟨cx1, fx1, zx1⟩ := bk hbx (ga) (by first | omega | (simp; done) | (simp; omega)); have bx1 := bkB hbx (ga) (by first | omega | (simp; done) | (simp; omega)); go_simp; (try go_bits); (try with_reducible rfl))); try simp only [Act.put, List.setIfInBounds_toArray, List.set_cons_zero, List.set_cons_succ])
                    (refine wpG_read (v := ?_) rfl (.inl ⟨by rfl, fun wx hbx => ?_⟩) ?_; rotate_left; (focus (obtain ⟨cx0, fx0, zx0⟩ := bk hbx (gd) (by first | omega | (simp; done) | (simp; omega)); have bx0 := bkB hbx (gd) (by first | omega | (simp; done) | (simp; omega)); obtain ⟨cx1, fx1, zx1⟩ := bk hbx (ga) (by first | omega | (simp; done) | (simp; omega)); have bx1 := bkB hbx (ga) (by first | omega | (simp; done) | (simp; omega)); go_simp; (try go_bits); (try with_reducible rfl))); try simp only [Act.put, List.setIfInBounds_toArray, List.set_cons_zero, List.set_cons_succ])
                    (refine wpG_read (v := ?_) rfl (.inl ⟨by rfl, fun wx hbx => ?_⟩) ?_; rotate_left; (focus (obtain ⟨cx0, fx0, zx0⟩ := bk hbx (gd) (by first | omega | (simp; done) | (simp; omega)); have bx0 := bkB hbx (gd) (by first | omega | (simp; done) | (simp; omega)); obtain ⟨cx1, fx1, zx1⟩ := bk hbx (ga) (by first | omega | (simp; done) | (simp; omega)); have bx1 := bkB hbx (ga) (by first | omega | (simp; done) | (simp; omega)); go_simp; (try go_bits); (try with_reducible rfl))); try simp only [Act.put, List.setIfInBounds_toArray, List.set_cons_zero, List.set_cons_succ])
                    (first | (refine wpG_pass rfl (by rfl) ?_; simp only [Act.put, List.setIfInBounds_toArray, List.set_cons_zero, List.set_cons_succ]) | (refine wpG_read (v := ?_) rfl (.inl ⟨by rfl, fun wx hbx => ?_⟩) ?_; rotate_left; (focus (obtain ⟨cx0, fx0, zx0⟩ := bk hbx (gd) (by first | omega | (simp; done) | (simp; omega)); have bx0 := bkB hbx (gd) (by first | omega | (simp; done) | (simp; omega)); obtain ⟨cx1, fx1, zx1⟩ := bk hbx (ga) (by first | omega | (simp; done) | (simp; omega)); have bx1 := bkB hbx (ga) (by first | omega | (simp; done) | (simp; omega)); go_simp; (try go_bits); (try with_reducible rfl))); try simp only [Act.put, List.setIfInBounds_toArray, List.set_cons_zero, List.set_cons_succ]))
                    (first | (refine wpG_pass rfl (by rfl) ?_; simp only [Act.put, List.setIfInBounds_toArray, List.set_cons_zero, List.set_cons_succ]) | (refine wpG_read (v := ?_) rfl (.inl ⟨by rfl, fun wx hbx => ?_⟩) ?_; rotate_left; (focus (obtain ⟨cx0, fx0, zx0⟩ := bk hbx (gd) (by first | omega | (simp; done) | (simp; omega)); have bx0 := bkB hbx (gd) (by first | omega | (simp; done) | (simp; omega)); obtain ⟨cx1, fx1, zx1⟩ := bk hbx (ga) (by first | omega | (simp; done) | (simp; omega)); have bx1 := bkB hbx (ga) (by first | omega | (simp; done) | (simp; omega)); go_simp; (try go_bits); (try with_reducible rfl))); try simp only [Act.put, List.setIfInBounds_toArray, List.set_cons_zero, List.set_cons_succ]))
                    (first | (refine wpG_pass rfl (by rfl) ?_; simp only [Act.put, List.setIfInBounds_toArray, List.set_cons_zero, List.set_cons_succ]) | (refine wpG_read (v := ?_) rfl (.inl ⟨by rfl, fun wx hbx => ?_⟩) ?_; rotate_left; (focus (obtain ⟨cx0, fx0, zx0⟩ := bk hbx (gd) (by first | omega | (simp; done) | (simp; omega)); have bx0 := bkB hbx (gd) (by first | omega | (simp; done) | (simp; omega)); obtain ⟨cx1, fx1, zx1⟩ := bk hbx (ga) (by first | omega | (simp; done) | (simp; omega)); have bx1 := bkB hbx (ga) (by first | omega | (simp; done) | (simp; omega)); go_simp; (try go_bits); (try with_reducible rfl))); try simp only [Act.put, List.setIfInBounds_toArray, List.set_cons_zero, List.set_cons_succ]))
                    (first | (refine wpG_pass rfl (by rfl) ?_; simp only [Act.put, List.setIfInBounds_toArray, List.set_cons_zero, List.set_cons_succ]) | (refine wpG_read (v := ?_) rfl (.inl ⟨by rfl, fun wx hbx => ?_⟩) ?_; rotate_left; (focus (obtain ⟨cx0, fx0, zx0⟩ := bk hbx (gd) (by first | omega | (simp; done) | (simp; omega)); have bx0 := bkB hbx (gd) (by first | omega | (simp; done) | (simp; omega)); obtain ⟨cx1, fx1, zx1⟩ := bk hbx (ga) (by first | omega | (simp; done) | (simp; omega)); have bx1 := bkB hbx (ga) (by first | omega | (simp; done) | (simp; omega)); go_simp; (try go_bits); (try with_reducible rfl))); try simp only [Act.put, List.setIfInBounds_toArray, List.set_cons_zero, List.set_cons_succ]))
                    (first | (refine wpG_pass rfl (by rfl) ?_; simp only [Act.put, List.setIfInBounds_toArray, List.set_cons_zero, List.set_cons_succ]) | (refine wpG_read (v := ?_) rfl (.inl ⟨by rfl, fun wx hbx => ?_⟩) ?_; rotate_left; (focus (obtain ⟨cx0, fx0, zx0⟩ := bk hbx (gd) (by first | omega | (simp; done) | (simp; omega)); have bx0 := bkB hbx (gd) (by first | omega | (simp; done) | (simp; omega)); obtain ⟨cx1, fx1, zx1⟩ := bk hbx (ga) (by first | omega | (simp; done) | (simp; omega)); have bx1 := bkB hbx (ga) (by first | omega | (simp; done) | (simp; omega)); go_simp; (try go_bits); (try with_reducible rfl))); try simp only [Act.put, List.setIfInBounds_toArray, List.set_cons_zero, List.set_cons_succ]))
                    (first | (refine wpG_pass rfl (by rfl) ?_; simp only [Act.put, List.setIfInBounds_toArray, List.set_cons_zero, List.set_cons_succ]) | (refine wpG_read (v := ?_) rfl (.inl ⟨by rfl, fun wx hbx => ?_⟩) ?_; rotate_left; (focus (obtain ⟨cx0, fx0, zx0⟩ := bk hbx (gd) (by first | omega | (simp; done) | (simp; omega)); have bx0 := bkB hbx (gd) (by first | omega | (simp; done) | (simp; omega)); obtain ⟨cx1, fx1, zx1⟩ := bk hbx (ga) (by first | omega | (simp; done) | (simp; omega)); have bx1 := bkB hbx (ga) (by first | omega | (simp; done) | (simp; omega)); go_simp; (try go_bits); (try with_reducible rfl))); try simp only [Act.put, List.setIfInBounds_toArray, List.set_cons_zero, List.set_cons_succ]))
                    (first | (refine wpG_pass rfl (by rfl) ?_; simp only [Act.put, List.setIfInBounds_toArray, List.set_cons_zero, List.set_cons_succ]) | (refine wpG_read (v := ?_) rfl (.inl ⟨by rfl, fun wx hbx => ?_⟩) ?_; rotate_left; (focus (obtain ⟨cx0, fx0, zx0⟩ := bk hbx (gd) (by first | omega | (simp; done) | (simp; omega)); have bx0 := bkB hbx (gd) (by first | omega | (simp; done) | (simp; omega)); obtain ⟨cx1, fx1, zx1⟩ := bk hbx (ga) (by first | omega | (simp; done) | (simp; omega)); have bx1 := bkB hbx (ga) (by first | omega | (simp; done) | (simp; omega)); go_simp; (try go_bits); (try with_reducible rfl))); try simp only [Act.put, List.setIfInBounds_toArray, List.set_cons_zero, List.set_cons_succ]))
                    (first | (refine wpG_pass rfl (by rfl) ?_; simp only [Act.put, List.setIfInBounds_toArray, List.set_cons_zero, List.set_cons_succ]) | (refine wpG_read (v := ?_) rfl (.inl ⟨by rfl, fun wx hbx => ?_⟩) ?_; rotate_left; (focus (obtain ⟨cx0, fx0, zx0⟩ := bk hbx (gd) (by first | omega | (simp; done) | (simp; omega)); have bx0 := bkB hbx (gd) (by first | omega | (simp; done) | (simp; omega)); obtain ⟨cx1, fx1, zx1⟩ := bk hbx (ga) (by first | omega | (simp; done) | (simp; omega)); have bx1 := bkB hbx (ga) (by first | omega | (simp; done) | (simp; omega)); go_simp; (try go_bits); (try with_reducible rfl))); try simp only [Act.put, List.setIfInBounds_toArray, List.set_cons_zero, List.set_cons_succ]))
                    (first | (refine wpG_pass rfl (by rfl) ?_; simp only [Act.put, List.setIfInBounds_toArray, List.set_cons_zero, List.set_cons_succ]) | (refine wpG_read (v := ?_) rfl (.inl ⟨by rfl, fun wx hbx => ?_⟩) ?_; rotate_left; (focus (obtain ⟨cx0, fx0, zx0⟩ := bk hbx (gd) (by first | omega | (simp; done) | (simp; omega)); have bx0 := bkB hbx (gd) (by first | omega | (simp; done) | (simp; omega)); obtain ⟨cx1, fx1, zx1⟩ := bk hbx (ga) (by first | omega | (simp; done) | (simp; omega)); have bx1 := bkB hbx (ga) (by first | omega | (simp; done) | (simp; omega)); go_simp; (try go_bits); (try with_reducible rfl))); try simp only [Act.put, List.setIfInBounds_toArray, List.set_cons_zero, List.set_cons_succ]))
                    (first | (refine wpG_pass rfl (by rfl) ?_; simp only [Act.put, List.setIfInBounds_toArray, List.set_cons_zero, List.set_cons_succ]) | (refine wpG_read (v := ?_) rfl (.inl ⟨by rfl, fun wx hbx => ?_⟩) ?_; rotate_left; (focus (obtain ⟨cx0, fx0, zx0⟩ := bk hbx (gd) (by first | omega | (simp; done) | (simp; omega)); have bx0 := bkB hbx (gd) (by first | omega | (simp; done) | (simp; omega)); obtain ⟨cx1, fx1, zx1⟩ := bk hbx (ga) (by first | omega | (simp; done) | (simp; omega)); have bx1 := bkB hbx (ga) (by first | omega | (simp; done) | (simp; omega)); go_simp; (try go_bits); (try with_reducible rfl))); try simp only [Act.put, List.setIfInBounds_toArray, List.set_cons_zero, List.set_cons_succ]))
                    (first | (refine wpG_pass rfl (by rfl) ?_; simp only [Act.put, List.setIfInBounds_toArray, List.set_cons_zero, List.set_cons_succ]) | (refine wpG_read (v := ?_) rfl (.inl ⟨by rfl, fun wx hbx => ?_⟩) ?_; rotate_left; (focus (obtain ⟨cx0, fx0, zx0⟩ := bk hbx (gd) (by first | omega | (simp; done) | (simp; omega)); have bx0 := bkB hbx (gd) (by first | omega | (simp; done) | (simp; omega)); obtain ⟨cx1, fx1, zx1⟩ := bk hbx (ga) (by first | omega | (simp; done) | (simp; omega)); have bx1 := bkB hbx (ga) (by first | omega | (simp; done) | (simp; omega)); go_simp; (try go_bits); (try with_reducible rfl))); try simp only [Act.put, List.setIfInBounds_toArray, List.set_cons_zero, List.set_cons_succ]))
                    (first | (refine wpG_pass rfl (by rfl) ?_; simp only [Act.put, List.setIfInBounds_toArray, List.set_cons_zero, List.set_cons_succ]) | (refine wpG_read (v := ?_) rfl (.inl ⟨by rfl, fun wx hbx => ?_⟩) ?_; rotate_left; (focus (obtain ⟨cx0, fx0, zx0⟩ := bk hbx (gd) (by first | omega | (simp; done) | (simp; omega)); have bx0 := bkB hbx (gd) (by first | omega | (simp; done) | (simp; omega)); obtain ⟨cx1, fx1, zx1⟩ := bk hbx (ga) (by first | omega | (simp; done) | (simp; omega)); have bx1 := bkB hbx (ga) (by first | omega | (simp; done) | (simp; omega)); go_simp; (try go_bits); (try with_reducible rfl))); try simp only [Act.put, List.setIfInBounds_toArray, List.set_cons_zero, List.set_cons_succ]))
                    (first | (refine wpG_pass rfl (by rfl) ?_; simp only [Act.put, List.setIfInBounds_toArray, List.set_cons_zero, List.set_cons_succ]) | (refine wpG_read (v := ?_) rfl (.inl ⟨by rfl, fun wx hbx => ?_⟩) ?_; rotate_left; (focus (obtain ⟨cx0, fx0, zx0⟩ := bk hbx (gd) (by first | omega | (simp; done) | (simp; omega)); have bx0 := bkB hbx (gd) (by first | omega | (simp; done) | (simp; omega)); obtain ⟨cx1, fx1, zx1⟩ := bk hbx (ga) (by first | omega | (simp; done) | (simp; omega)); have bx1 := bkB hbx (ga) (by first | omega | (simp; done) | (simp; omega)); go_simp; (try go_bits); (try with_reducible rfl))); try simp only [Act.put, List.setIfInBounds_toArray, List.set_cons_zero, List.set_cons_succ]))
                    (first | (refine wpG_pass rfl (by rfl) ?_; simp only [Act.put, List.setIfInBounds_toArray, List.set_cons_zero, List.set_cons_succ]) | (refine wpG_read (v := ?_) rfl (.inl ⟨by rfl, fun wx hbx => ?_⟩) ?_; rotate_left; (focus (obtain ⟨cx0, fx0, zx0⟩ := bk hbx (gd) (by first | omega | (simp; done) | (simp; omega)); have bx0 := bkB hbx (gd) (by first | omega | (simp; done) | (simp; omega)); obtain ⟨cx1, fx1, zx1⟩ := bk hbx (ga) (by first | omega | (simp; done) | (simp; omega)); have bx1 := bkB hbx (ga) (by first | omega | (simp; done) | (simp; omega)); go_simp; (try go_bits); (try with_reducible rfl))); try simp only [Act.put, List.setIfInBounds_toArray, List.set_cons_zero, List.set_cons_succ]))
                    (first | (refine wpG_pass rfl (by rfl) ?_; simp only [Act.put, List.setIfInBounds_toArray, List.set_cons_zero, List.set_cons_succ]) | (refine wpG_read (v := ?_) rfl (.inl ⟨by rfl, fun wx hbx => ?_⟩) ?_; rotate_left; (focus (obtain ⟨cx0, fx0, zx0⟩ := bk hbx (gd) (by first | omega | (simp; done) | (simp; omega)); have bx0 := bkB hbx (gd) (by first | omega | (simp; done) | (simp; omega)); obtain ⟨cx1, fx1, zx1⟩ := bk hbx (ga) (by first | omega | (simp; done) | (simp; omega)); have bx1 := bkB hbx (ga) (by first | omega | (simp; done) | (simp; omega)); go_simp; (try go_bits); (try with_reducible rfl))); try simp only [Act.put, List.setIfInBounds_toArray, List.set_cons_zero, List.set_cons_succ]))
                    (refine wpG_read (v := ?_) rfl (.inl ⟨by rfl, fun wx hbx => ?_⟩) ?_; rotate_left; (focus (obtain ⟨cx0, fx0, zx0⟩ := bk hbx (gd) (by first | omega | (simp; done) | (simp; omega)); have bx0 := bkB hbx (gd) (by first | omega | (simp; done) | (simp; omega)); obtain ⟨cx1, fx1, zx1⟩ := bk hbx (ga) (by first | omega | (simp; done) | (simp; omega)); have bx1 := bkB hbx (ga) (by first | omega | (simp; done) | (simp; omega)); go_simp; (try go_bits); (try with_reducible rfl))); try simp only [Act.put, List.setIfInBounds_toArray, List.set_cons_zero, List.set_cons_succ])
                    refine wpG_nil ?_
                    go_wp2_with fail
                    exact ⟨⟨j + 1, by push_cast; rfl, d, HBX.out.trans (Below.mono (by (repeat' (first | (with_reducible exact Below.refl _ _) | (with_reducible assumption) | (with_reducible refine below_from_drew ?_) | (with_reducible refine Below.alloc ?_ ?_ _) | (with_reducible refine Below.drew ?_) | (with_reducible refine below_drewN ?_ _) | (with_reducible refine Below.setCell ?_ ?_ _) | (with_reducible refine below_via ?_ (by assumption) ?_) | (with_reducible refine below_ov ?_ ?_ _ _) | go_size))) HBX.out.size)⟩, by simp only [intOf]; omega⟩
                  · have d1 : decide ((j : Int) < (D.length : Nat)) = false := by simp; omega
                    have d2 : decide (j < D.length) = false := by simp; omega
                    go_wp2_with fail
                    exact ⟨⟨i + 1, by push_cast; rfl, e, HBR.out.trans ((HB6.out.trans (HBX.out.mono hs6)).mono hsr)⟩, by simp only [intOf]; omega⟩
            · obtain rfl : N = i := by omega
              have hd1 : decide ((N : Int) < (N : Int)) = false := by simp
              go_upto_region 28 with fail
              obtain ⟨wz, rfl⟩ : ∃ wz : World, wz = wr := ⟨_, rfl⟩
              have hbz : Below w1.heap.size w1 wz := HB1Y.out.trans ((HBZ.out.trans (HBR.out.mono HBZ.out.size)).mono HB1Y.out.size)
              have hmz := HMD.out.below hbz
              have HM0 : Hid (∃ f O, M26 (au26 l 1) u wz pt bm 0 (blkL []) bn N N N N (some ⟨gL, 0, none⟩) cL R f O) := Lib.hid ⟨_, _, by rw [au26_one l 1 (Nat.le_refl _)]; exact hmz⟩
              have HP0 := Lib.hid HP3.out
              clear hbz hmz c3 l33 o3 HRR HP3 HRZ HZ3 HBZ HAT HPT HPM HPL HBR hsr hi e HRY HIY HY3 HBY zga
              go_wp2_with fail
              go_loopw [14] (fun vi wr => ∃ (i : Nat) (f : Nat → RowT) (O : Nat → Prop), vi = .int .i64 i ∧ 1 ≤ i ∧ i ≤ N ∧ M26 (au26 l i) u wr pt bm 0 (blkL []) bn N N N N (some ⟨gL, 0, none⟩) cL R f O ∧ Has wr b3 #[.slice (some ⟨gL, 0, none⟩) N cL, .int .i64 0, .int .i64 0] 29) (fun vi _ => N - (intOf vi).toNat)
              case atStart =>
                obtain ⟨f, O, q⟩ := HM0.out
                exact ⟨1, f, O, rfl, Nat.le_refl _, hN0, q, HP0.out⟩
              case round =>
                obtain ⟨i, f2, O2, rfl, hi1, hi, hm, hp3⟩ := hrel
                have HM2 := Lib.hid hm
                have HP3 := Lib.hid hp3
                have c3 := hp3.cells; have l33 := hp3.lt; have o3 : Old wr b3 := l33
                clear HM0 HP0
                rcases Nat.lt_or_ge i N with e | e
                · have ci : (i : Int) < N := by omega
                  have hi0' : (0 : Int) ≤ i := by omega
                  have hlen := hNl.out i hi1 e
                  obtain ⟨gL', eg, hR2⟩ := hm.rd hN0
                  cases eg
                  have q48 := hR2.au i e
                  have zgL := hR2.zL
                  have ogL : Old wr gL := zgL
                  obtain ⟨cg, hcg⟩ := own_has (g := gL) (hm.wd.fam.row 0 (by omega)) (by rw [hm.f0]; rfl)
                  rw [hm.f0] at hcg
                  have fg := hcg.frozen
                  have hne : ¬ b3 = gL := fun q => by subst q; exact absurd (show 29 = 68 from has_ty hp3 hcg) (by decide)
                  have hb3n : ¬ b3 = bn := fun q => by subst q; exact has_notMap hp3 (hm.wd.mok 0 (by omega))
                  obtain ⟨f3, O3, hm3⟩ := hm.auto e hi1 hlen
                  have HM3 := Lib.hid hm3
                  have HNE := Lib.hid hne; have HNB := Lib.hid hb3n
                  have hp4 : Has (wr.setCell ⟨gL, i * 65 + 48, none⟩ (.bool true)) b3 #[.slice (some ⟨gL, 0, none⟩) N cL, .int .i64 0, .int .i64 0] 29 := ((ButS.refl (fun b => b = gL) wr.heap.size wr).setCell (.inr rfl)).has hp3 l33 hne
                  have HP4 := Lib.hid hp4
                  clear hm hR2 hcg hm3 hp3 hp4 hne hb3n
                  go_upto_region 32 with fail
                  generalize hW1 : wr.setCell ⟨gL, i * 65 + 48, none⟩ (.bool true) = W1 at *
                  clear hW1 q48 fg zgL ogL c3 l33 o3
                  have okn := HM3.out.wd.mok 0 (by omega)
                  have ol : Old W1 bn := okn.lt
                  have hlk : mlook (mapOf W1 bn) (i : Int) = some (lay26 (au26 l i) i) := (HM3.out.wd.mlk 0 (by omega) (i : Int)).trans (by show m26 (au26 l i) N (i : Int) = _; unfold m26; rw [if_pos ⟨by omega, by omega⟩, Int.toNat_natCast])
                  have g1 : mgetD (mapOf W1 bn) (i : Int) layZ = .agg (layC (nd26 (au26 l i) i).z (nd26 (au26 l i) i).au (1 + (nd26 (au26 l i) i).pos % 3) (1 + (nd26 (au26 l i) i).ov % 3) (tx26 (au26 l i) i)).toArray := mgetD_some hlk
                  have hlay : lay26 (au26 l (i + 1)) i = .agg (layC (nd26 (au26 l i) i).z true (1 + (nd26 (au26 l i) i).pos % 3) (1 + (nd26 (au26 l i) i).ov % 3) (tx26 (au26 l i) i)).toArray := by
                    unfold lay26
                    rw [au26_tx, au26_tx, au26_nd, au26_nd, if_pos ⟨hi1, by omega, hlen⟩, if_neg (by omega)]
                  have HLAY := Lib.hid hlay
                  clear hlk hlay
                  obtain ⟨zz, hzz⟩ : ∃ z, (nd26 (au26 l i) i).z = z := ⟨_, rfl⟩
                  obtain ⟨au, hau⟩ : ∃ z, (nd26 (au26 l i) i).au = z := ⟨_, rfl⟩
                  obtain ⟨po, hpo⟩ : ∃ z, 1 + (nd26 (au26 l i) i).pos % 3 = z := ⟨_, rfl⟩
                  obtain ⟨ov', hov⟩ : ∃ z, 1 + (nd26 (au26 l i) i).ov % 3 = z := ⟨_, rfl⟩
                  obtain ⟨tx, htx⟩ : ∃ z, tx26 (au26 l i) i = z := ⟨_, rfl⟩
                  rw [hzz, hau, hpo, hov, htx] at g1
                  rw [hzz, hpo, hov, htx] at HLAY
                  clear hzz hau hpo hov htx
                  go_upto_region 33 with fail
                  have hq : ∀ (X : World) (b : Nat), (blkCells X b).size = 64 → runStore Try.prog 77 (.pointer (some ⟨b, 0, none⟩)) (.agg (layC zz au po ov' tx).toArray) X = .ok .skip (putBlk X b (layC zz au po ov' tx).toArray) := fun X b h => bigl_s X b _ h rfl rfl
                  have hz2 : ∀ (X : World) (c : Array Value) (T : TypeId), c.size = 64 → X.heap.size = W1.heap.size → (blkCells (X.alloc (.cells c T)) W1.heap.size).size = 64 := fun X c T h1 h2 => by
                    rw [blkCells_new h2.symm]; exact h1
                  rw [hq _ _ (hz2 _ _ _ rfl rfl)]
                  clear hq hz2
                  go_upto_region 33 with fail
                  refine name_w (f := Code.wp _ _ _ _) (fun W2 hW2 => ?_)
                  have hbW : Below W1.heap.size W1 W2 := by rw [hW2]; (repeat' (first | (with_reducible exact Below.refl _ _) | (with_reducible assumption) | (with_reducible refine below_from_drew ?_) | (with_reducible refine Below.alloc ?_ ?_ _) | (with_reducible refine Below.drew ?_) | (with_reducible refine below_drewN ?_ _) | (with_reducible refine Below.setCell ?_ ?_ _) | (with_reducible refine below_via ?_ (by assumption) ?_) | (with_reducible refine below_ov ?_ ?_ _ _) | go_size))
                  have h5 : Has W2 W1.heap.size (layC zz au po ov' tx).toArray 77 := by rw [hW2]; exact has_new rfl
                  have HB2 := Lib.hid hbW; have H5 := Lib.hid h5
                  have hW12 := hbW.size
                  have l5 := h5.lt; have o5 : Old W2 W1.heap.size := l5
                  rw [← ov_self h5]
                  clear hW2 hbW h5 g1 okn ol
                  go_upto_region 34 with fail
                  refine name_w (f := Code.wp _ _ _ _) (fun W3 hW3 => ?_)
                  have hbW : Below W1.heap.size W1 W3 := by rw [hW3]; exact below_ov HB2.out (Nat.le_refl _) _ _
                  have h6 : Has W3 W1.heap.size (layC zz true po ov' tx).toArray 77 := by rw [hW3]; exact has_ov_same l5
                  have hm4 := HM3.out.below hbW
                  have okn := hm4.wd.mok 0 (by omega)
                  have ol : Old W3 bn := okn.lt
                  have hbc := blkCells_has h6
                  have hbs : (blkCells W3 W1.heap.size).size = 64 := by rw [hbc]; rfl
                  have hld : runLoad Try.prog 77 (.pointer (some ⟨W1.heap.size, 0, none⟩)) W3 = .ok (.value (.agg (layC zz true po ov' tx).toArray)) W3 := by rw [bigl_l W3 _ hbs, hbc]
                  obtain ⟨O4, hm5⟩ := M26.autoMap hm4 e
                  rw [HLAY.out] at hm5
                  have HM5 := Lib.hid hm5
                  have HP5 := Lib.hid (has_putM (k := (i : Int)) (v := .agg (layC zz true po ov' tx).toArray) HNB.out (has_below hbW HP4.out))
                  clear hW3 hbW h6 hm4 hm5 l5 o5 hbc hbs
                  go_wp2_with fail
                  exact ⟨⟨i + 1, f3, O4, by push_cast; rfl, by omega, e, HM5.out, HP5.out⟩, by simp only [intOf]; omega⟩
                · obtain rfl : N = i := by omega
                  have hd1 : decide ((N : Int) < (N : Int)) = false := by simp
                  obtain ⟨T, hT⟩ : ∃ T, preN (pa26 l) N 0 = T := ⟨_, rfl⟩
                  have hTl : T.length = N := by rw [← hT]; exact preN_len HPA.out hN0
                  have hI := hm.into hN0
                  have hpe : pa26 (au26 l N) = pa26 l := funext fun i => au26_pa l N i
                  have hfl : paintN (pa26 (au26 l N)) N (ctx26 (au26 l N)) (z26 (au26 l N)) 0 = T := by
                    rw [paintN_flat2 (fun i hi => pa26_lt _ hi) hN0 (fun k h1 h2 => au26_ctx l h1 h2 (hNl.out k h1 h2)), hpe, hT]
                  have hnr : nums R = T.map (fun (k : Nat) => (k : Int)) := by
                    have := hI.told
                    rw [hpe] at this
                    rw [order_rows HPA.out this hN0, hT]
                  have hRl : R.length = N := hI.told.len
                  have HB9 := Lib.hid (HBU.out.trans (hm.wd.bel.mono HBU.out.size))
                  have HPO := Lib.hid (fun X (hX : Below wr.heap.size wr X) => porder_any (au26 l N) N pt bm bn _ R X (by omega) hN0 (hI.below hX))
                  rw [hfl] at HPO
                  have HTO := Lib.hid (show ∀ X, Below wr.heap.size wr X → Calls Try.prog 23 #[.pointer (some ⟨pt, 0, none⟩)] X fun e w' => ∃ a c, e = .returned (.slice a N c) ∧ IntsAt w' a (T.map (fun (k : Nat) => (k : Int))) ∧ Below X.heap.size X w' from fun X hX => (torder_any pt bm _ R N X (hI.tree.below hX) (by omega)).mono fun e w' ⟨a, c, h1, h2, h3⟩ => ⟨a, c, by rw [h1, hRl], by rw [← hnr]; exact h2, h3⟩)
                  have HTL := Lib.hid hTl
                  clear hm hp3 hT hTl hI hpe hfl hnr hRl hi hi1 e HM2 HP3
                  go_upto_region 35 with fail
                  clear c3 l33 o3
                  go_upto_region 36 with (first | ((go_at_call 18; (with_reducible refine (HPO.out _ (by (repeat' (first | (with_reducible exact Below.refl _ _) | (with_reducible assumption) | (with_reducible refine below_from_drew ?_) | (with_reducible refine Below.alloc ?_ ?_ _) | (with_reducible refine Below.drew ?_) | (with_reducible refine below_drewN ?_ _) | (with_reducible refine Below.setCell ?_ ?_ _) | (with_reducible refine below_via ?_ (by assumption) ?_) | (with_reducible refine below_ov ?_ ?_ _ _) | go_size)))).mono ?_); rintro e u1 ⟨v1, rfl, hv1, hb⟩; have hz := hb.size; refine (fun hB => ?_ : Below wr.heap.size wr u1 → _) ?_; rotate_left; (focus ((repeat' (first | (with_reducible exact Below.refl _ _) | (with_reducible assumption) | (with_reducible refine below_from_drew ?_) | (with_reducible refine Below.alloc ?_ ?_ _) | (with_reducible refine Below.drew ?_) | (with_reducible refine below_drewN ?_ _) | (with_reducible refine Below.setCell ?_ ?_ _) | (with_reducible refine below_via ?_ (by assumption) ?_) | (with_reducible refine below_ov ?_ ?_ _ _) | go_size)); done)); (try simp only [World.size_alloc, World.size_setCell, World.size_drew, ov_size] at hz))) | ((go_at_call 23; (with_reducible refine (HTO.out _ (by (repeat' (first | (with_reducible exact Below.refl _ _) | (with_reducible assumption) | (with_reducible refine below_from_drew ?_) | (with_reducible refine Below.alloc ?_ ?_ _) | (with_reducible refine Below.drew ?_) | (with_reducible refine below_drewN ?_ _) | (with_reducible refine Below.setCell ?_ ?_ _) | (with_reducible refine below_via ?_ (by assumption) ?_) | (with_reducible refine below_ov ?_ ?_ _ _) | go_size)))).mono ?_); rintro e u2 ⟨a2, k2, rfl, hi2, hb⟩; replace hv1 := hv1.below hb; have hz := hb.size; refine (fun hB => ?_ : Below wr.heap.size wr u2 → _) ?_; rotate_left; (focus ((repeat' (first | (with_reducible exact Below.refl _ _) | (with_reducible assumption) | (with_reducible refine below_from_drew ?_) | (with_reducible refine Below.alloc ?_ ?_ _) | (with_reducible refine Below.drew ?_) | (with_reducible refine below_drewN ?_ _) | (with_reducible refine Below.setCell ?_ ?_ _) | (with_reducible refine below_via ?_ (by assumption) ?_) | (with_reducible refine below_ov ?_ ?_ _ _) | go_size)); done)); (try simp only [World.size_alloc, World.size_setCell, World.size_drew, ov_size] at hz))))
                  obtain ⟨g1, k1, rfl, _, zg1, hp1⟩ := hv1.cells (by rw [HTL.out]; exact hN0)
                  obtain ⟨g2, o2, rfl, zg2, hp2⟩ := hi2 (by rw [List.length_map, HTL.out]; exact hN0)
                  have HQ1 := Lib.hid hp1
                  have HQ2 := Lib.hid (fun j (hj : j < T.length) => (hp2 j (by rw [List.length_map]; exact hj)).trans (show some (Value.int .i64 ((T.map (fun (k : Nat) => (k : Int))).getD j 0)) = some (.int .i64 ((T.getD j 0 : Nat) : Int)) by simp [List.getD_eq_getElem?_getD, hj]))
                  have HBF := Lib.hid (HB9.out.trans (hB.mono HB9.out.size))
                  have htn : T.length = N := HTL.out
                  rw [htn]
                  clear hv1 hi2 hp1 hp2 hB HPO HTO htn
                  clear hz
                  go_wp2_with fail
                  go_loopw [18] (fun vi wx => ∃ i : Nat, vi = .int .i64 i ∧ i ≤ N ∧ Below u2.heap.size u2 wx) (fun vi _ => N - (intOf vi).toNat)
                  case atStart => exact ⟨0, rfl, Nat.zero_le _, Below.refl _ _⟩
                  case round =>
                    obtain ⟨i, rfl, hi, hbx⟩ := hrel
                    have HBX := Lib.hid hbx
                    have hsx := hbx.size
                    clear hbx
                    rcases Nat.lt_or_ge i N with e | e
                    · have ci : (i : Int) < N := by omega
                      have hi0' : (0 : Int) ≤ i := by omega
                      have e2 : i < T.length := by rw [HTL.out]; exact e
                      have q1 := (HBX.out.cell (p := ⟨g1, i, none⟩) zg1).trans (HQ1.out i e2)
                      have q2 := (HBX.out.cell (p := ⟨g2, o2 + i, none⟩) zg2).trans (HQ2.out i e2)
                      have og1 : Old wr g1 := Nat.lt_of_lt_of_le zg1 hsx
                      have og2 : Old wr g2 := Nat.lt_of_lt_of_le zg2 hsx
                      have zz1 : g1 < wr.heap.size := og1
                      have zz2 : g2 < wr.heap.size := og2
                      have t1 : decide ((N : Int) ≤ (i : Int)) = false := by simp; omega
                      have t1n : decide (N ≤ i) = false := by simp; omega
                      clear e2
                      go_upto_region 39 with fail
                      refine region_ord [(0, 0), (1, 0), (2, 0), (3, 0), (4, 0), (5, 0), (6, 0), (7, 0), (8, 0), (9, 0), (10, 0), (11, 0), (12, 0), (13, 0), (14, 0)] (by kernel_rfl) (by kernel_rfl) (fun _ _ d _ _ h => by cases d <;> exact h) (fun hS => ?_)
                      (refine wpG_read (v := ?_) rfl (.inl ⟨by rfl, fun wx hbx => ?_⟩) ?_; rotate_left; (focus (obtain ⟨cx0, fx0, zx0⟩ := bk hbx (g1) (by first | omega | (simp; done) | (simp; omega)); have bx0 := bkB hbx (g1) (by first | omega | (simp; done) | (simp; omega)); obtain ⟨cx1, fx1, zx1⟩ := bk hbx (g2) (by first | omega | (simp; done) | (simp; omega)); have bx1 := bkB hbx (g2) (by first | omega | (simp; done) | (simp; omega)); go_simp; (try go_bits); (try with_reducible rfl))); try simp only [Act.put, List.setIfInBounds_toArray, List.set_cons_zero, List.set_cons_succ])
                      (refine wpG_read (v := ?_) rfl (.inl ⟨by rfl, fun wx hbx => ?_⟩) ?_; rotate_left; (focus (obtain ⟨cx0, fx0, zx0⟩ := bk hbx (g1) (by first | omega | (simp; done) | (simp; omega)); have bx0 := bkB hbx (g1) (by first | omega | (simp; done) | (simp; omega)); obtain ⟨cx1, fx1, zx1⟩ := bk hbx (g2) (by first | omega | (simp; done) | (simp; omega)); have bx1 := bkB hbx (g2) (by first | omega | (simp; done) | (simp; omega)); go_simp; (try go_bits); (try with_reducible rfl))); try simp only [Act.put, List.setIfInBounds_toArray, List.set_cons_zero, List.set_cons_succ])
                      (refine wpG_read (v := ?_) rfl (.inl ⟨by rfl, fun wx hbx => ?_⟩) ?_; rotate_left; (focus (obtain ⟨cx0, fx0, zx0⟩ := bk hbx (g1) (by first | omega | (simp; done) | (simp; omega)); have bx0 := bkB hbx (g1) (by first | omega | (simp; done) | (simp; omega)); obtain ⟨cx1, fx1, zx1⟩ := bk hbx (g2) (by first | omega | (simp; done) | (simp; omega)); have bx1 := bkB hbx (g2) (by first | omega | (simp; done) | (simp; omega)); go_simp; (try go_bits); (try with_reducible rfl))); try simp only [Act.put, List.setIfInBounds_toArray, List.set_cons_zero, List.set_cons_succ])
                      (refine wpG_read (v := ?_) rfl (.inl ⟨by rfl, fun wx hbx => ?_⟩) ?_; rotate_left; (focus (obtain ⟨cx0, fx0, zx0⟩ := bk hbx (g1) (by first | omega | (simp; done) | (simp; omega)); have bx0 := bkB hbx (g1) (by first | omega | (simp; done) | (simp; omega)); obtain ⟨cx1, fx1, zx1⟩ := bk hbx (g2) (by first | omega | (simp; done) | (simp; omega)); have bx1 := bkB hbx (g2) (by first | omega | (simp; done) | (simp; omega)); go_simp; (try go_bits); (try with_reducible rfl))); try simp only [Act.put, List.setIfInBounds_toArray, List.set_cons_zero, List.set_cons_succ])
                      (refine wpG_read (v := ?_) rfl (.inl ⟨by rfl, fun wx hbx => ?_⟩) ?_; rotate_left; (focus (obtain ⟨cx0, fx0, zx0⟩ := bk hbx (g1) (by first | omega | (simp; done) | (simp; omega)); have bx0 := bkB hbx (g1) (by first | omega | (simp; done) | (simp; omega)); obtain ⟨cx1, fx1, zx1⟩ := bk hbx (g2) (by first | omega | (simp; done) | (simp; omega)); have bx1 := bkB hbx (g2) (by first | omega | (simp; done) | (simp; omega)); go_simp; (try go_bits); (try with_reducible rfl))); try simp only [Act.put, List.setIfInBounds_toArray, List.set_cons_zero, List.set_cons_succ])
                      (first | (refine wpG_pass rfl (by rfl) ?_; simp only [Act.put, List.setIfInBounds_toArray, List.set_cons_zero, List.set_cons_succ]) | (refine wpG_read (v := ?_) rfl (.inl ⟨by rfl, fun wx hbx => ?_⟩) ?_; rotate_left; (focus (obtain ⟨cx0, fx0, zx0⟩ := bk hbx (g1) (by first | omega | (simp; done) | (simp; omega)); have bx0 := bkB hbx (g1) (by first | omega | (simp; done) | (simp; omega)); obtain ⟨cx1, fx1, zx1⟩ := bk hbx (g2) (by first | omega | (simp; done) | (simp; omega)); have bx1 := bkB hbx (g2) (by first | omega | (simp; done) | (simp; omega)); go_simp; (try go_bits); (try with_reducible rfl))); try simp only [Act.put, List.setIfInBounds_toArray, List.set_cons_zero, List.set_cons_succ]))
                      (first | (refine wpG_pass rfl (by rfl) ?_; simp only [Act.put, List.setIfInBounds_toArray, List.set_cons_zero, List.set_cons_succ]) | (refine wpG_read (v := ?_) rfl (.inl ⟨by rfl, fun wx hbx => ?_⟩) ?_; rotate_left; (focus (obtain ⟨cx0, fx0, zx0⟩ := bk hbx (g1) (by first | omega | (simp; done) | (simp; omega)); have bx0 := bkB hbx (g1) (by first | omega | (simp; done) | (simp; omega)); obtain ⟨cx1, fx1, zx1⟩ := bk hbx (g2) (by first | omega | (simp; done) | (simp; omega)); have bx1 := bkB hbx (g2) (by first | omega | (simp; done) | (simp; omega)); go_simp; (try go_bits); (try with_reducible rfl))); try simp only [Act.put, List.setIfInBounds_toArray, List.set_cons_zero, List.set_cons_succ]))
                      (first | (refine wpG_pass rfl (by rfl) ?_; simp only [Act.put, List.setIfInBounds_toArray, List.set_cons_zero, List.set_cons_succ]) | (refine wpG_read (v := ?_) rfl (.inl ⟨by rfl, fun wx hbx => ?_⟩) ?_; rotate_left; (focus (obtain ⟨cx0, fx0, zx0⟩ := bk hbx (g1) (by first | omega | (simp; done) | (simp; omega)); have bx0 := bkB hbx (g1) (by first | omega | (simp; done) | (simp; omega)); obtain ⟨cx1, fx1, zx1⟩ := bk hbx (g2) (by first | omega | (simp; done) | (simp; omega)); have bx1 := bkB hbx (g2) (by first | omega | (simp; done) | (simp; omega)); go_simp; (try go_bits); (try with_reducible rfl))); try simp only [Act.put, List.setIfInBounds_toArray, List.set_cons_zero, List.set_cons_succ]))
                      (first | (refine wpG_pass rfl (by rfl) ?_; simp only [Act.put, List.setIfInBounds_toArray, List.set_cons_zero, List.set_cons_succ]) | (refine wpG_read (v := ?_) rfl (.inl ⟨by rfl, fun wx hbx => ?_⟩) ?_; rotate_left; (focus (obtain ⟨cx0, fx0, zx0⟩ := bk hbx (g1) (by first | omega | (simp; done) | (simp; omega)); have bx0 := bkB hbx (g1) (by first | omega | (simp; done) | (simp; omega)); obtain ⟨cx1, fx1, zx1⟩ := bk hbx (g2) (by first | omega | (simp; done) | (simp; omega)); have bx1 := bkB hbx (g2) (by first | omega | (simp; done) | (simp; omega)); go_simp; (try go_bits); (try with_reducible rfl))); try simp only [Act.put, List.setIfInBounds_toArray, List.set_cons_zero, List.set_cons_succ]))
                      (first | (refine wpG_pass rfl (by rfl) ?_; simp only [Act.put, List.setIfInBounds_toArray, List.set_cons_zero, List.set_cons_succ]) | (refine wpG_read (v := ?_) rfl (.inl ⟨by rfl, fun wx hbx => ?_⟩) ?_; rotate_left; (focus (obtain ⟨cx0, fx0, zx0⟩ := bk hbx (g1) (by first | omega | (simp; done) | (simp; omega)); have bx0 := bkB hbx (g1) (by first | omega | (simp; done) | (simp; omega)); obtain ⟨cx1, fx1, zx1⟩ := bk hbx (g2) (by first | omega | (simp; done) | (simp; omega)); have bx1 := bkB hbx (g2) (by first | omega | (simp; done) | (simp; omega)); go_simp; (try go_bits); (try with_reducible rfl))); try simp only [Act.put, List.setIfInBounds_toArray, List.set_cons_zero, List.set_cons_succ]))
                      (first | (refine wpG_pass rfl (by rfl) ?_; simp only [Act.put, List.setIfInBounds_toArray, List.set_cons_zero, List.set_cons_succ]) | (refine wpG_read (v := ?_) rfl (.inl ⟨by rfl, fun wx hbx => ?_⟩) ?_; rotate_left; (focus (obtain ⟨cx0, fx0, zx0⟩ := bk hbx (g1) (by first | omega | (simp; done) | (simp; omega)); have bx0 := bkB hbx (g1) (by first | omega | (simp; done) | (simp; omega)); obtain ⟨cx1, fx1, zx1⟩ := bk hbx (g2) (by first | omega | (simp; done) | (simp; omega)); have bx1 := bkB hbx (g2) (by first | omega | (simp; done) | (simp; omega)); go_simp; (try go_bits); (try with_reducible rfl))); try simp only [Act.put, List.setIfInBounds_toArray, List.set_cons_zero, List.set_cons_succ]))
                      (first | (refine wpG_pass rfl (by rfl) ?_; simp only [Act.put, List.setIfInBounds_toArray, List.set_cons_zero, List.set_cons_succ]) | (refine wpG_read (v := ?_) rfl (.inl ⟨by rfl, fun wx hbx => ?_⟩) ?_; rotate_left; (focus (obtain ⟨cx0, fx0, zx0⟩ := bk hbx (g1) (by first | omega | (simp; done) | (simp; omega)); have bx0 := bkB hbx (g1) (by first | omega | (simp; done) | (simp; omega)); obtain ⟨cx1, fx1, zx1⟩ := bk hbx (g2) (by first | omega | (simp; done) | (simp; omega)); have bx1 := bkB hbx (g2) (by first | omega | (simp; done) | (simp; omega)); go_simp; (try go_bits); (try with_reducible rfl))); try simp only [Act.put, List.setIfInBounds_toArray, List.set_cons_zero, List.set_cons_succ]))
                      (first | (refine wpG_pass rfl (by rfl) ?_; simp only [Act.put, List.setIfInBounds_toArray, List.set_cons_zero, List.set_cons_succ]) | (refine wpG_read (v := ?_) rfl (.inl ⟨by rfl, fun wx hbx => ?_⟩) ?_; rotate_left; (focus (obtain ⟨cx0, fx0, zx0⟩ := bk hbx (g1) (by first | omega | (simp; done) | (simp; omega)); have bx0 := bkB hbx (g1) (by first | omega | (simp; done) | (simp; omega)); obtain ⟨cx1, fx1, zx1⟩ := bk hbx (g2) (by first | omega | (simp; done) | (simp; omega)); have bx1 := bkB hbx (g2) (by first | omega | (simp; done) | (simp; omega)); go_simp; (try go_bits); (try with_reducible rfl))); try simp only [Act.put, List.setIfInBounds_toArray, List.set_cons_zero, List.set_cons_succ]))
                      (first | (refine wpG_pass rfl (by rfl) ?_; simp only [Act.put, List.setIfInBounds_toArray, List.set_cons_zero, List.set_cons_succ]) | (refine wpG_read (v := ?_) rfl (.inl ⟨by rfl, fun wx hbx => ?_⟩) ?_; rotate_left; (focus (obtain ⟨cx0, fx0, zx0⟩ := bk hbx (g1) (by first | omega | (simp; done) | (simp; omega)); have bx0 := bkB hbx (g1) (by first | omega | (simp; done) | (simp; omega)); obtain ⟨cx1, fx1, zx1⟩ := bk hbx (g2) (by first | omega | (simp; done) | (simp; omega)); have bx1 := bkB hbx (g2) (by first | omega | (simp; done) | (simp; omega)); go_simp; (try go_bits); (try with_reducible rfl))); try simp only [Act.put, List.setIfInBounds_toArray, List.set_cons_zero, List.set_cons_succ]))
                      (refine wpG_read (v := ?_) rfl (.inl ⟨by rfl, fun wx hbx => ?_⟩) ?_; rotate_left; (focus (obtain ⟨cx0, fx0, zx0⟩ := bk hbx (g1) (by first | omega | (simp; done) | (simp; omega)); have bx0 := bkB hbx (g1) (by first | omega | (simp; done) | (simp; omega)); obtain ⟨cx1, fx1, zx1⟩ := bk hbx (g2) (by first | omega | (simp; done) | (simp; omega)); have bx1 := bkB hbx (g2) (by first | omega | (simp; done) | (simp; omega)); go_simp; (try go_bits); (try with_reducible rfl))); try simp only [Act.put, List.setIfInBounds_toArray, List.set_cons_zero, List.set_cons_succ])
                      refine wpG_nil ?_
                      go_wp2_with fail
                      exact ⟨⟨i + 1, by push_cast; rfl, e, HBX.out.trans (Below.mono (by (repeat' (first | (with_reducible exact Below.refl _ _) | (with_reducible assumption) | (with_reducible refine below_from_drew ?_) | (with_reducible refine Below.alloc ?_ ?_ _) | (with_reducible refine Below.drew ?_) | (with_reducible refine below_drewN ?_ _) | (with_reducible refine Below.setCell ?_ ?_ _) | (with_reducible refine below_via ?_ (by assumption) ?_) | (with_reducible refine below_ov ?_ ?_ _ _) | go_size))) HBX.out.size)⟩, by simp only [intOf]; omega⟩
                    · obtain rfl : N = i := by omega
                      have hd2 : decide ((N : Int) < (N : Int)) = false := by simp
                      go_wp2_with fail
                      go_ret
                      exact ⟨rfl, HBF.out.trans (HBX.out.mono HBF.out.size)⟩
end Go.Proofs.Ytjcbphhemmdnjaa
