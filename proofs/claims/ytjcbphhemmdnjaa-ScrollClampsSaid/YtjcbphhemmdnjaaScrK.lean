/- law23 (scroll): the document's Most by contract. -/
import Derived.Test.YtjcbphhemmdnjaaScrJ
import Derived.Deep.MidRow
namespace Go.Proofs.Ytjcbphhemmdnjaa
open Go Go.RowKit
set_option linter.unusedSimpArgs false
set_option linter.unusedVariables false
-- below_from_drew
attribute [local go_sem] ov_cell_same ov_cell_other ov_frozen_same ov_frozen_other ov_size ov_setCell_same ov_setCell_other cell_alloc_old frozen_alloc_old setCell_alloc_old old_alloc old_ov old_drew old_drewN old_setCell
attribute [local go_sem ↓] run_max2 run_min2
theorem bigk_xl {ρ : Operand → Value} {d : Option Tmp} {t : TypeId} {x : Operand} {po : String} {af : Array Edge} {g : Option (Nat × Bool)} (w : World) : (execOp ρ ⟨d, .load 44 x, t, po, af, g⟩).run Try.prog w = runLoad Try.prog 44 (ρ x) w := exec_load w
theorem bigk_xs {ρ : Operand → Value} {d : Option Tmp} {t : TypeId} {x y : Operand} {po : String} {af : Array Edge} {g : Option (Nat × Bool)} (w : World) : (execOp ρ ⟨d, .store 44 x y, t, po, af, g⟩).run Try.prog w = runStore Try.prog 44 (ρ x) (ρ y) w := exec_store w
theorem bigk_l (w : World) (b : Nat) (h : (blkCells w b).size = 18) : runLoad Try.prog 44 (.pointer (some ⟨b, 0, none⟩)) w = .ok (.value (.agg (blkCells w b))) w := runLoad_blk Try.underlying44 rfl (by kernel_rfl) (by omega) w b h
theorem bigk_s (w : World) (b : Nat) (l : List Value) (h : (blkCells w b).size = 18) (hl : l.length = 18) (h1 : allOne l = true) : runStore Try.prog 44 (.pointer (some ⟨b, 0, none⟩)) (.agg l.toArray) w = .ok .skip (putBlk w b l.toArray) := runStore_blk (by kernel_rfl) (by omega) w b l h hl h1
attribute [local go_sem ↓] bigk_xl bigk_xs
attribute [local go_sem] bigk_l bigk_s blkCells_ov_same blkCells_ov_other blkCells_new blkCells_old blkCells_drew blkCells_drewN putBlk_ov_same putBlk_ov_other putBlk_new putBlk_old putBlk_drew putBlk_drewN putBlk_size allOne_nil allOne_int allOne_bool allOne_slice allOne_pointer allOne_map allOne_string
theorem box18_one23 (t : Bool) (x y w h b : Int) : allOne (box18 t x y w h b (.slice none 0 0)) = true := by
  have h : allOne (box18 t x y w h b (.slice none 0 0)) = true := rfl
  exact h
theorem box18_len23 (t : Bool) (x y w h b : Int) (pc : Value) : (box18 t x y w h b pc).length = 18 := by
  have h : (box18 t x y w h b pc).length = 18 := rfl
  exact h
theorem box18_size23 (t : Bool) (x y w h b : Int) (pc : Value) : (box18 t x y w h b pc).toArray.size = 18 := by
  have h : (box18 t x y w h b pc).toArray.size = 18 := rfl
  exact h
attribute [local go_sem] box18_one23 box18_len23 box18_size23
theorem b22_box (l : List N23) (k b : Nat) (h : there23 l k = true) (hx : tx23 l k = false) : b22V l k b = box18 true (nd23 l k).x (nd23 l k).y ((nd23 l k).w + 2 * bw23 l k) ((nd23 l k).h + 2 * bw23 l k) (bw23 l k) (.slice none 0 0) := by
  unfold b22V byV
  rw [if_pos h, hx]
  rfl
theorem b22_text (l : List N23) (k b : Nat) (h : there23 l k = true) (hx : tx23 l k = true) : b22V l k b = box18 true 0 0 0 0 0 (pc1 b) := by
  unfold b22V byV
  rw [if_pos h, hx]
  rfl
theorem loadB_mid {W : World} {gl o : Nat} {cs : List Value} (hs : cs.length = 18) (h : ∀ j v, cs[j]? = some v → W.cell? ⟨gl, o + j, none⟩ = some v) : runLoad Try.prog 44 (.pointer (some ⟨gl, o, none⟩)) W = .ok (.value (.agg cs.toArray)) W := by
  unfold runLoad
  rw [Sem.run_bind, run_loadAt_mid W gl o 44 cs _ h Try.underlying44 rfl (by rw [hs]; kernel_rfl)]
  rfl
theorem b22V_there23 (l : List N23) (i b : Nat) : (b22V l i b)[0]? = some (.bool (there23 l i)) := by
  unfold b22V byV
  rcases h : there23 l i with _ | _
  · rfl
  · rw [if_pos rfl]; split <;> rfl
def endF (l : List N23) (b s : Nat → Int) (n : Nat) (x o : Int) (k : Nat) : Int := (List.range k).foldl (ends1 l b s n x) o
theorem endF_next (l : List N23) (b s : Nat → Int) (n : Nat) (x o : Int) (k : Nat) : endF l b s n x o (k + 1) = ends1 l b s n x (endF l b s n x o k) k := by
  unfold endF
  rw [List.range_succ, List.foldl_append]
  rfl
theorem pl_hi {l : List N23} {b : Nat → Int} (hb : ∀ k, -32768 ≤ b k ∧ b k ≤ 32767) {n : Nat} : ∀ k, rch l n k = true → -(40000 * (k : Int)) ≤ pl l b n k ∧ pl l b n k ≤ 40000 * (k : Int) := by
  intro k
  induction k using Nat.strongRecOn with
  | _ k ih =>
    intro hr
    have hk := rch_kpos hr
    have hlt := rch_lt hr
    have hp := pa23_lt l hk
    have := hb k
    rw [pl_up l b hk (by omega)]
    by_cases c : pa23 l k = n
    · rw [c, pl_self]; omega
    · have := ih _ hp (rch_up hr c).2.2.2
      omega
set_option maxRecDepth 100000 in
set_option maxHeartbeats 4000000 in
theorem rmost_any (gL gl N cL cl n : Nat) (p r : Int) (l : List N23) (g : Nat → Nat × Nat) (w : World) (hn : n < N) (ht : there23 l n = true) (hx : tx23 l n = false) (h : Rd23 w l N gL gl g) :
    Calls Try.prog 14 #[.agg #[.slice (some ⟨gL, 0, none⟩) N cL, .int .i64 p, .int .i64 r], .slice (some ⟨gl, 0, none⟩) N cl, .int .i64 n] w fun e w' => e = .returned (.agg #[.int .i64 (mostX l N n), .int .i64 (mostY l N n)]) ∧ Below w.heap.size w w' := by
  have hN := h.hn
  have HW := Lib.hid h
  have hok := h.ok n
  have ow := hok.w; have oh := hok.h; have ox := hok.x; have oy := hok.y
  have obw := bw23_hi h.ok n
  have HE : Hid (mostX l N n = endF l (bX l) (sX l) n (0 - bw23 l n) (nd23 l n).w N - (nd23 l n).w ∧ mostY l N n = endF l (bY l) (sY l) n (0 - bw23 l n) (nd23 l n).h N - (nd23 l n).h) := Lib.hid ⟨by
    unfold mostX most1 endF
    rw [reach_ends l N (bX l) (sX l) (N + 1) n (0 - bw23 l n) (nd23 l n).w (by omega) (by omega)], by
    unfold mostY most1 endF
    rw [reach_ends l N (bY l) (sY l) (N + 1) n (0 - bw23 l n) (nd23 l n).h (by omega) (by omega)]⟩
  have hbx := fun o v e => h.box n hn o v e
  rw [b22_box l n _ ht hx] at hbx
  obtain ⟨bw, hbw⟩ : ∃ v, bw23 l n = v := ⟨_, rfl⟩
  obtain ⟨ww, hww⟩ : ∃ v, (nd23 l n).w = v := ⟨_, rfl⟩
  obtain ⟨hh, hhh⟩ : ∃ v, (nd23 l n).h = v := ⟨_, rfl⟩
  obtain ⟨kx, hkx⟩ : ∃ v, (nd23 l n).x = v := ⟨_, rfl⟩
  obtain ⟨ky, hky⟩ : ∃ v, (nd23 l n).y = v := ⟨_, rfl⟩
  rw [hbw, hww, hhh, hkx, hky] at hbx
  rw [hbw, hww, hhh] at HE
  rw [hbw] at obw; rw [hww] at ow; rw [hhh] at oh
  clear h hok ox oy hbw hww hhh hkx hky ht hx
  have ci : (n : Int) < N := by omega
  have cn : (0 : Int) ≤ n := by omega
  have ol : Old w gl := HW.out.zl
  have ll := HW.out.zl
  go_enter Try.func14, Try.ntmps14
  go_upto_region 1 with fail
  refine name_w (f := Code.wp _ _ _ _) (fun X hX => ?_)
  have hXb : Below w.heap.size w X := by rw [hX]; (repeat' (first | (with_reducible exact Below.refl _ _) | (with_reducible assumption) | (with_reducible refine below_from_drew ?_) | (with_reducible refine Below.alloc ?_ ?_ _) | (with_reducible refine Below.drew ?_) | (with_reducible refine below_drewN ?_ _) | (with_reducible refine Below.setCell ?_ ?_ _) | (with_reducible refine below_via ?_ (by assumption) ?_) | (with_reducible refine below_ov ?_ ?_ _ _) | go_size))
  have hXs : X.heap.size = w.heap.size + 1 + 1 := by rw [hX]; simp
  have hX3 : Has X w.heap.size #[.slice (some ⟨gL, 0, none⟩) N cL, .int .i64 p, .int .i64 r] 29 := by rw [hX]; (repeat' (first | (with_reducible refine has_drew ?_) | (with_reducible refine has_drewN ?_) | (with_reducible refine has_new ?_; (first | (with_reducible rfl) | omega | (simp; done) | (simp; omega))) | (with_reducible refine has_ov_same ?_; (first | (with_reducible rfl) | omega | (simp; done) | (simp; omega))) | (with_reducible refine has_alloc ?_) | (with_reducible refine has_ov_other ?_ ?_; (focus (first | (with_reducible rfl) | omega | (simp; done) | (simp; omega)))) | (with_reducible assumption) | (with_reducible exact has_below hB (by assumption))))
  have hX6 : Has X (w.heap.size + 1) #[.int .i64 0, .int .i64 0] 39 := by rw [hX]; (repeat' (first | (with_reducible refine has_drew ?_) | (with_reducible refine has_drewN ?_) | (with_reducible refine has_new ?_; (first | (with_reducible rfl) | omega | (simp; done) | (simp; omega))) | (with_reducible refine has_ov_same ?_; (first | (with_reducible rfl) | omega | (simp; done) | (simp; omega))) | (with_reducible refine has_alloc ?_) | (with_reducible refine has_ov_other ?_ ?_; (focus (first | (with_reducible rfl) | omega | (simp; done) | (simp; omega)))) | (with_reducible assumption) | (with_reducible exact has_below hB (by assumption))))
  have hld := loadB_mid (W := X) (gl := gl) (o := n * 18) (cs := box18 true kx ky (ww + 2 * bw) (hh + 2 * bw) bw (.slice none 0 0)) rfl (fun j v e => (hXb.cell (p := ⟨gl, n * 18 + j, none⟩) ll).trans (hbx j v e))
  clear hX hbx
  go_upto_region 2 with fail
  refine name_w (f := Code.wp _ _ _ _) (fun Y hY => ?_)
  have hYX : Below X.heap.size X Y := by rw [hY]; (repeat' (first | (with_reducible exact Below.refl _ _) | (with_reducible assumption) | (with_reducible refine below_from_drew ?_) | (with_reducible refine Below.alloc ?_ ?_ _) | (with_reducible refine Below.drew ?_) | (with_reducible refine below_drewN ?_ _) | (with_reducible refine Below.setCell ?_ ?_ _) | (with_reducible refine below_via ?_ (by assumption) ?_) | (with_reducible refine below_ov ?_ ?_ _ _) | go_size))
  have hY7 : Has Y (w.heap.size + 1 + 1) (box18 true kx ky (ww + 2 * bw) (hh + 2 * bw) bw (.slice none 0 0)).toArray 44 := by rw [hY]; exact has_new hXs.symm
  have hYs : Y.heap.size = w.heap.size + 1 + 1 + 1 := by rw [hY]; simp [hXs]
  have hY3 := has_below hYX hX3
  have hY6 := has_below hYX hX6
  have hYb := hXb.trans (hYX.mono hXb.size)
  have c7 := hY7.cells; have l7 := hY7.lt; have o7 : Old Y (w.heap.size + 1 + 1) := l7
  unfold box18 at c7
  clear hY hld hX3 hX6 hXs hXb hYX
  go_upto_region 4 with fail
  rw [show ww + 2 * bw - bw - bw = ww by omega, show hh + 2 * bw - bw - bw = hh by omega]
  refine name_w (f := Code.wp _ _ _ _) (fun Z hZ => ?_)
  have hZY : Below Y.heap.size Y Z := by rw [hZ]; (repeat' (first | (with_reducible exact Below.refl _ _) | (with_reducible assumption) | (with_reducible refine below_from_drew ?_) | (with_reducible refine Below.alloc ?_ ?_ _) | (with_reducible refine Below.drew ?_) | (with_reducible refine below_drewN ?_ _) | (with_reducible refine Below.setCell ?_ ?_ _) | (with_reducible refine below_via ?_ (by assumption) ?_) | (with_reducible refine below_ov ?_ ?_ _ _) | go_size))
  have hZ8 : Has Z (w.heap.size + 1 + 1 + 1) #[.int .i64 ww, .int .i64 hh] 39 := by rw [hZ]; exact has_alloc (has_new hYs.symm)
  have hZ9 : Has Z (w.heap.size + 1 + 1 + 1 + 1) #[.int .i64 ww, .int .i64 hh] 39 := by rw [hZ]; exact has_new (by simp [hYs])
  have HZ3 := Lib.hid (has_below hZY hY3); have HZ6 := Lib.hid (has_below hZY hY6); have HZ7 := Lib.hid (has_below hZY hY7); have HZ8 := Lib.hid hZ8; have HZ9 := Lib.hid hZ9
  have HZB := Lib.hid (hYb.trans (hZY.mono hYb.size))
  clear hZ hZ8 hZ9 hY3 hY6 hY7 hYb hYs hZY c7 l7 o7 ol ll
  have HF := Lib.hid (show ∀ k, k < N → rch l n k = true → there23 l k = true → -700000 ≤ pl l (bX l) n k - bw ∧ pl l (bX l) n k - bw ≤ 700000 ∧ -700000 ≤ pl l (bY l) n k - bw ∧ pl l (bY l) n k - bw ≤ 700000 from fun k hk hr _ => by
    have h1 := pl_hi (bX_hi HW.out.ok) k hr
    have h2 := pl_hi (bY_hi HW.out.ok) k hr
    omega)
  go_wp2_with fail
  go_loopw [10] (fun t wr => ∃ k : Nat, t = .int .i64 k ∧ k ≤ N ∧ Has wr w.heap.size #[.slice (some ⟨gL, 0, none⟩) N cL, .int .i64 p, .int .i64 r] 29 ∧ Has wr (w.heap.size + 1) #[.int .i64 0, .int .i64 0] 39 ∧ Has wr (w.heap.size + 1 + 1) (box18 true kx ky (ww + 2 * bw) (hh + 2 * bw) bw (.slice none 0 0)).toArray 44 ∧ Has wr (w.heap.size + 1 + 1 + 1) #[.int .i64 ww, .int .i64 hh] 39 ∧
    Has wr (w.heap.size + 1 + 1 + 1 + 1) #[.int .i64 (endF l (bX l) (sX l) n (0 - bw) ww k), .int .i64 (endF l (bY l) (sY l) n (0 - bw) hh k)] 39 ∧ (0 ≤ endF l (bX l) (sX l) n (0 - bw) ww k ∧ endF l (bX l) (sX l) n (0 - bw) ww k ≤ 4000000 ∧ 0 ≤ endF l (bY l) (sY l) n (0 - bw) hh k ∧ endF l (bY l) (sY l) n (0 - bw) hh k ≤ 4000000) ∧ Below w.heap.size w wr) (fun t _ => N - (intOf t).toNat)
  case atStart => exact ⟨0, rfl, Nat.zero_le _, HZ3.out, HZ6.out, HZ7.out, HZ8.out, HZ9.out, ⟨by show 0 ≤ ww; omega, by show ww ≤ _; omega, by show 0 ≤ hh; omega, by show hh ≤ _; omega⟩, HZB.out⟩
  case round =>
    obtain ⟨k, rfl, hk, h3, h6, h7, h8, h9, hbd, hbr⟩ := hrel
    clear HZ3 HZ6 HZ7 HZ8 HZ9 HZB
    by_cases c : k < N
    · have ck : (k : Int) < (N : Int) := by omega
      have ck0 : (0 : Int) ≤ k := by omega
      have HSX := Lib.hid (And.intro (endF_next l (bX l) (sX l) n (0 - bw) ww k) (endF_next l (bY l) (sY l) n (0 - bw) hh k))
      obtain ⟨oX, hoX⟩ : ∃ o, endF l (bX l) (sX l) n (0 - bw) ww k = o := ⟨_, rfl⟩
      obtain ⟨oY, hoY⟩ : ∃ o, endF l (bY l) (sY l) n (0 - bw) hh k = o := ⟨_, rfl⟩
      rw [hoX, hoY] at HSX h9 hbd
      have hRd := HW.out.below hbr
      have ol : Old wr gl := hRd.zl
      have ll := hRd.zl
      have h0 := hRd.box k c 0 _ (b22V_there23 l k (g k).2)
      rw [Nat.add_zero] at h0
      have e3 := h3.cells; have l3 := h3.lt; have o3 : Old wr w.heap.size := l3
      have HRC := Lib.hid (fun V (hV : Below wr.heap.size wr V) => rreaches_any gL gl N cL n k p r l g V hn c ((HW.out.below hbr).below hV))
      have H3 := Lib.hid h3; have H6 := Lib.hid h6; have H7 := Lib.hid h7; have H8 := Lib.hid h8; have H9 := Lib.hid h9; have HB := Lib.hid hbr; have HBD := Lib.hid hbd
      clear h3 h6 h7 h8 h9 hbr hbd hRd hoX hoY
      rcases ht : there23 l k with _ | _
      · rw [ht] at h0
        have HN : Hid (ends1 l (bX l) (sX l) n (0 - bw) oX k = oX ∧ ends1 l (bY l) (sY l) n (0 - bw) oY k = oY) := Lib.hid ⟨by unfold ends1; rw [ht]; rfl, by unfold ends1; rw [ht]; rfl⟩
        clear HRC
        go_wp2_with fail
        refine ⟨⟨k + 1, by push_cast; rfl, by omega, H3.out, H6.out, H7.out, H8.out, ?_, ?_, HB.out⟩, by simp only [intOf]; omega⟩
        · rw [HSX.out.1, HSX.out.2, HN.out.1, HN.out.2]; exact H9.out
        · rw [HSX.out.1, HSX.out.2, HN.out.1, HN.out.2]; exact HBD.out
      · rw [ht] at h0
        go_upto_if 59 with ((go_at_call 38; (with_reducible refine (HRC.out _ (by (repeat' (first | (with_reducible exact Below.refl _ _) | (with_reducible assumption) | (with_reducible refine below_from_drew ?_) | (with_reducible refine Below.alloc ?_ ?_ _) | (with_reducible refine Below.drew ?_) | (with_reducible refine below_drewN ?_ _) | (with_reducible refine Below.setCell ?_ ?_ _) | (with_reducible refine below_via ?_ (by assumption) ?_) | (with_reducible refine below_ov ?_ ?_ _ _) | go_size)))).mono ?_); rintro e v ⟨rfl, hb⟩; have hz := hb.size; refine (fun hB => ?_ : Below wr.heap.size wr v → _) ?_; rotate_left; (focus ((repeat' (first | (with_reducible exact Below.refl _ _) | (with_reducible assumption) | (with_reducible refine below_from_drew ?_) | (with_reducible refine Below.alloc ?_ ?_ _) | (with_reducible refine Below.drew ?_) | (with_reducible refine below_drewN ?_ _) | (with_reducible refine Below.setCell ?_ ?_ _) | (with_reducible refine below_via ?_ (by assumption) ?_) | (with_reducible refine below_ov ?_ ?_ _ _) | go_size)); done)); (try simp only [World.size_alloc, World.size_setCell, World.size_drew, ov_size] at hz)))
        have K3 := Lib.hid (has_below hB H3.out); have K6 := Lib.hid (has_below hB H6.out); have K7 := Lib.hid (has_below hB H7.out); have K8 := Lib.hid (has_below hB H8.out); have K9 := Lib.hid (has_below hB H9.out); have KB := Lib.hid (HB.out.trans (hB.mono HB.out.size))
        clear hB hb hz h0 e3 l3 o3 ol ll H3 H6 H7 H8 H9 HB HRC
        rcases hr : rch l n k with _ | _
        · have HN : Hid (ends1 l (bX l) (sX l) n (0 - bw) oX k = oX ∧ ends1 l (bY l) (sY l) n (0 - bw) oY k = oY) := Lib.hid ⟨by unfold ends1; rw [ht, hr]; rfl, by unfold ends1; rw [ht, hr]; rfl⟩
          go_wp2_with fail
          refine ⟨⟨k + 1, by push_cast; rfl, by omega, K3.out, K6.out, K7.out, K8.out, ?_, ?_, KB.out⟩, by simp only [intOf]; omega⟩
          · rw [HSX.out.1, HSX.out.2, HN.out.1, HN.out.2]; exact K9.out
          · rw [HSX.out.1, HSX.out.2, HN.out.1, HN.out.2]; exact HBD.out
        · have HN : Hid (ends1 l (bX l) (sX l) n (0 - bw) oX k = max oX (pl l (bX l) n k - bw + sX l k) ∧ ends1 l (bY l) (sY l) n (0 - bw) oY k = max oY (pl l (bY l) n k - bw + sY l k)) := Lib.hid ⟨by unfold ends1; rw [ht, hr]; show max oX _ = _; congr 1; omega, by unfold ends1; rw [ht, hr]; show max oY _ = _; congr 1; omega⟩
          have e3 := K3.out.cells; have l3 := K3.out.lt; have o3 : Old v w.heap.size := l3
          have HPC := Lib.hid (fun V (hV : Below v.heap.size v V) => rplace_any gL gl N cL cl n k p r l g V c hr ht ((HW.out.below KB.out).below hV))
          go_upto_region 9 with ((go_at_call 39; (with_reducible refine (HPC.out _ (by (repeat' (first | (with_reducible exact Below.refl _ _) | (with_reducible assumption) | (with_reducible refine below_from_drew ?_) | (with_reducible refine Below.alloc ?_ ?_ _) | (with_reducible refine Below.drew ?_) | (with_reducible refine below_drewN ?_ _) | (with_reducible refine Below.setCell ?_ ?_ _) | (with_reducible refine below_via ?_ (by assumption) ?_) | (with_reducible refine below_ov ?_ ?_ _ _) | go_size)))).mono ?_); rintro e v2 ⟨rfl, hb⟩; have hz := hb.size; refine (fun hB => ?_ : Below v.heap.size v v2 → _) ?_; rotate_left; (focus ((repeat' (first | (with_reducible exact Below.refl _ _) | (with_reducible assumption) | (with_reducible refine below_from_drew ?_) | (with_reducible refine Below.alloc ?_ ?_ _) | (with_reducible refine Below.drew ?_) | (with_reducible refine below_drewN ?_ _) | (with_reducible refine Below.setCell ?_ ?_ _) | (with_reducible refine below_via ?_ (by assumption) ?_) | (with_reducible refine below_ov ?_ ?_ _ _) | go_size)); done)); (try simp only [World.size_alloc, World.size_setCell, World.size_drew, ov_size] at hz)))
          have M3 := Lib.hid (has_below hB K3.out); have M6 := Lib.hid (has_below hB K6.out); have M7 := Lib.hid (has_below hB K7.out); have M8 := Lib.hid (has_below hB K8.out); have M9 := Lib.hid (has_below hB K9.out); have MB := Lib.hid (KB.out.trans (hB.mono KB.out.size))
          have hfb := HF.out k c hr ht
          obtain ⟨px, hpx⟩ : ∃ v, pl l (bX l) n k = v := ⟨_, rfl⟩
          obtain ⟨py, hpy⟩ : ∃ v, pl l (bY l) n k = v := ⟨_, rfl⟩
          rw [hpx, hpy] at hfb HN ⊢
          clear hB hb hz K3 K6 K7 K8 K9 KB e3 l3 o3 HPC hpx hpy v
          have c7 := M7.out.cells; have l7 := M7.out.lt; have o7 : Old v2 (w.heap.size + 1 + 1) := l7
          unfold box18 at c7
          have hp1 : -800000 ≤ px ∧ px ≤ 800000 := by omega
          have hp2 : -800000 ≤ py ∧ py ≤ 800000 := by omega
          refine region_ord [(0, 0), (1, 0), (2, 0), (3, 0), (4, 0), (5, 0), (6, 0), (7, 0), (8, 0), (9, 0), (10, 0), (11, 0)] (by kernel_rfl) (by kernel_rfl) (fun _ _ d _ _ h => by cases d <;> exact h) (fun hS => ?_)
          (refine wpG_read (v := ?_) rfl (.inl ⟨by rfl, fun wx hbx => ?_⟩) ?_; rotate_left; (focus (obtain ⟨cx0, fx0, zx0⟩ := bk hbx (w.heap.size + 1 + 1) (by first | omega | (simp; done) | (simp; omega)); have bx0 := bkB hbx (w.heap.size + 1 + 1) (by first | omega | (simp; done) | (simp; omega)); go_simp; (try go_bits); (try with_reducible rfl))); try simp only [Act.put, List.setIfInBounds_toArray, List.set_cons_zero, List.set_cons_succ])
          (refine wpG_read (v := ?_) rfl (.inl ⟨by rfl, fun wx hbx => ?_⟩) ?_; rotate_left; (focus (obtain ⟨cx0, fx0, zx0⟩ := bk hbx (w.heap.size + 1 + 1) (by first | omega | (simp; done) | (simp; omega)); have bx0 := bkB hbx (w.heap.size + 1 + 1) (by first | omega | (simp; done) | (simp; omega)); go_simp; (try go_bits); (try with_reducible rfl))); try simp only [Act.put, List.setIfInBounds_toArray, List.set_cons_zero, List.set_cons_succ])
          (refine wpG_read (v := ?_) rfl (.inl ⟨by rfl, fun wx hbx => ?_⟩) ?_; rotate_left; (focus (obtain ⟨cx0, fx0, zx0⟩ := bk hbx (w.heap.size + 1 + 1) (by first | omega | (simp; done) | (simp; omega)); have bx0 := bkB hbx (w.heap.size + 1 + 1) (by first | omega | (simp; done) | (simp; omega)); go_simp; (try go_bits); (try with_reducible rfl))); try simp only [Act.put, List.setIfInBounds_toArray, List.set_cons_zero, List.set_cons_succ])
          (refine wpG_read (v := ?_) rfl (.inl ⟨by rfl, fun wx hbx => ?_⟩) ?_; rotate_left; (focus (obtain ⟨cx0, fx0, zx0⟩ := bk hbx (w.heap.size + 1 + 1) (by first | omega | (simp; done) | (simp; omega)); have bx0 := bkB hbx (w.heap.size + 1 + 1) (by first | omega | (simp; done) | (simp; omega)); go_simp; (try go_bits); (try with_reducible rfl))); try simp only [Act.put, List.setIfInBounds_toArray, List.set_cons_zero, List.set_cons_succ])
          (refine wpG_read (v := ?_) rfl (.inl ⟨by rfl, fun wx hbx => ?_⟩) ?_; rotate_left; (focus (obtain ⟨cx0, fx0, zx0⟩ := bk hbx (w.heap.size + 1 + 1) (by first | omega | (simp; done) | (simp; omega)); have bx0 := bkB hbx (w.heap.size + 1 + 1) (by first | omega | (simp; done) | (simp; omega)); go_simp; (try go_bits); (try with_reducible rfl))); try simp only [Act.put, List.setIfInBounds_toArray, List.set_cons_zero, List.set_cons_succ])
          (refine wpG_read (v := ?_) rfl (.inl ⟨by rfl, fun wx hbx => ?_⟩) ?_; rotate_left; (focus (obtain ⟨cx0, fx0, zx0⟩ := bk hbx (w.heap.size + 1 + 1) (by first | omega | (simp; done) | (simp; omega)); have bx0 := bkB hbx (w.heap.size + 1 + 1) (by first | omega | (simp; done) | (simp; omega)); go_simp; (try go_bits); (try with_reducible rfl))); try simp only [Act.put, List.setIfInBounds_toArray, List.set_cons_zero, List.set_cons_succ])
          (refine wpG_read (v := ?_) rfl (.inl ⟨by rfl, fun wx hbx => ?_⟩) ?_; rotate_left; (focus (obtain ⟨cx0, fx0, zx0⟩ := bk hbx (w.heap.size + 1 + 1) (by first | omega | (simp; done) | (simp; omega)); have bx0 := bkB hbx (w.heap.size + 1 + 1) (by first | omega | (simp; done) | (simp; omega)); go_simp; (try go_bits); (try with_reducible rfl))); try simp only [Act.put, List.setIfInBounds_toArray, List.set_cons_zero, List.set_cons_succ])
          (refine wpG_read (v := ?_) rfl (.inl ⟨by rfl, fun wx hbx => ?_⟩) ?_; rotate_left; (focus (obtain ⟨cx0, fx0, zx0⟩ := bk hbx (w.heap.size + 1 + 1) (by first | omega | (simp; done) | (simp; omega)); have bx0 := bkB hbx (w.heap.size + 1 + 1) (by first | omega | (simp; done) | (simp; omega)); go_simp; (try go_bits); (try with_reducible rfl))); try simp only [Act.put, List.setIfInBounds_toArray, List.set_cons_zero, List.set_cons_succ])
          (refine wpG_read (v := ?_) rfl (.inl ⟨by rfl, fun wx hbx => ?_⟩) ?_; rotate_left; (focus (obtain ⟨cx0, fx0, zx0⟩ := bk hbx (w.heap.size + 1 + 1) (by first | omega | (simp; done) | (simp; omega)); have bx0 := bkB hbx (w.heap.size + 1 + 1) (by first | omega | (simp; done) | (simp; omega)); go_simp; (try go_bits); (try with_reducible rfl))); try simp only [Act.put, List.setIfInBounds_toArray, List.set_cons_zero, List.set_cons_succ])
          (refine wpG_read (v := ?_) rfl (.inl ⟨by rfl, fun wx hbx => ?_⟩) ?_; rotate_left; (focus (obtain ⟨cx0, fx0, zx0⟩ := bk hbx (w.heap.size + 1 + 1) (by first | omega | (simp; done) | (simp; omega)); have bx0 := bkB hbx (w.heap.size + 1 + 1) (by first | omega | (simp; done) | (simp; omega)); go_simp; (try go_bits); (try with_reducible rfl))); try simp only [Act.put, List.setIfInBounds_toArray, List.set_cons_zero, List.set_cons_succ])
          (refine wpG_read (v := ?_) rfl (.inl ⟨by rfl, fun wx hbx => ?_⟩) ?_; rotate_left; (focus (obtain ⟨cx0, fx0, zx0⟩ := bk hbx (w.heap.size + 1 + 1) (by first | omega | (simp; done) | (simp; omega)); have bx0 := bkB hbx (w.heap.size + 1 + 1) (by first | omega | (simp; done) | (simp; omega)); go_simp; (try go_bits); (try with_reducible rfl))); try simp only [Act.put, List.setIfInBounds_toArray, List.set_cons_zero, List.set_cons_succ])
          (refine wpG_read (v := ?_) rfl (.inl ⟨by rfl, fun wx hbx => ?_⟩) ?_; rotate_left; (focus (obtain ⟨cx0, fx0, zx0⟩ := bk hbx (w.heap.size + 1 + 1) (by first | omega | (simp; done) | (simp; omega)); have bx0 := bkB hbx (w.heap.size + 1 + 1) (by first | omega | (simp; done) | (simp; omega)); go_simp; (try go_bits); (try with_reducible rfl))); try simp only [Act.put, List.setIfInBounds_toArray, List.set_cons_zero, List.set_cons_succ])
          refine wpG_nil ?_
          clear hS c7 l7 o7
          have hd2 : Below v2.heap.size v2 v2.drew := (Below.refl _ _).drew
          refine name_w (f := Exit.then _ _ Exit.normal _) (fun V hV => ?_)
          rw [← hV] at hd2
          have N3 := Lib.hid (has_below hd2 M3.out); have N6 := Lib.hid (has_below hd2 M6.out); have N7 := Lib.hid (has_below hd2 M7.out); have N8 := Lib.hid (has_below hd2 M8.out); have N9 := Lib.hid (has_below hd2 M9.out); have NB := Lib.hid (MB.out.trans (hd2.mono MB.out.size))
          clear hV hd2 M3 M6 M7 M8 M9 MB v2
          have hRd := HW.out.below NB.out
          have hL := HW.out.zL
          have hl := HW.out.zl
          have k61 := hRd.tx k c
          have oL : Old V gL := hRd.zL
          have ol : Old V gl := hRd.zl
          have ll : gl < V.heap.size := hRd.zl
          have e3 := N3.out.cells; have l3 := N3.out.lt; have o3 : Old V w.heap.size := l3
          have ngl : ¬ gl = w.heap.size + 1 + 1 + 1 + 1 := by omega
          have hokk := HW.out.ok k
          have x1 := hokk.x; have x2 := hokk.y; have x3 := hokk.w; have x4 := hokk.h
          have obk := bw23_hi HW.out.ok k
          clear hokk
          rcases hx : tx23 l k with _ | _
          · rw [hx] at k61
            have hbx := hRd.box k c
            rw [b22_box l k _ ht hx] at hbx
            have hsx : sX l k = (nd23 l k).w + 2 * bw23 l k ∧ sY l k = (nd23 l k).h + 2 * bw23 l k := by unfold sX sY; rw [hx]; exact ⟨rfl, rfl⟩
            have k3 := hbx 3 _ rfl
            have k4 := hbx 4 _ rfl
            have HBX := Lib.hid (fun (Y : World) (hY : Below w.heap.size w Y) => ((HW.out.below hY).box k c 17 _ (by rw [b22_box l k _ ht hx]; rfl) : Y.cell? ⟨gl, k * 18 + 17, none⟩ = some (.slice none 0 0)))
            rw [← hsx.1] at k3
            rw [← hsx.2] at k4
            have hs1 : 0 ≤ sX l k ∧ sX l k ≤ 200000 := by omega
            have hs2 : 0 ≤ sY l k ∧ sY l k ≤ 200000 := by omega
            obtain ⟨sx, hsx1⟩ : ∃ v, sX l k = v := ⟨_, rfl⟩
            obtain ⟨sy, hsy1⟩ : ∃ v, sY l k = v := ⟨_, rfl⟩
            rw [hsx1] at k3 hs1 HN
            rw [hsy1] at k4 hs2 HN
            clear hbx hsx hsx1 hsy1 x1 x2 x3 x4 obk hRd
            go_upto_region 11 with fail
            have l9 := N9.out.lt
            rw [← ov_self N9.out]
            refine region_ord [(0, 0), (1, 0), (2, 0), (3, 0), (4, 0), (5, 0), (6, 0), (7, 0), (8, 0), (9, 0), (10, 0), (11, 0), (12, 0), (13, 0), (14, 0), (15, 0), (16, 0), (17, 0), (18, 0), (19, 0), (20, 0), (21, 2)] (by kernel_rfl) (by kernel_rfl) (fun _ _ d _ _ h => by cases d <;> exact h) (fun hS => ?_)
            (refine wpG_read (v := ?_) rfl (.inl ⟨by rfl, fun wx hbx => ?_⟩) ?_; rotate_left; (focus (obtain ⟨cx0, fx0, zx0⟩ := bk hbx (w.heap.size + 1 + 1 + 1 + 1) (by first | omega | (simp; done) | (simp; omega)); have bx0 := bkB hbx (w.heap.size + 1 + 1 + 1 + 1) (by first | omega | (simp; done) | (simp; omega)); obtain ⟨cx1, fx1, zx1⟩ := bk hbx (gl) (by first | omega | (simp; done) | (simp; omega)); have bx1 := bkB hbx (gl) (by first | omega | (simp; done) | (simp; omega)); go_simp; (try go_bits); (try with_reducible rfl))); try simp only [Act.put, List.setIfInBounds_toArray, List.set_cons_zero, List.set_cons_succ])
            (refine wpG_read (v := ?_) rfl (.inl ⟨by rfl, fun wx hbx => ?_⟩) ?_; rotate_left; (focus (obtain ⟨cx0, fx0, zx0⟩ := bk hbx (w.heap.size + 1 + 1 + 1 + 1) (by first | omega | (simp; done) | (simp; omega)); have bx0 := bkB hbx (w.heap.size + 1 + 1 + 1 + 1) (by first | omega | (simp; done) | (simp; omega)); obtain ⟨cx1, fx1, zx1⟩ := bk hbx (gl) (by first | omega | (simp; done) | (simp; omega)); have bx1 := bkB hbx (gl) (by first | omega | (simp; done) | (simp; omega)); go_simp; (try go_bits); (try with_reducible rfl))); try simp only [Act.put, List.setIfInBounds_toArray, List.set_cons_zero, List.set_cons_succ])
            (refine wpG_read (v := ?_) rfl (.inl ⟨by rfl, fun wx hbx => ?_⟩) ?_; rotate_left; (focus (obtain ⟨cx0, fx0, zx0⟩ := bk hbx (w.heap.size + 1 + 1 + 1 + 1) (by first | omega | (simp; done) | (simp; omega)); have bx0 := bkB hbx (w.heap.size + 1 + 1 + 1 + 1) (by first | omega | (simp; done) | (simp; omega)); obtain ⟨cx1, fx1, zx1⟩ := bk hbx (gl) (by first | omega | (simp; done) | (simp; omega)); have bx1 := bkB hbx (gl) (by first | omega | (simp; done) | (simp; omega)); go_simp; (try go_bits); (try with_reducible rfl))); try simp only [Act.put, List.setIfInBounds_toArray, List.set_cons_zero, List.set_cons_succ])
            (refine wpG_read (v := ?_) rfl (.inl ⟨by rfl, fun wx hbx => ?_⟩) ?_; rotate_left; (focus (obtain ⟨cx0, fx0, zx0⟩ := bk hbx (w.heap.size + 1 + 1 + 1 + 1) (by first | omega | (simp; done) | (simp; omega)); have bx0 := bkB hbx (w.heap.size + 1 + 1 + 1 + 1) (by first | omega | (simp; done) | (simp; omega)); obtain ⟨cx1, fx1, zx1⟩ := bk hbx (gl) (by first | omega | (simp; done) | (simp; omega)); have bx1 := bkB hbx (gl) (by first | omega | (simp; done) | (simp; omega)); go_simp; (try go_bits); (try with_reducible rfl))); try simp only [Act.put, List.setIfInBounds_toArray, List.set_cons_zero, List.set_cons_succ])
            (refine wpG_read (v := ?_) rfl (.inl ⟨by rfl, fun wx hbx => ?_⟩) ?_; rotate_left; (focus (obtain ⟨cx0, fx0, zx0⟩ := bk hbx (w.heap.size + 1 + 1 + 1 + 1) (by first | omega | (simp; done) | (simp; omega)); have bx0 := bkB hbx (w.heap.size + 1 + 1 + 1 + 1) (by first | omega | (simp; done) | (simp; omega)); obtain ⟨cx1, fx1, zx1⟩ := bk hbx (gl) (by first | omega | (simp; done) | (simp; omega)); have bx1 := bkB hbx (gl) (by first | omega | (simp; done) | (simp; omega)); go_simp; (try go_bits); (try with_reducible rfl))); try simp only [Act.put, List.setIfInBounds_toArray, List.set_cons_zero, List.set_cons_succ])
            (refine wpG_read (v := ?_) rfl (.inl ⟨by rfl, fun wx hbx => ?_⟩) ?_; rotate_left; (focus (obtain ⟨cx0, fx0, zx0⟩ := bk hbx (w.heap.size + 1 + 1 + 1 + 1) (by first | omega | (simp; done) | (simp; omega)); have bx0 := bkB hbx (w.heap.size + 1 + 1 + 1 + 1) (by first | omega | (simp; done) | (simp; omega)); obtain ⟨cx1, fx1, zx1⟩ := bk hbx (gl) (by first | omega | (simp; done) | (simp; omega)); have bx1 := bkB hbx (gl) (by first | omega | (simp; done) | (simp; omega)); go_simp; (try go_bits); (try with_reducible rfl))); try simp only [Act.put, List.setIfInBounds_toArray, List.set_cons_zero, List.set_cons_succ])
            (refine wpG_read (v := ?_) rfl (.inl ⟨by rfl, fun wx hbx => ?_⟩) ?_; rotate_left; (focus (obtain ⟨cx0, fx0, zx0⟩ := bk hbx (w.heap.size + 1 + 1 + 1 + 1) (by first | omega | (simp; done) | (simp; omega)); have bx0 := bkB hbx (w.heap.size + 1 + 1 + 1 + 1) (by first | omega | (simp; done) | (simp; omega)); obtain ⟨cx1, fx1, zx1⟩ := bk hbx (gl) (by first | omega | (simp; done) | (simp; omega)); have bx1 := bkB hbx (gl) (by first | omega | (simp; done) | (simp; omega)); go_simp; (try go_bits); (try with_reducible rfl))); try simp only [Act.put, List.setIfInBounds_toArray, List.set_cons_zero, List.set_cons_succ])
            (refine wpG_read (v := ?_) rfl (.inl ⟨by rfl, fun wx hbx => ?_⟩) ?_; rotate_left; (focus (obtain ⟨cx0, fx0, zx0⟩ := bk hbx (w.heap.size + 1 + 1 + 1 + 1) (by first | omega | (simp; done) | (simp; omega)); have bx0 := bkB hbx (w.heap.size + 1 + 1 + 1 + 1) (by first | omega | (simp; done) | (simp; omega)); obtain ⟨cx1, fx1, zx1⟩ := bk hbx (gl) (by first | omega | (simp; done) | (simp; omega)); have bx1 := bkB hbx (gl) (by first | omega | (simp; done) | (simp; omega)); go_simp; (try go_bits); (try with_reducible rfl))); try simp only [Act.put, List.setIfInBounds_toArray, List.set_cons_zero, List.set_cons_succ])
            (refine wpG_read (v := ?_) rfl (.inl ⟨by rfl, fun wx hbx => ?_⟩) ?_; rotate_left; (focus (obtain ⟨cx0, fx0, zx0⟩ := bk hbx (w.heap.size + 1 + 1 + 1 + 1) (by first | omega | (simp; done) | (simp; omega)); have bx0 := bkB hbx (w.heap.size + 1 + 1 + 1 + 1) (by first | omega | (simp; done) | (simp; omega)); obtain ⟨cx1, fx1, zx1⟩ := bk hbx (gl) (by first | omega | (simp; done) | (simp; omega)); have bx1 := bkB hbx (gl) (by first | omega | (simp; done) | (simp; omega)); go_simp; (try go_bits); (try with_reducible rfl))); try simp only [Act.put, List.setIfInBounds_toArray, List.set_cons_zero, List.set_cons_succ])
            (refine wpG_read (v := ?_) rfl (.inl ⟨by rfl, fun wx hbx => ?_⟩) ?_; rotate_left; (focus (obtain ⟨cx0, fx0, zx0⟩ := bk hbx (w.heap.size + 1 + 1 + 1 + 1) (by first | omega | (simp; done) | (simp; omega)); have bx0 := bkB hbx (w.heap.size + 1 + 1 + 1 + 1) (by first | omega | (simp; done) | (simp; omega)); obtain ⟨cx1, fx1, zx1⟩ := bk hbx (gl) (by first | omega | (simp; done) | (simp; omega)); have bx1 := bkB hbx (gl) (by first | omega | (simp; done) | (simp; omega)); go_simp; (try go_bits); (try with_reducible rfl))); try simp only [Act.put, List.setIfInBounds_toArray, List.set_cons_zero, List.set_cons_succ])
            (refine wpG_read (v := ?_) rfl (.inl ⟨by rfl, fun wx hbx => ?_⟩) ?_; rotate_left; (focus (obtain ⟨cx0, fx0, zx0⟩ := bk hbx (w.heap.size + 1 + 1 + 1 + 1) (by first | omega | (simp; done) | (simp; omega)); have bx0 := bkB hbx (w.heap.size + 1 + 1 + 1 + 1) (by first | omega | (simp; done) | (simp; omega)); obtain ⟨cx1, fx1, zx1⟩ := bk hbx (gl) (by first | omega | (simp; done) | (simp; omega)); have bx1 := bkB hbx (gl) (by first | omega | (simp; done) | (simp; omega)); go_simp; (try go_bits); (try with_reducible rfl))); try simp only [Act.put, List.setIfInBounds_toArray, List.set_cons_zero, List.set_cons_succ])
            (refine wpG_read (v := ?_) rfl (.inl ⟨by rfl, fun wx hbx => ?_⟩) ?_; rotate_left; (focus (obtain ⟨cx0, fx0, zx0⟩ := bk hbx (w.heap.size + 1 + 1 + 1 + 1) (by first | omega | (simp; done) | (simp; omega)); have bx0 := bkB hbx (w.heap.size + 1 + 1 + 1 + 1) (by first | omega | (simp; done) | (simp; omega)); obtain ⟨cx1, fx1, zx1⟩ := bk hbx (gl) (by first | omega | (simp; done) | (simp; omega)); have bx1 := bkB hbx (gl) (by first | omega | (simp; done) | (simp; omega)); go_simp; (try go_bits); (try with_reducible rfl))); try simp only [Act.put, List.setIfInBounds_toArray, List.set_cons_zero, List.set_cons_succ])
            (refine wpG_read (v := ?_) rfl (.inl ⟨by rfl, fun wx hbx => ?_⟩) ?_; rotate_left; (focus (obtain ⟨cx0, fx0, zx0⟩ := bk hbx (w.heap.size + 1 + 1 + 1 + 1) (by first | omega | (simp; done) | (simp; omega)); have bx0 := bkB hbx (w.heap.size + 1 + 1 + 1 + 1) (by first | omega | (simp; done) | (simp; omega)); obtain ⟨cx1, fx1, zx1⟩ := bk hbx (gl) (by first | omega | (simp; done) | (simp; omega)); have bx1 := bkB hbx (gl) (by first | omega | (simp; done) | (simp; omega)); go_simp; (try go_bits); (try with_reducible rfl))); try simp only [Act.put, List.setIfInBounds_toArray, List.set_cons_zero, List.set_cons_succ])
            (refine wpG_read (v := ?_) rfl (.inl ⟨by rfl, fun wx hbx => ?_⟩) ?_; rotate_left; (focus (obtain ⟨cx0, fx0, zx0⟩ := bk hbx (w.heap.size + 1 + 1 + 1 + 1) (by first | omega | (simp; done) | (simp; omega)); have bx0 := bkB hbx (w.heap.size + 1 + 1 + 1 + 1) (by first | omega | (simp; done) | (simp; omega)); obtain ⟨cx1, fx1, zx1⟩ := bk hbx (gl) (by first | omega | (simp; done) | (simp; omega)); have bx1 := bkB hbx (gl) (by first | omega | (simp; done) | (simp; omega)); go_simp; (try go_bits); (try with_reducible rfl))); try simp only [Act.put, List.setIfInBounds_toArray, List.set_cons_zero, List.set_cons_succ])
            (refine wpG_read (v := ?_) rfl (.inl ⟨by rfl, fun wx hbx => ?_⟩) ?_; rotate_left; (focus (obtain ⟨cx0, fx0, zx0⟩ := bk hbx (w.heap.size + 1 + 1 + 1 + 1) (by first | omega | (simp; done) | (simp; omega)); have bx0 := bkB hbx (w.heap.size + 1 + 1 + 1 + 1) (by first | omega | (simp; done) | (simp; omega)); obtain ⟨cx1, fx1, zx1⟩ := bk hbx (gl) (by first | omega | (simp; done) | (simp; omega)); have bx1 := bkB hbx (gl) (by first | omega | (simp; done) | (simp; omega)); go_simp; (try go_bits); (try with_reducible rfl))); try simp only [Act.put, List.setIfInBounds_toArray, List.set_cons_zero, List.set_cons_succ])
            (refine wpG_read (v := ?_) rfl (.inl ⟨by rfl, fun wx hbx => ?_⟩) ?_; rotate_left; (focus (obtain ⟨cx0, fx0, zx0⟩ := bk hbx (w.heap.size + 1 + 1 + 1 + 1) (by first | omega | (simp; done) | (simp; omega)); have bx0 := bkB hbx (w.heap.size + 1 + 1 + 1 + 1) (by first | omega | (simp; done) | (simp; omega)); obtain ⟨cx1, fx1, zx1⟩ := bk hbx (gl) (by first | omega | (simp; done) | (simp; omega)); have bx1 := bkB hbx (gl) (by first | omega | (simp; done) | (simp; omega)); go_simp; (try go_bits); (try with_reducible rfl))); try simp only [Act.put, List.setIfInBounds_toArray, List.set_cons_zero, List.set_cons_succ])
            (refine wpG_read (v := ?_) rfl (.inl ⟨by rfl, fun wx hbx => ?_⟩) ?_; rotate_left; (focus (obtain ⟨cx0, fx0, zx0⟩ := bk hbx (w.heap.size + 1 + 1 + 1 + 1) (by first | omega | (simp; done) | (simp; omega)); have bx0 := bkB hbx (w.heap.size + 1 + 1 + 1 + 1) (by first | omega | (simp; done) | (simp; omega)); obtain ⟨cx1, fx1, zx1⟩ := bk hbx (gl) (by first | omega | (simp; done) | (simp; omega)); have bx1 := bkB hbx (gl) (by first | omega | (simp; done) | (simp; omega)); go_simp; (try go_bits); (try with_reducible rfl))); try simp only [Act.put, List.setIfInBounds_toArray, List.set_cons_zero, List.set_cons_succ])
            (refine wpG_read (v := ?_) rfl (.inl ⟨by rfl, fun wx hbx => ?_⟩) ?_; rotate_left; (focus (obtain ⟨cx0, fx0, zx0⟩ := bk hbx (w.heap.size + 1 + 1 + 1 + 1) (by first | omega | (simp; done) | (simp; omega)); have bx0 := bkB hbx (w.heap.size + 1 + 1 + 1 + 1) (by first | omega | (simp; done) | (simp; omega)); obtain ⟨cx1, fx1, zx1⟩ := bk hbx (gl) (by first | omega | (simp; done) | (simp; omega)); have bx1 := bkB hbx (gl) (by first | omega | (simp; done) | (simp; omega)); go_simp; (try go_bits); (try with_reducible rfl))); try simp only [Act.put, List.setIfInBounds_toArray, List.set_cons_zero, List.set_cons_succ])
            (refine wpG_read (v := ?_) rfl (.inl ⟨by rfl, fun wx hbx => ?_⟩) ?_; rotate_left; (focus (obtain ⟨cx0, fx0, zx0⟩ := bk hbx (w.heap.size + 1 + 1 + 1 + 1) (by first | omega | (simp; done) | (simp; omega)); have bx0 := bkB hbx (w.heap.size + 1 + 1 + 1 + 1) (by first | omega | (simp; done) | (simp; omega)); obtain ⟨cx1, fx1, zx1⟩ := bk hbx (gl) (by first | omega | (simp; done) | (simp; omega)); have bx1 := bkB hbx (gl) (by first | omega | (simp; done) | (simp; omega)); go_simp; (try go_bits); (try with_reducible rfl))); try simp only [Act.put, List.setIfInBounds_toArray, List.set_cons_zero, List.set_cons_succ])
            (refine wpG_read (v := ?_) rfl (.inl ⟨by rfl, fun wx hbx => ?_⟩) ?_; rotate_left; (focus (obtain ⟨cx0, fx0, zx0⟩ := bk hbx (w.heap.size + 1 + 1 + 1 + 1) (by first | omega | (simp; done) | (simp; omega)); have bx0 := bkB hbx (w.heap.size + 1 + 1 + 1 + 1) (by first | omega | (simp; done) | (simp; omega)); obtain ⟨cx1, fx1, zx1⟩ := bk hbx (gl) (by first | omega | (simp; done) | (simp; omega)); have bx1 := bkB hbx (gl) (by first | omega | (simp; done) | (simp; omega)); go_simp; (try go_bits); (try with_reducible rfl))); try simp only [Act.put, List.setIfInBounds_toArray, List.set_cons_zero, List.set_cons_succ])
            (refine wpG_read (v := ?_) rfl (.inl ⟨by rfl, fun wx hbx => ?_⟩) ?_; rotate_left; (focus (obtain ⟨cx0, fx0, zx0⟩ := bk hbx (w.heap.size + 1 + 1 + 1 + 1) (by first | omega | (simp; done) | (simp; omega)); have bx0 := bkB hbx (w.heap.size + 1 + 1 + 1 + 1) (by first | omega | (simp; done) | (simp; omega)); obtain ⟨cx1, fx1, zx1⟩ := bk hbx (gl) (by first | omega | (simp; done) | (simp; omega)); have bx1 := bkB hbx (gl) (by first | omega | (simp; done) | (simp; omega)); go_simp; (try go_bits); (try with_reducible rfl))); try simp only [Act.put, List.setIfInBounds_toArray, List.set_cons_zero, List.set_cons_succ])
            (refine wpG_late rfl (fun K hK => ?_); go_simp; (try simp only []); (try simp only []); refine hK _ _ ?_; clear hK K; try simp only [Act.put, List.setIfInBounds_toArray, List.set_cons_zero, List.set_cons_succ])
            refine wpG_nil ?_
            refine name_w (f := Exit.then _ _ Exit.normal _) (fun Z hZ => ?_)
            have hVd : Below V.heap.size V V.drew := (Below.refl _ _).drew
            have hZ9 : Has Z (w.heap.size + 1 + 1 + 1 + 1) #[.int .i64 (max oX (px - bw + sx)), .int .i64 (max oY (py - bw + sy))] 39 := by rw [hZ]; (repeat' (first | (with_reducible refine has_drew ?_) | (with_reducible refine has_drewN ?_) | (with_reducible refine has_new ?_; (first | (with_reducible rfl) | omega | (simp; done) | (simp; omega))) | (with_reducible refine has_ov_same ?_; (first | (with_reducible rfl) | omega | (simp; done) | (simp; omega))) | (with_reducible refine has_alloc ?_) | (with_reducible refine has_ov_other ?_ ?_; (focus (first | (with_reducible rfl) | omega | (simp; done) | (simp; omega)))) | (with_reducible assumption) | (with_reducible exact has_below hB (by assumption))))
            have hZ3 : Has Z w.heap.size #[.slice (some ⟨gL, 0, none⟩) N cL, .int .i64 p, .int .i64 r] 29 := by rw [hZ]; exact has_drew (has_ov_other (by omega) N3.out)
            have hZ6 : Has Z (w.heap.size + 1) #[.int .i64 0, .int .i64 0] 39 := by rw [hZ]; exact has_drew (has_ov_other (by omega) N6.out)
            have hZ7 : Has Z (w.heap.size + 1 + 1) (box18 true kx ky (ww + 2 * bw) (hh + 2 * bw) bw (.slice none 0 0)).toArray 44 := by rw [hZ]; exact has_drew (has_ov_other (by omega) N7.out)
            have hZ8 : Has Z (w.heap.size + 1 + 1 + 1) #[.int .i64 ww, .int .i64 hh] 39 := by rw [hZ]; exact has_drew (has_ov_other (by omega) N8.out)
            have hZB : Below w.heap.size w Z := by rw [hZ]; exact (below_ov NB.out (by omega) _ _).drew
            have k17 := HBX.out Z hZB
            have olZ : Old Z gl := Nat.lt_of_lt_of_le hl hZB.size
            clear hZ hVd hS e3 l3 o3 ll ol oL k61 k3 k4 l9 N3 N6 N7 N8 N9 NB HBX
            go_wp2_with fail
            go_loopw [13] (fun t wx => t = .int .i64 0 ∧ wx = Z) (fun _ _ => 0)
            case atStart => exact ⟨rfl, rfl⟩
            case round =>
              obtain ⟨rfl, hwr⟩ := hrel
              obtain rfl : Z = wr := hwr.symm
              go_wp2_with fail
              refine ⟨⟨k + 1, by push_cast; rfl, by omega, hZ3, hZ6, hZ7, hZ8, ?_, ?_, hZB⟩, by simp only [intOf]; omega⟩
              · rw [HSX.out.1, HSX.out.2, HN.out.1, HN.out.2]; exact hZ9
              · rw [HSX.out.1, HSX.out.2, HN.out.1, HN.out.2]; have := HBD.out; omega
          · rw [hx] at k61
            have hsx : sX l k = (nd23 l k).x + (nd23 l k).w ∧ sY l k = (nd23 l k).y + (nd23 l k).h := by unfold sX sY; rw [hx]; exact ⟨rfl, rfl⟩
            rw [hsx.1, hsx.2] at HN
            have HBX := Lib.hid (fun (Y : World) (hY : Below w.heap.size w Y) => And.intro ((HW.out.below hY).box k c 17 _ (by rw [b22_text l k _ ht hx]; rfl) : Y.cell? ⟨gl, k * 18 + 17, none⟩ = some (pc1 (g k).2)) ((HW.out.below hY).pc k c hx))
            obtain ⟨kkx, hkkx⟩ : ∃ v, (nd23 l k).x = v := ⟨_, rfl⟩
            obtain ⟨kky, hkky⟩ : ∃ v, (nd23 l k).y = v := ⟨_, rfl⟩
            obtain ⟨kkw, hkkw⟩ : ∃ v, (nd23 l k).w = v := ⟨_, rfl⟩
            obtain ⟨kkh, hkkh⟩ : ∃ v, (nd23 l k).h = v := ⟨_, rfl⟩
            obtain ⟨gp, hgp⟩ : ∃ v, (g k).2 = v := ⟨_, rfl⟩
            unfold pieceC pc1 at HBX
            rw [hkkx, hkky, hkkw, hkkh, hgp] at HBX
            rw [hkkx, hkky, hkkw, hkkh] at HN
            rw [hkkx] at x1; rw [hkky] at x2; rw [hkkw] at x3; rw [hkkh] at x4
            clear hRd obk hsx hkkx hkky hkkw hkkh hgp
            go_wp2_with fail
            go_loopw [13] (fun t wx => ∃ i : Nat, t = .int .i64 i ∧ i ≤ 1 ∧ Has wx w.heap.size #[.slice (some ⟨gL, 0, none⟩) N cL, .int .i64 p, .int .i64 r] 29 ∧ Has wx (w.heap.size + 1) #[.int .i64 0, .int .i64 0] 39 ∧ Has wx (w.heap.size + 1 + 1) (box18 true kx ky (ww + 2 * bw) (hh + 2 * bw) bw (.slice none 0 0)).toArray 44 ∧ Has wx (w.heap.size + 1 + 1 + 1) #[.int .i64 ww, .int .i64 hh] 39 ∧
              (∃ o1 o2, Has wx (w.heap.size + 1 + 1 + 1 + 1) #[.int .i64 o1, .int .i64 o2] 39 ∧ (i = 0 → o1 = oX ∧ o2 = oY) ∧ (i = 1 → o1 = max oX (px - bw + (kkx + kkw)) ∧ o2 = max oY (py - bw + (kky + kkh)))) ∧ Below w.heap.size w wx) (fun t _ => 1 - (intOf t).toNat)
            case atStart => exact ⟨0, rfl, by omega, N3.out, N6.out, N7.out, N8.out, ⟨oX, oY, N9.out, fun _ => ⟨rfl, rfl⟩, fun h => by omega⟩, NB.out⟩
            case round =>
              obtain ⟨i, rfl, hi1, h3, h6, h7, h8, ⟨o1, o2, h9, ho0, ho1⟩, hbr⟩ := hrel
              clear N3 N6 N7 N8 N9 NB e3 l3 o3 ll ol oL k61
              obtain ⟨k17, hpc⟩ := HBX.out wr hbr
              have olr : Old wr gl := Nat.lt_of_lt_of_le hl hbr.size
              by_cases ci2 : i = 0
              · subst ci2
                rw [show ((0 : Nat) : Int) = 0 from rfl]
                obtain ⟨rfl, rfl⟩ := ho0 rfl
                have cp := hpc.cells; have lp := hpc.lt; have op : Old wr gp := lp
                have l9 := h9.lt
                have ngp : ¬ gp = w.heap.size + 1 + 1 + 1 + 1 := fun e => by
                  have := has_ty (e ▸ hpc) h9
                  exact absurd this (by decide)
                have H3 := Lib.hid h3; have H6 := Lib.hid h6; have H7 := Lib.hid h7; have H8 := Lib.hid h8; have H9 := Lib.hid h9; have HB := Lib.hid hbr
                clear h3 h6 h7 h8 h9 hbr hpc
                go_upto_region 16 with fail
                refine name_w (f := Code.wp _ _ _ _) (fun Z hZ => ?_)
                have hZw : Below wr.heap.size wr Z := by rw [hZ]; (repeat' (first | (with_reducible exact Below.refl _ _) | (with_reducible assumption) | (with_reducible refine below_from_drew ?_) | (with_reducible refine Below.alloc ?_ ?_ _) | (with_reducible refine Below.drew ?_) | (with_reducible refine below_drewN ?_ _) | (with_reducible refine Below.setCell ?_ ?_ _) | (with_reducible refine below_via ?_ (by assumption) ?_) | (with_reducible refine below_ov ?_ ?_ _ _) | go_size))
                have hZ14 : Has Z wr.heap.size #[.int .i64 kkx, .int .i64 kky, .int .i64 kkw, .int .i64 kkh] 41 := by rw [hZ]; (repeat' (first | (with_reducible refine has_drew ?_) | (with_reducible refine has_drewN ?_) | (with_reducible refine has_new ?_; (first | (with_reducible rfl) | omega | (simp; done) | (simp; omega))) | (with_reducible refine has_ov_same ?_; (first | (with_reducible rfl) | omega | (simp; done) | (simp; omega))) | (with_reducible refine has_alloc ?_) | (with_reducible refine has_ov_other ?_ ?_; (focus (first | (with_reducible rfl) | omega | (simp; done) | (simp; omega)))) | (with_reducible assumption) | (with_reducible exact has_below hB (by assumption))))
                have hZ9 := has_below hZw H9.out
                have hZ3 := has_below hZw H3.out; have hZ6 := has_below hZw H6.out; have hZ7 := has_below hZw H7.out; have hZ8 := has_below hZw H8.out
                have hZB := HB.out.trans (hZw.mono HB.out.size)
                have c14 := hZ14.cells; have l14 := hZ14.lt; have o14 : Old Z wr.heap.size := l14
                have l9Z := hZ9.lt
                have n14 : ¬ wr.heap.size = w.heap.size + 1 + 1 + 1 + 1 := by omega
                clear hZ hZw k17 olr cp lp op hZ14 H3 H6 H7 H8 H9 HB
                rw [← ov_self hZ9]
                go_wp2_with fail
                refine ⟨⟨1, rfl, by omega, has_ov_other (by omega) hZ3, has_ov_other (by omega) hZ6, has_ov_other (by omega) hZ7, has_ov_other (by omega) hZ8, ⟨_, _, has_ov_same l9Z, fun h => by omega, fun _ => ⟨by rw [Int.add_assoc], by rw [Int.add_assoc]⟩⟩, below_ov hZB (by omega) _ _⟩, by simp only [intOf]; omega⟩
              · obtain rfl : i = 1 := by omega
                obtain ⟨rfl, rfl⟩ := ho1 rfl
                go_wp2_with fail
                refine ⟨⟨k + 1, by push_cast; rfl, by omega, h3, h6, h7, h8, ?_, ?_, hbr⟩, by simp only [intOf]; omega⟩
                · rw [HSX.out.1, HSX.out.2, HN.out.1, HN.out.2]; exact h9
                · rw [HSX.out.1, HSX.out.2, HN.out.1, HN.out.2]; have := HBD.out; omega
    · have ck : (N : Int) ≤ (k : Int) := by omega
      obtain rfl : k = N := by omega
      obtain ⟨oX, hoX⟩ : ∃ o, endF l (bX l) (sX l) n (0 - bw) ww k = o := ⟨_, rfl⟩
      obtain ⟨oY, hoY⟩ : ∃ o, endF l (bY l) (sY l) n (0 - bw) hh k = o := ⟨_, rfl⟩
      rw [hoX, hoY] at HE h9 hbd
      have c8 := h8.cells; have l8 := h8.lt; have o8 : Old wr (w.heap.size + 1 + 1 + 1) := l8
      have c9 := h9.cells; have l9 := h9.lt; have o9 : Old wr (w.heap.size + 1 + 1 + 1 + 1) := l9
      have z0 := h6.lt
      rw [← ov_self h6]
      clear h3 h7 hoX hoY
      go_wp2_with fail
      refine bodyPost_ret (by simp [results, Try.results14, go_sem, z0]; try rfl) rfl ?_
      exact ⟨by rw [HE.out.1, HE.out.2], by (repeat' (first | (with_reducible exact Below.refl _ _) | (with_reducible assumption) | (with_reducible refine below_from_drew ?_) | (with_reducible refine Below.alloc ?_ ?_ _) | (with_reducible refine Below.drew ?_) | (with_reducible refine below_drewN ?_ _) | (with_reducible refine Below.setCell ?_ ?_ _) | (with_reducible refine below_via ?_ (by assumption) ?_) | (with_reducible refine below_ov ?_ ?_ _ _) | go_size))⟩
end Go.Proofs.Ytjcbphhemmdnjaa
