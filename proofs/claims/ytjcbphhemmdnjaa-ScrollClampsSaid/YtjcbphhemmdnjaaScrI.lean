/- law23 (scroll): the document's Clips, Scrolls, Reaches, Place by contract. -/
import Derived.Test.YtjcbphhemmdnjaaScrH
namespace Go.Proofs.Ytjcbphhemmdnjaa
open Go Go.RowKit
set_option linter.unusedSimpArgs false
set_option linter.unusedVariables false
-- below_from_drew
attribute [local go_sem] ov_cell_same ov_cell_other ov_frozen_same ov_frozen_other ov_size ov_setCell_same ov_setCell_other cell_alloc_old frozen_alloc_old setCell_alloc_old old_alloc old_ov old_drew old_drewN old_setCell
attribute [local go_sem ↓] run_max2 run_min2
/-- The document's rows, as they are read. -/
structure Rd23 (w : World) (l : List N23) (N gL gl : Nat) (g : Nat → Nat × Nat) : Prop where
  zL : gL < w.heap.size
  zl : gl < w.heap.size
  ov : ∀ k, k < N → w.cell? ⟨gL, k * 65 + 51, none⟩ = some (.int .i64 (1 + (nd23 l k).ov % 3))
  tx : ∀ k, k < N → w.cell? ⟨gL, k * 65 + 61, none⟩ = some (.bool (tx23 l k))
  par : ∀ k, k < N → w.cell? ⟨gL, k * 65 + 64, none⟩ = some (.int .i64 (pa23 l k))
  box : ∀ k, k < N → ∀ o v, (b22V l k (g k).2)[o]? = some v → w.cell? ⟨gl, k * 18 + o, none⟩ = some v
  pc : ∀ k, k < N → tx23 l k = true → Has w (g k).2 (pieceC l k) 41
  hn : N ≤ 14
  ok : ∀ i, Ok23 (nd23 l i)
theorem Rd23.below {w w1 : World} {l : List N23} {N gL gl : Nat} {g : Nat → Nat × Nat} (h : Rd23 w l N gL gl g) (hb : Below w.heap.size w w1) : Rd23 w1 l N gL gl g := by
  have c : ∀ o, w1.cell? ⟨gL, o, none⟩ = w.cell? ⟨gL, o, none⟩ := fun o => hb.cell (p := ⟨gL, o, none⟩) h.zL
  have d : ∀ o, w1.cell? ⟨gl, o, none⟩ = w.cell? ⟨gl, o, none⟩ := fun o => hb.cell (p := ⟨gl, o, none⟩) h.zl
  exact ⟨Nat.lt_of_lt_of_le h.zL hb.size, Nat.lt_of_lt_of_le h.zl hb.size, fun k hk => (c _).trans (h.ov k hk), fun k hk => (c _).trans (h.tx k hk), fun k hk => (c _).trans (h.par k hk), fun k hk o v e => (d _).trans (h.box k hk o v e), fun k hk ht => has_below hb (h.pc k hk ht), h.hn, h.ok⟩
theorem M23.rd {l : List N23} {w0 w : World} {pt bm m bn bx N cL c1 : Nat} {B : Nat → BlkT} {g : Nat → Nat × Nat} {aL a1 : Option Addr} {R : Rows} {f : Nat → RowT} {O : Nat → Prop} (h : M23 l w0 w pt bm m B bn bx g N N N N N N N N aL cL a1 c1 R f O) (hN : 0 < N) (hN2 : N ≤ 14) (hok : ∀ i, Ok23 (nd23 l i)) :
    ∃ gL gl, aL = some ⟨gL, 0, none⟩ ∧ a1 = some ⟨gl, 0, none⟩ ∧ Rd23 w l N gL gl g := by
  have hL := h.mt.wd.fam.row 0 (by omega)
  rw [h.mt.f0] at hL
  dsimp only at hL
  obtain ⟨_, _, e1, _, _, r1⟩ := row_reads hL
  cases e1
  obtain ⟨gL, rfl, _, lL, cL'⟩ := r1 hN
  have hl := h.mt.wd.fam.row 1 (by omega)
  rw [h.f1] at hl
  dsimp only at hl
  obtain ⟨_, _, e2, _, _, r2⟩ := row_reads hl
  cases e2
  obtain ⟨gl, rfl, _, ll, cl'⟩ := r2 hN
  have rL : ∀ k, k < N → ∀ o, o < 65 → ∀ v, (V23 l k (f (2 + k)).v)[o]? = some v → w.cell? ⟨gL, k * 65 + o, none⟩ = some v := fun k hk o ho v e => cL' _ v ((rng_get (fun i => nodeC_len _ _ _ _ _ _ _) ho hk).trans e)
  refine ⟨gL, gl, rfl, rfl, ⟨lL, ll, fun k hk => rL k hk 51 (by omega) _ rfl, fun k hk => rL k hk 61 (by omega) _ rfl, fun k hk => rL k hk 64 (by omega) _ rfl, fun k hk o v e => ?_, fun k hk ht => ?_, hN2, hok⟩⟩
  · have ho : o < 18 := by rw [← b22V_len l k (g k).2]; exact (List.getElem?_eq_some_iff.1 e).1
    refine cl' _ v ((rng_get (fun i => wV_len l g N i) ho hk).trans ?_)
    unfold wV; rw [if_pos hk]; exact e
  · obtain ⟨q, r, h1, h2, h3, h4, h5, h6⟩ := h.pc k hk ht
    have k2 := h.mt.wd.has r h4
    rw [h6] at k2
    exact k2
set_option maxRecDepth 100000 in
set_option maxHeartbeats 1000000 in
theorem rclips_any (gL gl N cL n : Nat) (p r : Int) (l : List N23) (g : Nat → Nat × Nat) (w : World) (hn : n < N) (h : Rd23 w l N gL gl g) :
    Calls Try.prog 58 #[.agg #[.slice (some ⟨gL, 0, none⟩) N cL, .int .i64 p, .int .i64 r], .int .i64 n] w fun e w' => e = .returned (.bool (clip23 l n)) ∧ Below w.heap.size w w' := by
  have hN := h.hn
  have k1 := h.ov n hn; have k2 := h.tx n hn
  have oL : Old w gL := h.zL
  have hE : clip23 l n = (!tx23 l n && decide (1 + (nd23 l n).ov % 3 ≠ 1)) := by
    unfold clip23 show23
    congr 1
    by_cases c : (nd23 l n).ov % 3 = 0
    · rw [c]; rfl
    · rw [decide_eq_false c, decide_eq_true (show 1 + (nd23 l n).ov % 3 ≠ 1 by omega)]; rfl
  have HE := Lib.hid hE
  obtain ⟨tx, htx⟩ : ∃ t, tx23 l n = t := ⟨_, rfl⟩
  obtain ⟨o, ho⟩ : ∃ t, 1 + (nd23 l n).ov % 3 = t := ⟨_, rfl⟩
  rw [htx, ho] at HE
  rw [htx] at k2; rw [ho] at k1
  have ci : (n : Int) < N := by omega
  have cn : (0 : Int) ≤ n := by omega
  clear h hE htx ho
  rcases tx with _ | _
  · go_enter Try.func58, Try.ntmps58
    go_wp2_with fail
    go_ret
    exact ⟨by rw [HE.out]; simp [bne]; rfl, by (repeat' (first | (with_reducible exact Below.refl _ _) | (with_reducible assumption) | (with_reducible refine below_from_drew ?_) | (with_reducible refine Below.alloc ?_ ?_ _) | (with_reducible refine Below.drew ?_) | (with_reducible refine below_drewN ?_ _) | (with_reducible refine Below.setCell ?_ ?_ _) | (with_reducible refine below_via ?_ (by assumption) ?_) | (with_reducible refine below_ov ?_ ?_ _ _) | go_size))⟩
  · go_enter Try.func58, Try.ntmps58
    go_wp2_with fail
    go_ret
    exact ⟨by rw [HE.out]; simp, by (repeat' (first | (with_reducible exact Below.refl _ _) | (with_reducible assumption) | (with_reducible refine below_from_drew ?_) | (with_reducible refine Below.alloc ?_ ?_ _) | (with_reducible refine Below.drew ?_) | (with_reducible refine below_drewN ?_ _) | (with_reducible refine Below.setCell ?_ ?_ _) | (with_reducible refine below_via ?_ (by assumption) ?_) | (with_reducible refine below_ov ?_ ?_ _ _) | go_size))⟩
set_option maxRecDepth 100000 in
set_option maxHeartbeats 1000000 in
theorem rscrolls_any (gL gl N cL n : Nat) (p r : Int) (l : List N23) (g : Nat → Nat × Nat) (w : World) (hn : n < N) (h : Rd23 w l N gL gl g) :
    Calls Try.prog 13 #[.agg #[.slice (some ⟨gL, 0, none⟩) N cL, .int .i64 p, .int .i64 r], .int .i64 n] w fun e w' => e = .returned (.bool (scr23 l n)) ∧ Below w.heap.size w w' := by
  have hN := h.hn
  have k1 := h.ov n hn; have k2 := h.tx n hn
  have oL : Old w gL := h.zL
  have hE : scr23 l n = (!tx23 l n && decide (1 + (nd23 l n).ov % 3 = 2)) := by
    unfold scr23
    congr 1
    by_cases c : (nd23 l n).ov % 3 = 1
    · rw [c]; rfl
    · rw [decide_eq_false c, decide_eq_false (show ¬ (1 + (nd23 l n).ov % 3 = 2) by omega)]
  have HE := Lib.hid hE
  obtain ⟨tx, htx⟩ : ∃ t, tx23 l n = t := ⟨_, rfl⟩
  obtain ⟨o, ho⟩ : ∃ t, 1 + (nd23 l n).ov % 3 = t := ⟨_, rfl⟩
  rw [htx, ho] at HE
  rw [htx] at k2; rw [ho] at k1
  have ci : (n : Int) < N := by omega
  have cn : (0 : Int) ≤ n := by omega
  clear h hE htx ho
  rcases tx with _ | _
  · go_enter Try.func13, Try.ntmps13
    go_wp2_with fail
    go_ret
    exact ⟨by rw [HE.out]; simp [BEq.beq], by (repeat' (first | (with_reducible exact Below.refl _ _) | (with_reducible assumption) | (with_reducible refine below_from_drew ?_) | (with_reducible refine Below.alloc ?_ ?_ _) | (with_reducible refine Below.drew ?_) | (with_reducible refine below_drewN ?_ _) | (with_reducible refine Below.setCell ?_ ?_ _) | (with_reducible refine below_via ?_ (by assumption) ?_) | (with_reducible refine below_ov ?_ ?_ _ _) | go_size))⟩
  · go_enter Try.func13, Try.ntmps13
    go_wp2_with fail
    go_ret
    exact ⟨by rw [HE.out]; simp, by (repeat' (first | (with_reducible exact Below.refl _ _) | (with_reducible assumption) | (with_reducible refine below_from_drew ?_) | (with_reducible refine Below.alloc ?_ ?_ _) | (with_reducible refine Below.drew ?_) | (with_reducible refine below_drewN ?_ _) | (with_reducible refine Below.setCell ?_ ?_ _) | (with_reducible refine below_via ?_ (by assumption) ?_) | (with_reducible refine below_ov ?_ ?_ _ _) | go_size))⟩
theorem pa23_zero (l : List N23) : pa23 l 0 = 0 := by
  unfold pa23 pa26
  rw [if_pos rfl]
/-- How the loop of Reaches goes on from k. -/
def rchL (l : List N23) (n k : Nat) : Bool := if k = n then true else if k = 0 then false else if clip23 l k then false else rch l n k
theorem rch_rchL (l : List N23) (n : Nat) {k : Nat} (h : 0 < k) : rch l n k = rchL l n (pa23 l k) := by
  rw [rch_pos l n h]; rfl
set_option maxRecDepth 100000 in
set_option maxHeartbeats 2000000 in
theorem rreaches_any (gL gl N cL n k : Nat) (p r : Int) (l : List N23) (g : Nat → Nat × Nat) (w : World) (hn : n < N) (hk : k < N) (h : Rd23 w l N gL gl g) :
    Calls Try.prog 38 #[.agg #[.slice (some ⟨gL, 0, none⟩) N cL, .int .i64 p, .int .i64 r], .int .i64 n, .int .i64 k] w fun e w' => e = .returned (.bool (rch l n k)) ∧ Below w.heap.size w w' := by
  have hN := h.hn
  have HW := Lib.hid h
  have k1 := h.par k hk
  have oL : Old w gL := h.zL
  have ci : (k : Int) < N := by omega
  have cn : (0 : Int) ≤ k := by omega
  clear h
  have hpk : pa23 l k ≤ k := by
    rcases Nat.eq_zero_or_pos k with c | c
    · subst c; rw [pa23_zero]; exact Nat.le_refl _
    · exact Nat.le_of_lt (pa23_lt l c)
  have HE : Hid (rch l n k = (decide (k ≠ 0) && rchL l n (pa23 l k))) := Lib.hid (by
    rcases Nat.eq_zero_or_pos k with c | c
    · subst c; rw [rch_zero]; rfl
    · rw [rch_rchL l n c, decide_eq_true (by omega)]; rfl)
  go_enter Try.func38, Try.ntmps38
  go_upto_region 1 with fail
  refine name_w (f := Code.wp _ _ _ _) (fun X hX => ?_)
  have hXb : Below w.heap.size w X := by rw [hX]; (repeat' (first | (with_reducible exact Below.refl _ _) | (with_reducible assumption) | (with_reducible refine below_from_drew ?_) | (with_reducible refine Below.alloc ?_ ?_ _) | (with_reducible refine Below.drew ?_) | (with_reducible refine below_drewN ?_ _) | (with_reducible refine Below.setCell ?_ ?_ _) | (with_reducible refine below_via ?_ (by assumption) ?_) | (with_reducible refine below_ov ?_ ?_ _ _) | go_size))
  have hX3 : Has X w.heap.size #[.slice (some ⟨gL, 0, none⟩) N cL, .int .i64 p, .int .i64 r] 29 := by rw [hX]; (repeat' (first | (with_reducible refine has_drew ?_) | (with_reducible refine has_drewN ?_) | (with_reducible refine has_new ?_; (first | (with_reducible rfl) | omega | (simp; done) | (simp; omega))) | (with_reducible refine has_ov_same ?_; (first | (with_reducible rfl) | omega | (simp; done) | (simp; omega))) | (with_reducible refine has_alloc ?_) | (with_reducible refine has_ov_other ?_ ?_; (focus (first | (with_reducible rfl) | omega | (simp; done) | (simp; omega)))) | (with_reducible assumption) | (with_reducible exact has_below hB (by assumption))))
  have k1 := (HW.out.below hXb).par k hk
  have oL : Old X gL := (HW.out.below hXb).zL
  have e3 := hX3.cells; have l3 := hX3.lt; have o3 : Old X w.heap.size := l3
  have HXB := Lib.hid hXb; have HX3 := Lib.hid hX3
  clear hX hXb hX3
  go_wp2_with fail
  go_loopw [7] (fun t wr => ∃ q : Nat, t = .int .i64 q ∧ q ≤ k ∧ rchL l n q = rchL l n (pa23 l k) ∧ Below X.heap.size X wr) (fun t _ => (intOf t).toNat)
  case atStart => exact ⟨pa23 l k, rfl, hpk, rfl, Below.refl _ _⟩
  case round =>
    obtain ⟨q, rfl, hqk, hrq, hbr⟩ := hrel
    have HRQ := Lib.hid hrq; have HBR := Lib.hid hbr
    have h3 := has_below hbr HX3.out
    have hRd := (HW.out.below HXB.out).below hbr
    have e3' := h3.cells; have l3' := h3.lt; have o3' : Old wr w.heap.size := l3'
    have k1 := hRd.par q (by omega)
    have oL' : Old wr gL := hRd.zL
    have cq : (q : Int) < N := by omega
    have cq0 : (0 : Int) ≤ q := by omega
    clear hrq hbr h3 e3 l3 o3
    by_cases c1 : q = n
    · have ce : (q : Int) = n := by omega
      have HF : Hid (rch l n k = decide (k ≠ 0)) := Lib.hid (by rw [HE.out, ← HRQ.out, c1]; unfold rchL; rw [if_pos rfl, Bool.and_true])
      have hbw := HXB.out.trans (HBR.out.mono HXB.out.size)
      go_wp2_with fail
      go_ret
      exact ⟨by rw [HF.out]; simp [bne, BEq.beq], hbw⟩
    · have ce : ¬ (q : Int) = n := by omega
      have HCL := Lib.hid (fun Y (hY : Below wr.heap.size wr Y) => rclips_any gL gl N cL q p r l g Y (by omega) (hRd.below hY))
      clear hRd
      by_cases c2 : q = 0
      · subst c2
        have HF : Hid (rch l n k = false) := Lib.hid (by rw [HE.out, ← HRQ.out]; unfold rchL; rw [if_neg c1, if_pos rfl, Bool.and_false])
        have hbw := HXB.out.trans (HBR.out.mono HXB.out.size)
        go_wp2_with fail
        go_ret
        exact ⟨by rw [HF.out]; rfl, hbw⟩
      · have c20 : ((q : Int) == 0) = false := by simpa using c2
        have c21 : ¬ (q : Int) = 0 := by omega
        go_upto_if 29 with ((go_at_call 58; (with_reducible refine (HCL.out _ (by (repeat' (first | (with_reducible exact Below.refl _ _) | (with_reducible assumption) | (with_reducible refine below_from_drew ?_) | (with_reducible refine Below.alloc ?_ ?_ _) | (with_reducible refine Below.drew ?_) | (with_reducible refine below_drewN ?_ _) | (with_reducible refine Below.setCell ?_ ?_ _) | (with_reducible refine below_via ?_ (by assumption) ?_) | (with_reducible refine below_ov ?_ ?_ _ _) | go_size)))).mono ?_); rintro e v ⟨rfl, hb⟩; have hz := hb.size; refine (fun hB => ?_ : Below wr.heap.size wr v → _) ?_; rotate_left; (focus ((repeat' (first | (with_reducible exact Below.refl _ _) | (with_reducible assumption) | (with_reducible refine below_from_drew ?_) | (with_reducible refine Below.alloc ?_ ?_ _) | (with_reducible refine Below.drew ?_) | (with_reducible refine below_drewN ?_ _) | (with_reducible refine Below.setCell ?_ ?_ _) | (with_reducible refine below_via ?_ (by assumption) ?_) | (with_reducible refine below_ov ?_ ?_ _ _) | go_size)); done)); (try simp only [World.size_alloc, World.size_setCell, World.size_drew, ov_size] at hz)))
        rcases hc : clip23 l q with _ | _
        · have HF : Hid (rchL l n (pa23 l q) = rchL l n (pa23 l k)) := Lib.hid (by rw [← HRQ.out]; conv => rhs; unfold rchL; rw [if_neg c1, if_neg c2, hc]; simp; rw [rch_rchL l n (by omega)])
          have h3 := has_below hB (has_below HBR.out HX3.out)
          have hRd := ((HW.out.below HXB.out).below HBR.out).below hB
          have e3 := h3.cells; have l3 := h3.lt; have o3 : Old v w.heap.size := l3
          have k1 := hRd.par q (by omega)
          have oL := (show Old v gL from hRd.zL)
          have hbv := HBR.out.trans (hB.mono HBR.out.size)
          have hpq := pa23_lt l (show 0 < q by omega)
          clear h3 hRd
          go_wp2_with fail
          exact ⟨⟨pa23 l q, rfl, by omega, HF.out, hbv⟩, by simp only [intOf]; omega⟩
        · have HF : Hid (rch l n k = false) := Lib.hid (by rw [HE.out, ← HRQ.out]; unfold rchL; rw [if_neg c1, if_neg c2, hc, if_pos rfl, Bool.and_false])
          have hbw := (HXB.out.trans (HBR.out.mono HXB.out.size)).trans (hB.mono (Nat.le_trans HXB.out.size HBR.out.size))
          go_wp2_with fail
          go_ret
          exact ⟨by rw [HF.out]; rfl, hbw⟩
end Go.Proofs.Ytjcbphhemmdnjaa
