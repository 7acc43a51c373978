/- law24 (offset): the document's functions by contract: There, Layer, At, Begins. law24 (offset): ref24.At by contract. law24 (offset): ref24.Begins, ref24.Origin by contract. -/
import Derived.Test.YtjcbphhemmdnjaaOffOP
import Derived.Test.YtjcbphhemmdnjaaPhase
import Derived.Test.YtjcbphhemmdnjaaBigM
namespace Go.Proofs.Ytjcbphhemmdnjaa
open Go Go.RowKit
set_option linter.unusedSimpArgs false
set_option linter.unusedVariables false
-- below_from_drew
attribute [local go_sem] ov_cell_same ov_cell_other ov_frozen_same ov_frozen_other ov_size ov_setCell_same ov_setCell_other cell_alloc_old frozen_alloc_old setCell_alloc_old old_alloc old_ov old_drew old_drewN old_setCell
attribute [local go_sem ↓] run_max2 run_min2
/-- What the document's functions read. -/
structure Rd24 (w : World) (l : List N24) (N gL gl gs gb : Nat) : Prop where
  zL : gL < w.heap.size
  zl : gl < w.heap.size
  zs : gs < w.heap.size
  zb : gb < w.heap.size
  par : ∀ k, k < N → w.cell? ⟨gL, k * 65 + 64, none⟩ = some (.int .i64 (pa24 l k))
  th : ∀ k, k < N → w.cell? ⟨gl, k * 18, none⟩ = some (.bool (!(nd24 l k).hid))
  x : ∀ k, k < N → w.cell? ⟨gl, k * 18 + 1, none⟩ = some (.int .i64 (nd24 l k).x)
  y : ∀ k, k < N → w.cell? ⟨gl, k * 18 + 2, none⟩ = some (.int .i64 (nd24 l k).y)
  t : ∀ k, k < N → w.cell? ⟨gl, k * 18 + 5, none⟩ = some (.int .i64 (nd24 l k).bd)
  e : ∀ k, k < N → w.cell? ⟨gl, k * 18 + 8, none⟩ = some (.int .i64 ((nd24 l k).bd + 3))
  sc : ∀ k, k < N → w.cell? ⟨gs, k, none⟩ = some (.bool (nd24 l k).sc)
  b0 : ∀ k, k < N → w.cell? ⟨gb, k * 2, none⟩ = some (.int .i64 (nd24 l k).b0)
  b1 : ∀ k, k < N → w.cell? ⟨gb, k * 2 + 1, none⟩ = some (.int .i64 (nd24 l k).b1)
theorem Rd24.below {w w1 : World} {l : List N24} {N gL gl gs gb : Nat} (h : Rd24 w l N gL gl gs gb) (hb : Below w.heap.size w w1) : Rd24 w1 l N gL gl gs gb := by
  have c : ∀ g o, g < w.heap.size → w1.cell? ⟨g, o, none⟩ = w.cell? ⟨g, o, none⟩ := fun g o hg => hb.cell (p := ⟨g, o, none⟩) hg
  have z := hb.size
  exact ⟨Nat.lt_of_lt_of_le h.zL z, Nat.lt_of_lt_of_le h.zl z, Nat.lt_of_lt_of_le h.zs z, Nat.lt_of_lt_of_le h.zb z, fun k hk => (c _ _ h.zL).trans (h.par k hk), fun k hk => (c _ _ h.zl).trans (h.th k hk), fun k hk => (c _ _ h.zl).trans (h.x k hk), fun k hk => (c _ _ h.zl).trans (h.y k hk), fun k hk => (c _ _ h.zl).trans (h.t k hk), fun k hk => (c _ _ h.zl).trans (h.e k hk), fun k hk => (c _ _ h.zs).trans (h.sc k hk), fun k hk => (c _ _ h.zb).trans (h.b0 k hk), fun k hk => (c _ _ h.zb).trans (h.b1 k hk)⟩
set_option maxRecDepth 100000 in
set_option maxHeartbeats 1000000 in
theorem rthere_any (gL gl gs gb N cL cl n : Nat) (l : List N24) (w : World) (hN : N ≤ 16) (hn : n < N) (h : Rd24 w l N gL gl gs gb) :
    Calls Try.prog 27 #[.agg #[.slice (some ⟨gL, 0, none⟩) N cL, .int .i64 0, .int .i64 0], .slice (some ⟨gl, 0, none⟩) N cl, .int .i64 n] w fun e w' => e = .returned (.bool (there24 l n)) ∧ Below w.heap.size w w' := by
  have HR := Lib.hid h
  have oL : Old w gL := h.zL
  have ol : Old w gl := h.zl
  have lL := h.zL
  have ll := h.zl
  clear h
  have hN0 : (0 : Int) < N := by omega
  go_enter Try.func27, Try.ntmps27
  go_wp2_with fail
  go_loopw [2] (fun v wr => ∃ k : Nat, v = .int .i64 k ∧ k < N ∧ there24 l n = there24 l k ∧ Below w.heap.size w wr ∧ Has wr w.heap.size #[.slice (some ⟨gL, 0, none⟩) N cL, .int .i64 0, .int .i64 0] 29) (fun v _ => (intOf v).toNat)
  case atStart => exact ⟨n, rfl, hn, rfl, by (repeat' (first | (with_reducible exact Below.refl _ _) | (with_reducible assumption) | (with_reducible refine below_from_drew ?_) | (with_reducible refine Below.alloc ?_ ?_ _) | (with_reducible refine Below.drew ?_) | (with_reducible refine below_drewN ?_ _) | (with_reducible refine Below.setCell ?_ ?_ _) | (with_reducible refine below_via ?_ (by assumption) ?_) | (with_reducible refine below_ov ?_ ?_ _ _) | go_size)), by (repeat' (first | (with_reducible refine has_drew ?_) | (with_reducible refine has_drewN ?_) | (with_reducible refine has_new ?_; (first | (with_reducible rfl) | omega | (simp; done) | (simp; omega))) | (with_reducible refine has_ov_same ?_; (first | (with_reducible rfl) | omega | (simp; done) | (simp; omega))) | (with_reducible refine has_alloc ?_) | (with_reducible refine has_ov_other ?_ ?_; (focus (first | (with_reducible rfl) | omega | (simp; done) | (simp; omega)))) | (with_reducible assumption) | (with_reducible exact has_below hB (by assumption))))⟩
  case round =>
    obtain ⟨k, rfl, hk, he, hb, hp⟩ := hrel
    have HRW := Lib.hid (HR.out.below hb)
    have HE := Lib.hid he; have HB := Lib.hid hb
    have q1 := HRW.out.par k hk
    have q2 := HRW.out.th k hk
    have q3 := HRW.out.th 0 (by omega)
    rw [Nat.zero_mul] at q3
    have oL2 : Old wr gL := HRW.out.zL
    have ol2 : Old wr gl := HRW.out.zl
    have cp := hp.cells; have lp := hp.lt; have op : Old wr w.heap.size := lp
    have hkI : (k : Int) < N := by omega
    have hk0 : (0 : Int) ≤ k := by omega
    have hzr := hb.size
    have HP := Lib.hid hp
    clear he hb hp
    rcases Nat.eq_zero_or_pos k with c | c
    · subst c
      go_wp2_with fail
      go_ret
      exact ⟨by rw [HE.out, there24_root]; rfl, HB.out⟩
    · have hkn : ¬ (k : Int) = 0 := by omega
      rcases hh : (nd24 l k).hid with _ | _
      · rw [hh] at q2
        go_wp2_with fail
        have hlt := pa24_lt l c
        refine ⟨⟨pa24 l k, rfl, by omega, by rw [HE.out, there24_kid l c, hh]; rfl, HB.out, HP.out⟩, by simp only [intOf]; omega⟩
      · rw [hh] at q2
        go_wp2_with fail
        go_ret
        exact ⟨by rw [HE.out, there24_kid l c, hh]; rfl, HB.out⟩
theorem layer24_root (l : List N24) : (place24 l 0).L = -1 := rfl
theorem layer24_kid (l : List N24) {n : Nat} (h : 0 < n) : (place24 l n).L = if (nd24 l (pa24 l n)).sc then (pa24 l n : Int) else (place24 l (pa24 l n)).L := by
  rw [place24_kid l h]
  show (downP _ _ _).L = _
  unfold downP
  split <;> rfl
set_option maxRecDepth 100000 in
set_option maxHeartbeats 1000000 in
theorem rlayer_any (gL gl gs gb N cL cS n : Nat) (l : List N24) (w : World) (hN : N ≤ 16) (hn : n < N) (h : Rd24 w l N gL gl gs gb) :
    Calls Try.prog 29 #[.agg #[.slice (some ⟨gL, 0, none⟩) N cL, .int .i64 0, .int .i64 0], .slice (some ⟨gs, 0, none⟩) N cS, .int .i64 n] w fun e w' => e = .returned (.int .i64 (place24 l n).L) ∧ Below w.heap.size w w' := by
  have HR := Lib.hid h
  have oL : Old w gL := h.zL
  have os : Old w gs := h.zs
  have lL := h.zL
  have ls := h.zs
  clear h
  go_enter Try.func29, Try.ntmps29
  go_wp2_with fail
  go_loopw [2] (fun v wr => ∃ k : Nat, v = .int .i64 k ∧ k < N ∧ (place24 l n).L = (place24 l k).L ∧ Below w.heap.size w wr ∧ Has wr w.heap.size #[.slice (some ⟨gL, 0, none⟩) N cL, .int .i64 0, .int .i64 0] 29) (fun v _ => (intOf v).toNat)
  case atStart => exact ⟨n, rfl, hn, rfl, by (repeat' (first | (with_reducible exact Below.refl _ _) | (with_reducible assumption) | (with_reducible refine below_from_drew ?_) | (with_reducible refine Below.alloc ?_ ?_ _) | (with_reducible refine Below.drew ?_) | (with_reducible refine below_drewN ?_ _) | (with_reducible refine Below.setCell ?_ ?_ _) | (with_reducible refine below_via ?_ (by assumption) ?_) | (with_reducible refine below_ov ?_ ?_ _ _) | go_size)), by (repeat' (first | (with_reducible refine has_drew ?_) | (with_reducible refine has_drewN ?_) | (with_reducible refine has_new ?_; (first | (with_reducible rfl) | omega | (simp; done) | (simp; omega))) | (with_reducible refine has_ov_same ?_; (first | (with_reducible rfl) | omega | (simp; done) | (simp; omega))) | (with_reducible refine has_alloc ?_) | (with_reducible refine has_ov_other ?_ ?_; (focus (first | (with_reducible rfl) | omega | (simp; done) | (simp; omega)))) | (with_reducible assumption) | (with_reducible exact has_below hB (by assumption))))⟩
  case round =>
    obtain ⟨k, rfl, hk, he, hb, hp⟩ := hrel
    have HRW := Lib.hid (HR.out.below hb)
    have HE := Lib.hid he; have HB := Lib.hid hb; have HP := Lib.hid hp
    have q1 := HRW.out.par k hk
    have oL2 : Old wr gL := HRW.out.zL
    have os2 : Old wr gs := HRW.out.zs
    have cp := hp.cells; have lp := hp.lt; have op : Old wr w.heap.size := lp
    have hkI : (k : Int) < N := by omega
    have hk0 : (0 : Int) ≤ k := by omega
    have hzr := hb.size
    clear he hb hp
    rcases Nat.eq_zero_or_pos k with c | c
    · subst c
      go_wp2_with fail
      go_ret
      exact ⟨by rw [HE.out, layer24_root]; rfl, HB.out⟩
    · have hkn : ¬ (k : Int) = 0 := by omega
      have hlt := pa24_lt l c
      have q2 := HRW.out.sc (pa24 l k) (by omega)
      have hq := layer24_kid l c
      have HQ := Lib.hid hq
      clear hq
      obtain ⟨q, hq⟩ : ∃ q, pa24 l k = q := ⟨_, rfl⟩
      have HQQ := Lib.hid hq
      rw [hq] at q1 q2 hlt
      clear hq
      have hqI : (q : Int) < N := by omega
      have hq0 : (0 : Int) ≤ q := by omega
      rcases hh : (nd24 l q).sc with _ | _
      · rw [hh] at q2
        go_wp2_with fail
        refine ⟨⟨q, rfl, by omega, by rw [HE.out, HQ.out, HQQ.out, hh]; rfl, HB.out, HP.out⟩, by simp only [intOf]; omega⟩
      · rw [hh] at q2
        go_wp2_with fail
        go_ret
        exact ⟨by rw [HE.out, HQ.out, HQQ.out, hh]; rfl, HB.out⟩
/-- What the maker leaves, read. -/
theorem M24.rd {l : List N24} {w0 w : World} {pt bm m bx sc N cL cl cS cb : Nat} {B : Nat → BlkT} {aL al aS ab : Option Addr} {R : Rows} {f : Nat → RowT} {O : Nat → Prop} (h : M24 l w0 w pt bm m B bx sc N N N N N N N N aL cL al cl aS cS ab cb R f O) (hN : 0 < N) :
    ∃ gL gl gs gb, aL = some ⟨gL, 0, none⟩ ∧ al = some ⟨gl, 0, none⟩ ∧ aS = some ⟨gs, 0, none⟩ ∧ ab = some ⟨gb, 0, none⟩ ∧ Rd24 w l N gL gl gs gb := by
  have r0 := h.wd.fam.row 0 (by omega)
  have r1 := h.wd.fam.row 1 (by omega)
  have r2 := h.wd.fam.row 2 (by omega)
  have r3 := h.wd.fam.row 3 (by omega)
  rw [h.f0] at r0
  rw [h.f1] at r1
  rw [h.f2] at r2
  rw [h.f3] at r3
  dsimp only at r0 r1 r2 r3
  obtain ⟨_, _, e0, _, _, c0⟩ := row_reads r0
  obtain ⟨_, _, e1, _, _, c1⟩ := row_reads r1
  obtain ⟨_, _, e2, _, _, c2⟩ := row_reads r2
  obtain ⟨_, _, e3, _, _, c3⟩ := row_reads r3
  cases e0; cases e1; cases e2; cases e3
  obtain ⟨gL, q0, _, z0, k0⟩ := c0 hN
  obtain ⟨gl, q1, _, z1, k1⟩ := c1 hN
  obtain ⟨gs, q2, _, z2, k2⟩ := c2 hN
  obtain ⟨gb, q3, _, z3, k3⟩ := c3 hN
  refine ⟨gL, gl, gs, gb, q0, q1, q2, q3, z0, z1, z2, z3, fun k hk => ?_, fun k hk => ?_, fun k hk => ?_, fun k hk => ?_, fun k hk => ?_, fun k hk => ?_, fun k hk => ?_, fun k hk => ?_, fun k hk => ?_⟩
  · exact k0 _ _ ((rng_get (s := 65) (fun k => nodeL_len _ _) (by omega) hk).trans rfl)
  · exact k1 (k * 18 + 0) _ ((rng_get (s := 18) (fun k => rfl) (by omega) hk).trans rfl)
  · exact k1 _ _ ((rng_get (s := 18) (fun k => rfl) (by omega) hk).trans rfl)
  · exact k1 _ _ ((rng_get (s := 18) (fun k => rfl) (by omega) hk).trans rfl)
  · exact k1 _ _ ((rng_get (s := 18) (fun k => rfl) (by omega) hk).trans rfl)
  · exact k1 _ _ ((rng_get (s := 18) (fun k => rfl) (by omega) hk).trans rfl)
  · have := k2 (k * 1 + 0) (.bool (nd24 l k).sc) ((rng_get (s := 1) (fun k => rfl) (by omega) hk).trans rfl)
    rw [Nat.mul_one] at this
    exact this
  · exact k3 (k * 2 + 0) _ ((rng_get (s := 2) (fun k => rfl) (by omega) hk).trans rfl)
  · exact k3 _ _ ((rng_get (s := 2) (fun k => rfl) (by omega) hk).trans rfl)
end Go.Proofs.Ytjcbphhemmdnjaa
namespace Go.Proofs.Ytjcbphhemmdnjaa
open Go Go.RowKit
set_option linter.unusedSimpArgs false
set_option linter.unusedVariables false
-- below_from_drew
attribute [local go_sem] ov_cell_same ov_cell_other ov_frozen_same ov_frozen_other ov_size ov_setCell_same ov_setCell_other cell_alloc_old frozen_alloc_old setCell_alloc_old old_alloc old_ov old_drew old_drewN old_setCell
attribute [local go_sem ↓] run_max2 run_min2
/-- What holds in a region whose stores fill block b: at first all is as it was, then all but b. -/
def ph2 (b : Nat) (W : World) (q : Nat) (wx : World) : Prop := match q with
  | 0 => Below W.heap.size W wx
  | 1 => ButS (fun x => x = b) W.heap.size W wx
  | _ => True
theorem ph2_first (b : Nat) (W : World) (q : Nat) : ph2 b W q W := match q with
  | 0 => Below.refl _ _
  | 1 => ButS.refl _ _ _
  | _ + 2 => trivial
theorem ph2_next {b : Nat} {W wx : World} (h : ButS (fun x => x = b) W.heap.size W wx) (q : Nat) (hq : 1 ≤ q) : ph2 b W q wx := match q with
  | 0 => by omega
  | 1 => h
  | _ + 2 => trivial
theorem ph2_last {b : Nat} {W wx : World} (q : Nat) (hq : 2 ≤ q) : ph2 b W q wx := match q with
  | 0 => by omega
  | 1 => by omega
  | _ + 2 => trivial
theorem ph2_ov (u : World) (b B : Nat) (c c' : Array Value) (T : TypeId) : ButS (fun x => x = b) B (ov u b c T) (ov u b c' T) := by
  have h := (ButS.refl (fun x => x = b) B (ov u b c T)).ovs (b := b) (.inr rfl) c' T
  rw [ov_ov_same] at h
  exact h
theorem ph2_ovd (u : World) (b B : Nat) (c c' : Array Value) (T : TypeId) : ButS (fun x => x = b) B (ov u b c T).drew (ov u b c' T).drew := by
  have h := ph2_ov u.drew b B c c' T
  exact h
theorem ph2_ovdd (u : World) (b B : Nat) (c c' : Array Value) (T : TypeId) : ButS (fun x => x = b) B (ov u b c T).drew.drew (ov u b c' T).drew.drew := by
  have h := ph2_ov u.drew.drew b B c c' T
  exact h
theorem wrap_mid {x : Int} (h : -4611686018427387904 ≤ x ∧ x ≤ 4611686018427387904) : wrap64 x = x := by unfold wrap64; omega
set_option maxRecDepth 100000 in
set_option maxHeartbeats 2000000 in
theorem rat24_any (gL gl gs gb N cL cl cS cb n : Nat) (l : List N24) (w : World) (hN : N ≤ 16) (hn : n < N) (hok : ∀ i, Ok24 (nd24 l i)) (h : Rd24 w l N gL gl gs gb) :
    Calls Try.prog 28 #[.agg #[.slice (some ⟨gL, 0, none⟩) N cL, .int .i64 0, .int .i64 0], .slice (some ⟨gl, 0, none⟩) N cl, .slice (some ⟨gs, 0, none⟩) N cS, .slice (some ⟨gb, 0, none⟩) N cb, .int .i64 n] w fun e w' => e = .returned (.agg #[.int .i64 (place24 l n).X, .int .i64 (place24 l n).Y]) ∧ Below w.heap.size w w' := by
  have HR := Lib.hid h
  have oL : Old w gL := h.zL
  have ol : Old w gl := h.zl
  have lL := h.zL
  have ll := h.zl
  have q1 := h.x n hn
  have q2 := h.y n hn
  have hnI : (n : Int) < N := by omega
  have hn0 : (0 : Int) ≤ n := by omega
  clear h
  go_enter Try.func28, Try.ntmps28
  go_upto_region 1 with fail
  refine region_ord [(0, 0), (1, 0), (2, 0), (3, 0), (4, 0), (5, 0), (6, 0), (7, 0), (8, 0), (9, 0), (10, 0), (11, 1), (12, 2)] (by kernel_rfl) (by kernel_rfl) (fun _ _ d _ _ h => by cases d <;> exact h) (fun hS => ?_)
  (refine wpG_read (v := ?_) rfl (.inl ⟨by rfl, fun wx hbx => ?_⟩) ?_; rotate_left; (focus (obtain ⟨cx0, fx0, zx0⟩ := bk hbx (w.heap.size) (by first | omega | (simp; done) | (simp; omega)); obtain ⟨cx1, fx1, zx1⟩ := bk hbx (gl) (by first | omega | (simp; done) | (simp; omega)); go_simp; (try go_bits); (try with_reducible rfl))); try simp only [Act.put, List.setIfInBounds_toArray, List.set_cons_zero, List.set_cons_succ])
  (refine wpG_read (v := ?_) rfl (.inl ⟨by rfl, fun wx hbx => ?_⟩) ?_; rotate_left; (focus (obtain ⟨cx0, fx0, zx0⟩ := bk hbx (w.heap.size) (by first | omega | (simp; done) | (simp; omega)); obtain ⟨cx1, fx1, zx1⟩ := bk hbx (gl) (by first | omega | (simp; done) | (simp; omega)); go_simp; (try go_bits); (try with_reducible rfl))); try simp only [Act.put, List.setIfInBounds_toArray, List.set_cons_zero, List.set_cons_succ])
  (refine wpG_read (v := ?_) rfl (.inl ⟨by rfl, fun wx hbx => ?_⟩) ?_; rotate_left; (focus (obtain ⟨cx0, fx0, zx0⟩ := bk hbx (w.heap.size) (by first | omega | (simp; done) | (simp; omega)); obtain ⟨cx1, fx1, zx1⟩ := bk hbx (gl) (by first | omega | (simp; done) | (simp; omega)); go_simp; (try go_bits); (try with_reducible rfl))); try simp only [Act.put, List.setIfInBounds_toArray, List.set_cons_zero, List.set_cons_succ])
  (refine wpG_read (v := ?_) rfl (.inl ⟨by rfl, fun wx hbx => ?_⟩) ?_; rotate_left; (focus (obtain ⟨cx0, fx0, zx0⟩ := bk hbx (w.heap.size) (by first | omega | (simp; done) | (simp; omega)); obtain ⟨cx1, fx1, zx1⟩ := bk hbx (gl) (by first | omega | (simp; done) | (simp; omega)); go_simp; (try go_bits); (try with_reducible rfl))); try simp only [Act.put, List.setIfInBounds_toArray, List.set_cons_zero, List.set_cons_succ])
  (refine wpG_read (v := ?_) rfl (.inl ⟨by rfl, fun wx hbx => ?_⟩) ?_; rotate_left; (focus (obtain ⟨cx0, fx0, zx0⟩ := bk hbx (w.heap.size) (by first | omega | (simp; done) | (simp; omega)); obtain ⟨cx1, fx1, zx1⟩ := bk hbx (gl) (by first | omega | (simp; done) | (simp; omega)); go_simp; (try go_bits); (try with_reducible rfl))); try simp only [Act.put, List.setIfInBounds_toArray, List.set_cons_zero, List.set_cons_succ])
  (refine wpG_read (v := ?_) rfl (.inl ⟨by rfl, fun wx hbx => ?_⟩) ?_; rotate_left; (focus (obtain ⟨cx0, fx0, zx0⟩ := bk hbx (w.heap.size) (by first | omega | (simp; done) | (simp; omega)); obtain ⟨cx1, fx1, zx1⟩ := bk hbx (gl) (by first | omega | (simp; done) | (simp; omega)); go_simp; (try go_bits); (try with_reducible rfl))); try simp only [Act.put, List.setIfInBounds_toArray, List.set_cons_zero, List.set_cons_succ])
  (refine wpG_read (v := ?_) rfl (.inl ⟨by rfl, fun wx hbx => ?_⟩) ?_; rotate_left; (focus (obtain ⟨cx0, fx0, zx0⟩ := bk hbx (w.heap.size) (by first | omega | (simp; done) | (simp; omega)); obtain ⟨cx1, fx1, zx1⟩ := bk hbx (gl) (by first | omega | (simp; done) | (simp; omega)); go_simp; (try go_bits); (try with_reducible rfl))); try simp only [Act.put, List.setIfInBounds_toArray, List.set_cons_zero, List.set_cons_succ])
  (refine wpG_read (v := ?_) rfl (.inl ⟨by rfl, fun wx hbx => ?_⟩) ?_; rotate_left; (focus (obtain ⟨cx0, fx0, zx0⟩ := bk hbx (w.heap.size) (by first | omega | (simp; done) | (simp; omega)); obtain ⟨cx1, fx1, zx1⟩ := bk hbx (gl) (by first | omega | (simp; done) | (simp; omega)); go_simp; (try go_bits); (try with_reducible rfl))); try simp only [Act.put, List.setIfInBounds_toArray, List.set_cons_zero, List.set_cons_succ])
  (refine wpG_read (v := ?_) rfl (.inl ⟨by rfl, fun wx hbx => ?_⟩) ?_; rotate_left; (focus (obtain ⟨cx0, fx0, zx0⟩ := bk hbx (w.heap.size) (by first | omega | (simp; done) | (simp; omega)); obtain ⟨cx1, fx1, zx1⟩ := bk hbx (gl) (by first | omega | (simp; done) | (simp; omega)); go_simp; (try go_bits); (try with_reducible rfl))); try simp only [Act.put, List.setIfInBounds_toArray, List.set_cons_zero, List.set_cons_succ])
  (refine wpG_read (v := ?_) rfl (.inl ⟨by rfl, fun wx hbx => ?_⟩) ?_; rotate_left; (focus (obtain ⟨cx0, fx0, zx0⟩ := bk hbx (w.heap.size) (by first | omega | (simp; done) | (simp; omega)); obtain ⟨cx1, fx1, zx1⟩ := bk hbx (gl) (by first | omega | (simp; done) | (simp; omega)); go_simp; (try go_bits); (try with_reducible rfl))); try simp only [Act.put, List.setIfInBounds_toArray, List.set_cons_zero, List.set_cons_succ])
  (refine wpG_read (v := ?_) rfl (.inl ⟨by rfl, fun wx hbx => ?_⟩) ?_; rotate_left; (focus (obtain ⟨cx0, fx0, zx0⟩ := bk hbx (w.heap.size) (by first | omega | (simp; done) | (simp; omega)); obtain ⟨cx1, fx1, zx1⟩ := bk hbx (gl) (by first | omega | (simp; done) | (simp; omega)); go_simp; (try go_bits); (try with_reducible rfl))); try simp only [Act.put, List.setIfInBounds_toArray, List.set_cons_zero, List.set_cons_succ])
  (refine wpG_make rfl (fun K hK => ?_); go_simp; (try simp only []); (try simp only []); refine hK _ _ ?_ (fun hS2 => ?_); (focus ((repeat' (first | (with_reducible exact Below.refl _ _) | (with_reducible assumption) | (with_reducible refine below_from_drew ?_) | (with_reducible refine Below.alloc ?_ ?_ _) | (with_reducible refine Below.drew ?_) | (with_reducible refine below_drewN ?_ _) | (with_reducible refine Below.setCell ?_ ?_ _) | (with_reducible refine below_via ?_ (by assumption) ?_) | (with_reducible refine below_ov ?_ ?_ _ _) | go_size)); done)); clear hK K hS; have hS := hS2; clear hS2; (try clear hb); try simp only [Act.put, List.setIfInBounds_toArray, List.set_cons_zero, List.set_cons_succ])
  (refine wpG_late rfl (fun K hK => ?_); go_simp; (try simp only []); (try simp only []); refine hK _ _ ?_; clear hK K; try simp only [Act.put, List.setIfInBounds_toArray, List.set_cons_zero, List.set_cons_succ])
  refine wpG_nil ?_
  go_wp2_with fail
  have hnear := place24_near hok
  go_loopw [4] (fun v wr => ∃ (k : Nat) (a0 a1 : Int), v = .int .i64 k ∧ k < N ∧ (place24 l n).X = a0 + ((place24 l k).X - (nd24 l k).x) ∧ (place24 l n).Y = a1 + ((place24 l k).Y - (nd24 l k).y) ∧ Below w.heap.size w wr ∧ Has wr w.heap.size #[.slice (some ⟨gL, 0, none⟩) N cL, .int .i64 0, .int .i64 0] 29 ∧ Has wr (w.heap.size + 1) #[.int .i64 0, .int .i64 0] 39 ∧ Has wr (w.heap.size + 1 + 1) #[.int .i64 a0, .int .i64 a1] 39) (fun v _ => (intOf v).toNat)
  case atStart => exact ⟨n, (nd24 l n).x, (nd24 l n).y, rfl, hn, by omega, by omega, by (repeat' (first | (with_reducible exact Below.refl _ _) | (with_reducible assumption) | (with_reducible refine below_from_drew ?_) | (with_reducible refine Below.alloc ?_ ?_ _) | (with_reducible refine Below.drew ?_) | (with_reducible refine below_drewN ?_ _) | (with_reducible refine Below.setCell ?_ ?_ _) | (with_reducible refine below_via ?_ (by assumption) ?_) | (with_reducible refine below_ov ?_ ?_ _ _) | go_size)), by (repeat' (first | (with_reducible refine has_drew ?_) | (with_reducible refine has_drewN ?_) | (with_reducible refine has_new ?_; (first | (with_reducible rfl) | omega | (simp; done) | (simp; omega))) | (with_reducible refine has_ov_same ?_; (first | (with_reducible rfl) | omega | (simp; done) | (simp; omega))) | (with_reducible refine has_alloc ?_) | (with_reducible refine has_ov_other ?_ ?_; (focus (first | (with_reducible rfl) | omega | (simp; done) | (simp; omega)))) | (with_reducible assumption) | (with_reducible exact has_below hB (by assumption)))), by (repeat' (first | (with_reducible refine has_drew ?_) | (with_reducible refine has_drewN ?_) | (with_reducible refine has_new ?_; (first | (with_reducible rfl) | omega | (simp; done) | (simp; omega))) | (with_reducible refine has_ov_same ?_; (first | (with_reducible rfl) | omega | (simp; done) | (simp; omega))) | (with_reducible refine has_alloc ?_) | (with_reducible refine has_ov_other ?_ ?_; (focus (first | (with_reducible rfl) | omega | (simp; done) | (simp; omega)))) | (with_reducible assumption) | (with_reducible exact has_below hB (by assumption)))), by (repeat' (first | (with_reducible refine has_drew ?_) | (with_reducible refine has_drewN ?_) | (with_reducible refine has_new ?_; (first | (with_reducible rfl) | omega | (simp; done) | (simp; omega))) | (with_reducible refine has_ov_same ?_; (first | (with_reducible rfl) | omega | (simp; done) | (simp; omega))) | (with_reducible refine has_alloc ?_) | (with_reducible refine has_ov_other ?_ ?_; (focus (first | (with_reducible rfl) | omega | (simp; done) | (simp; omega)))) | (with_reducible assumption) | (with_reducible exact has_below hB (by assumption))))⟩
  case round =>
    obtain ⟨k, a0, a1, rfl, hk, hX, hY, hb, hp, hp2, hp3⟩ := hrel
    have HRW := Lib.hid (HR.out.below hb)
    have HX := Lib.hid hX; have HY := Lib.hid hY; have HB := Lib.hid hb; have HP := Lib.hid hp; have HP2 := Lib.hid hp2; have HP3 := Lib.hid hp3
    have oL2 : Old wr gL := HRW.out.zL
    have cp := hp.cells; have lp := hp.lt; have op : Old wr w.heap.size := lp
    have l10 := hp2.lt; have l11 := hp3.lt
    have hkI : (k : Int) < N := by omega
    have hk0 : (0 : Int) ≤ k := by omega
    have hzr := hb.size
    have HNr := Lib.hid hnear
    clear hX hY hb hp hp2 hnear
    rcases Nat.eq_zero_or_pos k with c | c
    · subst c
      have c11 := hp3.cells; have o11 : Old wr (w.heap.size + 1 + 1) := l11
      rw [← ov_self HP2.out]
      have z0 := l10
      clear hp3
      go_wp2_with fail
      refine bodyPost_ret (by simp [results, Try.results28, go_sem, z0]; try rfl) rfl ?_
      have e1 : (place24 l n).X = a0 := by rw [HX.out, place24_root]; simp only [stepP, plZ]; omega
      have e2 : (place24 l n).Y = a1 := by rw [HY.out, place24_root]; simp only [stepP, plZ]; omega
      exact ⟨by rw [e1, e2], below_ov HB.out (by omega) _ _⟩
    · have hkn : ¬ (k : Int) = 0 := by omega
      have hlt := pa24_lt l c
      have hkid := place24_kid l c
      have HK := Lib.hid hkid
      have q1 := HRW.out.par k hk
      clear hkid
      obtain ⟨q, hq⟩ : ∃ q, pa24 l k = q := ⟨_, rfl⟩
      have HQ := Lib.hid hq
      rw [hq] at q1 hlt
      clear hq
      have hqN : q < N := by omega
      have q2 := HRW.out.x q hqN; have q3 := HRW.out.y q hqN; have q4 := HRW.out.sc q hqN; have q5 := HRW.out.b0 q hqN; have q6 := HRW.out.b1 q hqN
      have hqI : (q : Int) < N := by omega
      have hq0 : (0 : Int) ≤ q := by omega
      have ol2 : Old wr gl := HRW.out.zl; have os2 : Old wr gs := HRW.out.zs; have ob2 : Old wr gb := HRW.out.zb
      have zl2 := HRW.out.zl; have zs2 := HRW.out.zs; have zb2 := HRW.out.zb
      have okq := hok q
      have okk := hok k
      have hx := okq.x; have hy := okq.y; have hb0 := okq.b0; have hb1 := okq.b1; have hkx := okk.x; have hky := okk.y
      unfold In32 at hx hy hb0 hb1 hkx hky
      have n1 := HNr.out n; have n2 := HNr.out k
      have hX := HX.out; have hY := HY.out
      have w1 : wrap64 (a0 + (nd24 l q).x) = a0 + (nd24 l q).x := wrap_mid (by omega)
      have w2 : wrap64 (a1 + (nd24 l q).y) = a1 + (nd24 l q).y := wrap_mid (by omega)
      have w3 : wrap64 (a0 + (nd24 l q).x - (nd24 l q).b0) = a0 + (nd24 l q).x - (nd24 l q).b0 := wrap_mid (by omega)
      have w4 : wrap64 (a1 + (nd24 l q).y - (nd24 l q).b1) = a1 + (nd24 l q).y - (nd24 l q).b1 := wrap_mid (by omega)
      clear hX hY n1 n2 hx hy hb0 hb1 hkx hky okq okk
      have hne5 : ¬ w.heap.size + 1 + 1 = w.heap.size := by omega
      have hgl : gl < w.heap.size := ll
      have hgs : gs < w.heap.size := HR.out.zs
      have hgb : gb < w.heap.size := HR.out.zb
      rw [← ov_self HP3.out]
      clear hp3
      go_upto_region 4 with fail
      refine region_phases (ph2 (w.heap.size + 1 + 1) _) [(0, 0, 0), (1, 0, 0), (2, 0, 0), (3, 0, 0), (4, 0, 0), (5, 0, 0), (6, 0, 0), (7, 0, 0), (8, 0, 0), (9, 0, 0), (10, 0, 1), (11, 0, 1), (12, 0, 1), (13, 0, 1), (14, 0, 1), (15, 0, 1), (16, 0, 0), (17, 1, 1), (18, 0, 1), (19, 1, 2)] (ph2_first _ _) (by kernel_rfl) (by kernel_rfl) (fun _ _ d _ _ h => by cases d <;> exact h) ?_
      iterate 10 (refine wpP_read (v := ?_) rfl (.inl ⟨by rfl, fun wx hbx => ?_⟩) ?_; rotate_left; (focus (obtain ⟨cx0, fx0, zx0⟩ := bk (show Below _ _ _ from hbx) (w.heap.size + 1 + 1) (by first | omega | (simp; done) | (simp; omega)); obtain ⟨cx1, fx1, zx1⟩ := bk (show Below _ _ _ from hbx) (gl) (by first | omega | (simp; done) | (simp; omega)); go_simp; (try go_bits); (try with_reducible rfl))); try simp only [Act.put, List.setIfInBounds_toArray, List.set_cons_zero, List.set_cons_succ])
      iterate 6 (refine wpP_read (v := ?_) rfl (.inl ⟨by rfl, fun wx hbx => ?_⟩) ?_; rotate_left; (focus (obtain ⟨cx0, fx0⟩ := buts_bk (show ButS _ _ _ _ from hbx) (b := gl) (by first | omega | (simp; done) | (simp; omega)) (by first | omega | (simp; done) | (simp; omega)); go_simp; (try go_bits); (try with_reducible rfl))); try simp only [Act.put, List.setIfInBounds_toArray, List.set_cons_zero, List.set_cons_succ])
      (refine wpP_read (v := ?_) rfl (.inl ⟨by rfl, fun wx hbx => ?_⟩) ?_; rotate_left; (focus (go_simp; (try go_bits); (try with_reducible rfl))); try simp only [Act.put, List.setIfInBounds_toArray, List.set_cons_zero, List.set_cons_succ])
      (refine wpP_make rfl (fun K hK => ?_); go_simp; refine hK _ _ (ph2_next ?_) ?_; (focus (first | exact ph2_ovd _ _ _ _ _ _ | exact ph2_ovdd _ _ _ _ _ _)); clear hK K; try simp only [Act.put, List.setIfInBounds_toArray, List.set_cons_zero, List.set_cons_succ])
      (refine wpP_read (v := ?_) rfl (.inl ⟨by rfl, fun wx hbx => ?_⟩) ?_; rotate_left; (focus (go_simp; (try go_bits); (try with_reducible rfl))); try simp only [Act.put, List.setIfInBounds_toArray, List.set_cons_zero, List.set_cons_succ])
      (refine wpP_make rfl (fun K hK => ?_); go_simp; refine hK _ _ (ph2_last) ?_; clear hK K; try simp only [Act.put, List.setIfInBounds_toArray, List.set_cons_zero, List.set_cons_succ])
      refine wpP_nil ?_
      have hkx : (place24 l k).X = (downP (nd24 l q) q (place24 l q)).X + (nd24 l k).x ∧ (place24 l k).Y = (downP (nd24 l q) q (place24 l q)).Y + (nd24 l k).y := by
        have := HK.out; rw [HQ.out] at this; rw [this]; exact ⟨rfl, rfl⟩
      have HKX := Lib.hid hkx
      clear hkx
      rcases hh : (nd24 l q).sc with _ | _
      · rw [hh] at q4
        go_wp2_with fail
        have hb := HB.out; have hp := HP.out; have hp2 := HP2.out; have hp3 := HP3.out
        refine ⟨⟨q, a0 + (nd24 l q).x, a1 + (nd24 l q).y, rfl, hqN, ?_, ?_, by (repeat' (first | (with_reducible exact Below.refl _ _) | (with_reducible assumption) | (with_reducible refine below_from_drew ?_) | (with_reducible refine Below.alloc ?_ ?_ _) | (with_reducible refine Below.drew ?_) | (with_reducible refine below_drewN ?_ _) | (with_reducible refine Below.setCell ?_ ?_ _) | (with_reducible refine below_via ?_ (by assumption) ?_) | (with_reducible refine below_ov ?_ ?_ _ _) | go_size)), by (repeat' (first | (with_reducible refine has_drew ?_) | (with_reducible refine has_drewN ?_) | (with_reducible refine has_new ?_; (first | (with_reducible rfl) | omega | (simp; done) | (simp; omega))) | (with_reducible refine has_ov_same ?_; (first | (with_reducible rfl) | omega | (simp; done) | (simp; omega))) | (with_reducible refine has_alloc ?_) | (with_reducible refine has_ov_other ?_ ?_; (focus (first | (with_reducible rfl) | omega | (simp; done) | (simp; omega)))) | (with_reducible assumption) | (with_reducible exact has_below hB (by assumption)))), by (repeat' (first | (with_reducible refine has_drew ?_) | (with_reducible refine has_drewN ?_) | (with_reducible refine has_new ?_; (first | (with_reducible rfl) | omega | (simp; done) | (simp; omega))) | (with_reducible refine has_ov_same ?_; (first | (with_reducible rfl) | omega | (simp; done) | (simp; omega))) | (with_reducible refine has_alloc ?_) | (with_reducible refine has_ov_other ?_ ?_; (focus (first | (with_reducible rfl) | omega | (simp; done) | (simp; omega)))) | (with_reducible assumption) | (with_reducible exact has_below hB (by assumption)))), by (repeat' (first | (with_reducible refine has_drew ?_) | (with_reducible refine has_drewN ?_) | (with_reducible refine has_new ?_; (first | (with_reducible rfl) | omega | (simp; done) | (simp; omega))) | (with_reducible refine has_ov_same ?_; (first | (with_reducible rfl) | omega | (simp; done) | (simp; omega))) | (with_reducible refine has_alloc ?_) | (with_reducible refine has_ov_other ?_ ?_; (focus (first | (with_reducible rfl) | omega | (simp; done) | (simp; omega)))) | (with_reducible assumption) | (with_reducible exact has_below hB (by assumption))))⟩, by simp only [intOf]; omega⟩
        · have h1 := HX.out; have h2 := HKX.out.1
          unfold downP at h2; rw [hh] at h2; simp only [Bool.false_eq_true, if_false] at h2; omega
        · have h1 := HY.out; have h2 := HKX.out.2
          unfold downP at h2; rw [hh] at h2; simp only [Bool.false_eq_true, if_false] at h2; omega
      · rw [hh] at q4
        go_upto_region 6 with fail
        refine region_phases (ph2 (w.heap.size + 1 + 1) _) [(0, 0, 0), (1, 0, 0), (2, 0, 0), (3, 0, 0), (4, 0, 0), (5, 0, 0), (6, 0, 0), (7, 0, 0), (8, 0, 0), (9, 0, 0), (10, 0, 1), (11, 0, 1), (12, 0, 1), (13, 0, 1), (14, 0, 1), (15, 0, 1), (16, 0, 0), (17, 1, 1), (18, 0, 1), (19, 1, 2)] (ph2_first _ _) (by kernel_rfl) (by kernel_rfl) (fun _ _ d _ _ h => by cases d <;> exact h) ?_
        iterate 10 (refine wpP_read (v := ?_) rfl (.inl ⟨by rfl, fun wx hbx => ?_⟩) ?_; rotate_left; (focus (obtain ⟨cx0, fx0, zx0⟩ := bk (show Below _ _ _ from hbx) (w.heap.size + 1 + 1) (by first | omega | (simp; done) | (simp; omega)); obtain ⟨cx1, fx1, zx1⟩ := bk (show Below _ _ _ from hbx) (gb) (by first | omega | (simp; done) | (simp; omega)); go_simp; (try go_bits); (try with_reducible rfl))); try simp only [Act.put, List.setIfInBounds_toArray, List.set_cons_zero, List.set_cons_succ])
        iterate 6 (refine wpP_read (v := ?_) rfl (.inl ⟨by rfl, fun wx hbx => ?_⟩) ?_; rotate_left; (focus (obtain ⟨cx0, fx0⟩ := buts_bk (show ButS _ _ _ _ from hbx) (b := gb) (by first | omega | (simp; done) | (simp; omega)) (by first | omega | (simp; done) | (simp; omega)); go_simp; (try go_bits); (try with_reducible rfl))); try simp only [Act.put, List.setIfInBounds_toArray, List.set_cons_zero, List.set_cons_succ])
        (refine wpP_read (v := ?_) rfl (.inl ⟨by rfl, fun wx hbx => ?_⟩) ?_; rotate_left; (focus (go_simp; (try go_bits); (try with_reducible rfl))); try simp only [Act.put, List.setIfInBounds_toArray, List.set_cons_zero, List.set_cons_succ])
        (refine wpP_make rfl (fun K hK => ?_); go_simp; refine hK _ _ (ph2_next ?_) ?_; (focus (first | exact ph2_ovd _ _ _ _ _ _ | exact ph2_ovdd _ _ _ _ _ _)); clear hK K; try simp only [Act.put, List.setIfInBounds_toArray, List.set_cons_zero, List.set_cons_succ])
        (refine wpP_read (v := ?_) rfl (.inl ⟨by rfl, fun wx hbx => ?_⟩) ?_; rotate_left; (focus (go_simp; (try go_bits); (try with_reducible rfl))); try simp only [Act.put, List.setIfInBounds_toArray, List.set_cons_zero, List.set_cons_succ])
        (refine wpP_make rfl (fun K hK => ?_); go_simp; refine hK _ _ (ph2_last) ?_; clear hK K; try simp only [Act.put, List.setIfInBounds_toArray, List.set_cons_zero, List.set_cons_succ])
        refine wpP_nil ?_
        go_wp2_with fail
        have hb := HB.out; have hp := HP.out; have hp2 := HP2.out; have hp3 := HP3.out
        refine ⟨⟨q, a0 + (nd24 l q).x - (nd24 l q).b0, a1 + (nd24 l q).y - (nd24 l q).b1, rfl, hqN, ?_, ?_, by (repeat' (first | (with_reducible exact Below.refl _ _) | (with_reducible assumption) | (with_reducible refine below_from_drew ?_) | (with_reducible refine Below.alloc ?_ ?_ _) | (with_reducible refine Below.drew ?_) | (with_reducible refine below_drewN ?_ _) | (with_reducible refine Below.setCell ?_ ?_ _) | (with_reducible refine below_via ?_ (by assumption) ?_) | (with_reducible refine below_ov ?_ ?_ _ _) | go_size)), by (repeat' (first | (with_reducible refine has_drew ?_) | (with_reducible refine has_drewN ?_) | (with_reducible refine has_new ?_; (first | (with_reducible rfl) | omega | (simp; done) | (simp; omega))) | (with_reducible refine has_ov_same ?_; (first | (with_reducible rfl) | omega | (simp; done) | (simp; omega))) | (with_reducible refine has_alloc ?_) | (with_reducible refine has_ov_other ?_ ?_; (focus (first | (with_reducible rfl) | omega | (simp; done) | (simp; omega)))) | (with_reducible assumption) | (with_reducible exact has_below hB (by assumption)))), by (repeat' (first | (with_reducible refine has_drew ?_) | (with_reducible refine has_drewN ?_) | (with_reducible refine has_new ?_; (first | (with_reducible rfl) | omega | (simp; done) | (simp; omega))) | (with_reducible refine has_ov_same ?_; (first | (with_reducible rfl) | omega | (simp; done) | (simp; omega))) | (with_reducible refine has_alloc ?_) | (with_reducible refine has_ov_other ?_ ?_; (focus (first | (with_reducible rfl) | omega | (simp; done) | (simp; omega)))) | (with_reducible assumption) | (with_reducible exact has_below hB (by assumption)))), by (repeat' (first | (with_reducible refine has_drew ?_) | (with_reducible refine has_drewN ?_) | (with_reducible refine has_new ?_; (first | (with_reducible rfl) | omega | (simp; done) | (simp; omega))) | (with_reducible refine has_ov_same ?_; (first | (with_reducible rfl) | omega | (simp; done) | (simp; omega))) | (with_reducible refine has_alloc ?_) | (with_reducible refine has_ov_other ?_ ?_; (focus (first | (with_reducible rfl) | omega | (simp; done) | (simp; omega)))) | (with_reducible assumption) | (with_reducible exact has_below hB (by assumption))))⟩, by simp only [intOf]; omega⟩
        · have h1 := HX.out; have h2 := HKX.out.1
          unfold downP at h2; rw [hh] at h2; simp only [if_true] at h2; omega
        · have h1 := HY.out; have h2 := HKX.out.2
          unfold downP at h2; rw [hh] at h2; simp only [if_true] at h2; omega
end Go.Proofs.Ytjcbphhemmdnjaa
namespace Go.Proofs.Ytjcbphhemmdnjaa
open Go Go.RowKit
set_option linter.unusedSimpArgs false
set_option linter.unusedVariables false
-- below_from_drew
attribute [local go_sem] ov_cell_same ov_cell_other ov_frozen_same ov_frozen_other ov_size ov_setCell_same ov_setCell_other cell_alloc_old frozen_alloc_old setCell_alloc_old old_alloc old_ov old_drew old_drewN old_setCell
attribute [local go_sem ↓] run_max2 run_min2
/-- Where the layer of a scrolled box begins. -/
def bgX (l : List N24) (n : Nat) : Int := (place24 l n).X + ((nd24 l n).bd + 3) - (nd24 l n).b0
def bgY (l : List N24) (n : Nat) : Int := (place24 l n).Y + (nd24 l n).bd - (nd24 l n).b1
set_option maxRecDepth 100000 in
set_option maxHeartbeats 2000000 in
theorem rbegins_any (gL gl gs gb N cL cl cS cb n : Nat) (l : List N24) (w : World) (hN : N ≤ 16) (hn : n < N) (hok : ∀ i, Ok24 (nd24 l i)) (h : Rd24 w l N gL gl gs gb) :
    Calls Try.prog 30 #[.agg #[.slice (some ⟨gL, 0, none⟩) N cL, .int .i64 0, .int .i64 0], .slice (some ⟨gl, 0, none⟩) N cl, .slice (some ⟨gs, 0, none⟩) N cS, .slice (some ⟨gb, 0, none⟩) N cb, .int .i64 n] w fun e w' => e = .returned (.agg #[.int .i64 (bgX l n), .int .i64 (bgY l n)]) ∧ Below w.heap.size w w' := by
  have HR := Lib.hid h
  have oL : Old w gL := h.zL
  have ol : Old w gl := h.zl
  have ob : Old w gb := h.zb
  have ll := h.zl
  have lb := h.zb
  have q2 := h.t n hn; have q3 := h.e n hn; have q5 := h.b0 n hn; have q6 := h.b1 n hn
  have hnI : (n : Int) < N := by omega
  have hn0 : (0 : Int) ≤ n := by omega
  have okq := hok n
  have hb0 := okq.b0; have hb1 := okq.b1; have hbd := okq.bd
  unfold In32 at hb0 hb1
  have n1 := place24_near hok n
  have w1 : wrap64 ((place24 l n).X + ((nd24 l n).bd + 3)) = (place24 l n).X + ((nd24 l n).bd + 3) := wrap_mid (by omega)
  have w2 : wrap64 ((place24 l n).Y + (nd24 l n).bd) = (place24 l n).Y + (nd24 l n).bd := wrap_mid (by omega)
  have w3 : wrap64 ((place24 l n).X + ((nd24 l n).bd + 3) - (nd24 l n).b0) = bgX l n := wrap_mid (by omega)
  have w4 : wrap64 ((place24 l n).Y + (nd24 l n).bd - (nd24 l n).b1) = bgY l n := wrap_mid (by omega)
  clear n1 hb0 hb1 hbd okq h
  go_enter Try.func30, Try.ntmps30
  go_wp2_with ((go_at_call 28; (with_reducible refine (rat24_any gL gl gs gb N cL cl cS cb n l _ hN hn hok (HR.out.below (by (repeat' (first | (with_reducible exact Below.refl _ _) | (with_reducible assumption) | (with_reducible refine below_from_drew ?_) | (with_reducible refine Below.alloc ?_ ?_ _) | (with_reducible refine Below.drew ?_) | (with_reducible refine below_drewN ?_ _) | (with_reducible refine Below.setCell ?_ ?_ _) | (with_reducible refine below_via ?_ (by assumption) ?_) | (with_reducible refine below_ov ?_ ?_ _ _) | go_size))))).mono ?_); rintro e w1 ⟨rfl, hb⟩; refine Exists.elim (after2 (w := w) (b0 := w.heap.size) (cs0 := ?_) (T0 := ?_) (b1 := w.heap.size + 1) (cs1 := ?_) (T1 := ?_) hb ?_ ?_ ?_) ?_; rotate_left 4; (focus ((repeat' (first | (with_reducible exact Below.refl _ _) | (with_reducible assumption) | (with_reducible refine below_from_drew ?_) | (with_reducible refine Below.alloc ?_ ?_ _) | (with_reducible refine Below.drew ?_) | (with_reducible refine below_drewN ?_ _) | (with_reducible refine Below.setCell ?_ ?_ _) | (with_reducible refine below_via ?_ (by assumption) ?_) | (with_reducible refine below_ov ?_ ?_ _ _) | go_size)); done)); (focus ((repeat' (first | (with_reducible refine has_drew ?_) | (with_reducible refine has_drewN ?_) | (with_reducible refine has_new ?_; (first | (with_reducible rfl) | omega | (simp; done) | (simp; omega))) | (with_reducible refine has_ov_same ?_; (first | (with_reducible rfl) | omega | (simp; done) | (simp; omega))) | (with_reducible refine has_alloc ?_) | (with_reducible refine has_ov_other ?_ ?_; (focus (first | (with_reducible rfl) | omega | (simp; done) | (simp; omega)))) | (with_reducible assumption) | (with_reducible exact has_below hB (by assumption)))); done)); (focus ((repeat' (first | (with_reducible refine has_drew ?_) | (with_reducible refine has_drewN ?_) | (with_reducible refine has_new ?_; (first | (with_reducible rfl) | omega | (simp; done) | (simp; omega))) | (with_reducible refine has_ov_same ?_; (first | (with_reducible rfl) | omega | (simp; done) | (simp; omega))) | (with_reducible refine has_alloc ?_) | (with_reducible refine has_ov_other ?_ ?_; (focus (first | (with_reducible rfl) | omega | (simp; done) | (simp; omega)))) | (with_reducible assumption) | (with_reducible exact has_below hB (by assumption)))); done)); rintro u ⟨rfl, hB, hz, z0, o0, z1, o1⟩; (try simp only [World.size_alloc, World.size_setCell, World.size_drew, ov_size] at hz)))
  have l3 := hB.size
  have r2 := (hB.cell (p := ⟨gl, _, none⟩) ll).trans q2; have r3 := (hB.cell (p := ⟨gl, _, none⟩) ll).trans q3; have r5 := (hB.cell (p := ⟨gb, _, none⟩) lb).trans q5; have r6 := (hB.cell (p := ⟨gb, _, none⟩) lb).trans q6
  have hgl2 : gl < u.heap.size := by omega
  have hgb2 : gb < u.heap.size := by omega
  have ol2 : Old u gl := hgl2
  have ob2 : Old u gb := hgb2
  have e1 : ¬ gl = w.heap.size := by omega
  have e2 : ¬ gl = w.heap.size + 1 := by omega
  have e3 : ¬ gb = w.heap.size := by omega
  have e4 : ¬ gb = w.heap.size + 1 := by omega
  refine region_ord [(0, 0), (1, 0), (2, 0), (3, 0), (4, 0), (5, 0), (6, 0), (7, 0), (8, 0), (9, 0), (10, 0), (11, 0), (12, 0), (13, 0), (14, 0), (15, 0), (16, 0), (17, 0), (18, 0), (19, 0), (20, 0), (21, 0), (22, 0), (23, 0), (24, 0), (25, 0), (26, 0), (27, 0), (28, 0), (29, 0), (30, 0), (31, 2)] (by kernel_rfl) (by kernel_rfl) (fun _ _ d _ _ h => by cases d <;> exact h) (fun hS => ?_)
  (refine wpG_read (v := ?_) rfl (.inl ⟨by rfl, fun wx hbx => ?_⟩) ?_; rotate_left; (focus (obtain ⟨cx0, fx0, zx0⟩ := bk hbx (u.heap.size) (by first | omega | (simp; done) | (simp; omega)); obtain ⟨cx1, fx1, zx1⟩ := bk hbx (gl) (by first | omega | (simp; done) | (simp; omega)); obtain ⟨cx2, fx2, zx2⟩ := bk hbx (gb) (by first | omega | (simp; done) | (simp; omega)); go_simp; (try go_bits); (try with_reducible rfl))); try simp only [Act.put, List.setIfInBounds_toArray, List.set_cons_zero, List.set_cons_succ])
  (refine wpG_read (v := ?_) rfl (.inl ⟨by rfl, fun wx hbx => ?_⟩) ?_; rotate_left; (focus (obtain ⟨cx0, fx0, zx0⟩ := bk hbx (u.heap.size) (by first | omega | (simp; done) | (simp; omega)); obtain ⟨cx1, fx1, zx1⟩ := bk hbx (gl) (by first | omega | (simp; done) | (simp; omega)); obtain ⟨cx2, fx2, zx2⟩ := bk hbx (gb) (by first | omega | (simp; done) | (simp; omega)); go_simp; (try go_bits); (try with_reducible rfl))); try simp only [Act.put, List.setIfInBounds_toArray, List.set_cons_zero, List.set_cons_succ])
  (refine wpG_read (v := ?_) rfl (.inl ⟨by rfl, fun wx hbx => ?_⟩) ?_; rotate_left; (focus (obtain ⟨cx0, fx0, zx0⟩ := bk hbx (u.heap.size) (by first | omega | (simp; done) | (simp; omega)); obtain ⟨cx1, fx1, zx1⟩ := bk hbx (gl) (by first | omega | (simp; done) | (simp; omega)); obtain ⟨cx2, fx2, zx2⟩ := bk hbx (gb) (by first | omega | (simp; done) | (simp; omega)); go_simp; (try go_bits); (try with_reducible rfl))); try simp only [Act.put, List.setIfInBounds_toArray, List.set_cons_zero, List.set_cons_succ])
  (refine wpG_read (v := ?_) rfl (.inl ⟨by rfl, fun wx hbx => ?_⟩) ?_; rotate_left; (focus (obtain ⟨cx0, fx0, zx0⟩ := bk hbx (u.heap.size) (by first | omega | (simp; done) | (simp; omega)); obtain ⟨cx1, fx1, zx1⟩ := bk hbx (gl) (by first | omega | (simp; done) | (simp; omega)); obtain ⟨cx2, fx2, zx2⟩ := bk hbx (gb) (by first | omega | (simp; done) | (simp; omega)); go_simp; (try go_bits); (try with_reducible rfl))); try simp only [Act.put, List.setIfInBounds_toArray, List.set_cons_zero, List.set_cons_succ])
  (refine wpG_read (v := ?_) rfl (.inl ⟨by rfl, fun wx hbx => ?_⟩) ?_; rotate_left; (focus (obtain ⟨cx0, fx0, zx0⟩ := bk hbx (u.heap.size) (by first | omega | (simp; done) | (simp; omega)); obtain ⟨cx1, fx1, zx1⟩ := bk hbx (gl) (by first | omega | (simp; done) | (simp; omega)); obtain ⟨cx2, fx2, zx2⟩ := bk hbx (gb) (by first | omega | (simp; done) | (simp; omega)); go_simp; (try go_bits); (try with_reducible rfl))); try simp only [Act.put, List.setIfInBounds_toArray, List.set_cons_zero, List.set_cons_succ])
  (refine wpG_read (v := ?_) rfl (.inl ⟨by rfl, fun wx hbx => ?_⟩) ?_; rotate_left; (focus (obtain ⟨cx0, fx0, zx0⟩ := bk hbx (u.heap.size) (by first | omega | (simp; done) | (simp; omega)); obtain ⟨cx1, fx1, zx1⟩ := bk hbx (gl) (by first | omega | (simp; done) | (simp; omega)); obtain ⟨cx2, fx2, zx2⟩ := bk hbx (gb) (by first | omega | (simp; done) | (simp; omega)); go_simp; (try go_bits); (try with_reducible rfl))); try simp only [Act.put, List.setIfInBounds_toArray, List.set_cons_zero, List.set_cons_succ])
  (refine wpG_read (v := ?_) rfl (.inl ⟨by rfl, fun wx hbx => ?_⟩) ?_; rotate_left; (focus (obtain ⟨cx0, fx0, zx0⟩ := bk hbx (u.heap.size) (by first | omega | (simp; done) | (simp; omega)); obtain ⟨cx1, fx1, zx1⟩ := bk hbx (gl) (by first | omega | (simp; done) | (simp; omega)); obtain ⟨cx2, fx2, zx2⟩ := bk hbx (gb) (by first | omega | (simp; done) | (simp; omega)); go_simp; (try go_bits); (try with_reducible rfl))); try simp only [Act.put, List.setIfInBounds_toArray, List.set_cons_zero, List.set_cons_succ])
  (refine wpG_read (v := ?_) rfl (.inl ⟨by rfl, fun wx hbx => ?_⟩) ?_; rotate_left; (focus (obtain ⟨cx0, fx0, zx0⟩ := bk hbx (u.heap.size) (by first | omega | (simp; done) | (simp; omega)); obtain ⟨cx1, fx1, zx1⟩ := bk hbx (gl) (by first | omega | (simp; done) | (simp; omega)); obtain ⟨cx2, fx2, zx2⟩ := bk hbx (gb) (by first | omega | (simp; done) | (simp; omega)); go_simp; (try go_bits); (try with_reducible rfl))); try simp only [Act.put, List.setIfInBounds_toArray, List.set_cons_zero, List.set_cons_succ])
  (refine wpG_read (v := ?_) rfl (.inl ⟨by rfl, fun wx hbx => ?_⟩) ?_; rotate_left; (focus (obtain ⟨cx0, fx0, zx0⟩ := bk hbx (u.heap.size) (by first | omega | (simp; done) | (simp; omega)); obtain ⟨cx1, fx1, zx1⟩ := bk hbx (gl) (by first | omega | (simp; done) | (simp; omega)); obtain ⟨cx2, fx2, zx2⟩ := bk hbx (gb) (by first | omega | (simp; done) | (simp; omega)); go_simp; (try go_bits); (try with_reducible rfl))); try simp only [Act.put, List.setIfInBounds_toArray, List.set_cons_zero, List.set_cons_succ])
  (refine wpG_read (v := ?_) rfl (.inl ⟨by rfl, fun wx hbx => ?_⟩) ?_; rotate_left; (focus (obtain ⟨cx0, fx0, zx0⟩ := bk hbx (u.heap.size) (by first | omega | (simp; done) | (simp; omega)); obtain ⟨cx1, fx1, zx1⟩ := bk hbx (gl) (by first | omega | (simp; done) | (simp; omega)); obtain ⟨cx2, fx2, zx2⟩ := bk hbx (gb) (by first | omega | (simp; done) | (simp; omega)); go_simp; (try go_bits); (try with_reducible rfl))); try simp only [Act.put, List.setIfInBounds_toArray, List.set_cons_zero, List.set_cons_succ])
  (refine wpG_read (v := ?_) rfl (.inl ⟨by rfl, fun wx hbx => ?_⟩) ?_; rotate_left; (focus (obtain ⟨cx0, fx0, zx0⟩ := bk hbx (u.heap.size) (by first | omega | (simp; done) | (simp; omega)); obtain ⟨cx1, fx1, zx1⟩ := bk hbx (gl) (by first | omega | (simp; done) | (simp; omega)); obtain ⟨cx2, fx2, zx2⟩ := bk hbx (gb) (by first | omega | (simp; done) | (simp; omega)); go_simp; (try go_bits); (try with_reducible rfl))); try simp only [Act.put, List.setIfInBounds_toArray, List.set_cons_zero, List.set_cons_succ])
  (refine wpG_read (v := ?_) rfl (.inl ⟨by rfl, fun wx hbx => ?_⟩) ?_; rotate_left; (focus (obtain ⟨cx0, fx0, zx0⟩ := bk hbx (u.heap.size) (by first | omega | (simp; done) | (simp; omega)); obtain ⟨cx1, fx1, zx1⟩ := bk hbx (gl) (by first | omega | (simp; done) | (simp; omega)); obtain ⟨cx2, fx2, zx2⟩ := bk hbx (gb) (by first | omega | (simp; done) | (simp; omega)); go_simp; (try go_bits); (try with_reducible rfl))); try simp only [Act.put, List.setIfInBounds_toArray, List.set_cons_zero, List.set_cons_succ])
  (refine wpG_read (v := ?_) rfl (.inl ⟨by rfl, fun wx hbx => ?_⟩) ?_; rotate_left; (focus (obtain ⟨cx0, fx0, zx0⟩ := bk hbx (u.heap.size) (by first | omega | (simp; done) | (simp; omega)); obtain ⟨cx1, fx1, zx1⟩ := bk hbx (gl) (by first | omega | (simp; done) | (simp; omega)); obtain ⟨cx2, fx2, zx2⟩ := bk hbx (gb) (by first | omega | (simp; done) | (simp; omega)); go_simp; (try go_bits); (try with_reducible rfl))); try simp only [Act.put, List.setIfInBounds_toArray, List.set_cons_zero, List.set_cons_succ])
  (refine wpG_read (v := ?_) rfl (.inl ⟨by rfl, fun wx hbx => ?_⟩) ?_; rotate_left; (focus (obtain ⟨cx0, fx0, zx0⟩ := bk hbx (u.heap.size) (by first | omega | (simp; done) | (simp; omega)); obtain ⟨cx1, fx1, zx1⟩ := bk hbx (gl) (by first | omega | (simp; done) | (simp; omega)); obtain ⟨cx2, fx2, zx2⟩ := bk hbx (gb) (by first | omega | (simp; done) | (simp; omega)); go_simp; (try go_bits); (try with_reducible rfl))); try simp only [Act.put, List.setIfInBounds_toArray, List.set_cons_zero, List.set_cons_succ])
  (refine wpG_read (v := ?_) rfl (.inl ⟨by rfl, fun wx hbx => ?_⟩) ?_; rotate_left; (focus (obtain ⟨cx0, fx0, zx0⟩ := bk hbx (u.heap.size) (by first | omega | (simp; done) | (simp; omega)); obtain ⟨cx1, fx1, zx1⟩ := bk hbx (gl) (by first | omega | (simp; done) | (simp; omega)); obtain ⟨cx2, fx2, zx2⟩ := bk hbx (gb) (by first | omega | (simp; done) | (simp; omega)); go_simp; (try go_bits); (try with_reducible rfl))); try simp only [Act.put, List.setIfInBounds_toArray, List.set_cons_zero, List.set_cons_succ])
  (refine wpG_read (v := ?_) rfl (.inl ⟨by rfl, fun wx hbx => ?_⟩) ?_; rotate_left; (focus (obtain ⟨cx0, fx0, zx0⟩ := bk hbx (u.heap.size) (by first | omega | (simp; done) | (simp; omega)); obtain ⟨cx1, fx1, zx1⟩ := bk hbx (gl) (by first | omega | (simp; done) | (simp; omega)); obtain ⟨cx2, fx2, zx2⟩ := bk hbx (gb) (by first | omega | (simp; done) | (simp; omega)); go_simp; (try go_bits); (try with_reducible rfl))); try simp only [Act.put, List.setIfInBounds_toArray, List.set_cons_zero, List.set_cons_succ])
  (refine wpG_read (v := ?_) rfl (.inl ⟨by rfl, fun wx hbx => ?_⟩) ?_; rotate_left; (focus (obtain ⟨cx0, fx0, zx0⟩ := bk hbx (u.heap.size) (by first | omega | (simp; done) | (simp; omega)); obtain ⟨cx1, fx1, zx1⟩ := bk hbx (gl) (by first | omega | (simp; done) | (simp; omega)); obtain ⟨cx2, fx2, zx2⟩ := bk hbx (gb) (by first | omega | (simp; done) | (simp; omega)); go_simp; (try go_bits); (try with_reducible rfl))); try simp only [Act.put, List.setIfInBounds_toArray, List.set_cons_zero, List.set_cons_succ])
  (refine wpG_read (v := ?_) rfl (.inl ⟨by rfl, fun wx hbx => ?_⟩) ?_; rotate_left; (focus (obtain ⟨cx0, fx0, zx0⟩ := bk hbx (u.heap.size) (by first | omega | (simp; done) | (simp; omega)); obtain ⟨cx1, fx1, zx1⟩ := bk hbx (gl) (by first | omega | (simp; done) | (simp; omega)); obtain ⟨cx2, fx2, zx2⟩ := bk hbx (gb) (by first | omega | (simp; done) | (simp; omega)); go_simp; (try go_bits); (try with_reducible rfl))); try simp only [Act.put, List.setIfInBounds_toArray, List.set_cons_zero, List.set_cons_succ])
  (refine wpG_read (v := ?_) rfl (.inl ⟨by rfl, fun wx hbx => ?_⟩) ?_; rotate_left; (focus (obtain ⟨cx0, fx0, zx0⟩ := bk hbx (u.heap.size) (by first | omega | (simp; done) | (simp; omega)); obtain ⟨cx1, fx1, zx1⟩ := bk hbx (gl) (by first | omega | (simp; done) | (simp; omega)); obtain ⟨cx2, fx2, zx2⟩ := bk hbx (gb) (by first | omega | (simp; done) | (simp; omega)); go_simp; (try go_bits); (try with_reducible rfl))); try simp only [Act.put, List.setIfInBounds_toArray, List.set_cons_zero, List.set_cons_succ])
  (refine wpG_read (v := ?_) rfl (.inl ⟨by rfl, fun wx hbx => ?_⟩) ?_; rotate_left; (focus (obtain ⟨cx0, fx0, zx0⟩ := bk hbx (u.heap.size) (by first | omega | (simp; done) | (simp; omega)); obtain ⟨cx1, fx1, zx1⟩ := bk hbx (gl) (by first | omega | (simp; done) | (simp; omega)); obtain ⟨cx2, fx2, zx2⟩ := bk hbx (gb) (by first | omega | (simp; done) | (simp; omega)); go_simp; (try go_bits); (try with_reducible rfl))); try simp only [Act.put, List.setIfInBounds_toArray, List.set_cons_zero, List.set_cons_succ])
  (refine wpG_read (v := ?_) rfl (.inl ⟨by rfl, fun wx hbx => ?_⟩) ?_; rotate_left; (focus (obtain ⟨cx0, fx0, zx0⟩ := bk hbx (u.heap.size) (by first | omega | (simp; done) | (simp; omega)); obtain ⟨cx1, fx1, zx1⟩ := bk hbx (gl) (by first | omega | (simp; done) | (simp; omega)); obtain ⟨cx2, fx2, zx2⟩ := bk hbx (gb) (by first | omega | (simp; done) | (simp; omega)); go_simp; (try go_bits); (try with_reducible rfl))); try simp only [Act.put, List.setIfInBounds_toArray, List.set_cons_zero, List.set_cons_succ])
  (refine wpG_read (v := ?_) rfl (.inl ⟨by rfl, fun wx hbx => ?_⟩) ?_; rotate_left; (focus (obtain ⟨cx0, fx0, zx0⟩ := bk hbx (u.heap.size) (by first | omega | (simp; done) | (simp; omega)); obtain ⟨cx1, fx1, zx1⟩ := bk hbx (gl) (by first | omega | (simp; done) | (simp; omega)); obtain ⟨cx2, fx2, zx2⟩ := bk hbx (gb) (by first | omega | (simp; done) | (simp; omega)); go_simp; (try go_bits); (try with_reducible rfl))); try simp only [Act.put, List.setIfInBounds_toArray, List.set_cons_zero, List.set_cons_succ])
  (refine wpG_read (v := ?_) rfl (.inl ⟨by rfl, fun wx hbx => ?_⟩) ?_; rotate_left; (focus (obtain ⟨cx0, fx0, zx0⟩ := bk hbx (u.heap.size) (by first | omega | (simp; done) | (simp; omega)); obtain ⟨cx1, fx1, zx1⟩ := bk hbx (gl) (by first | omega | (simp; done) | (simp; omega)); obtain ⟨cx2, fx2, zx2⟩ := bk hbx (gb) (by first | omega | (simp; done) | (simp; omega)); go_simp; (try go_bits); (try with_reducible rfl))); try simp only [Act.put, List.setIfInBounds_toArray, List.set_cons_zero, List.set_cons_succ])
  (refine wpG_read (v := ?_) rfl (.inl ⟨by rfl, fun wx hbx => ?_⟩) ?_; rotate_left; (focus (obtain ⟨cx0, fx0, zx0⟩ := bk hbx (u.heap.size) (by first | omega | (simp; done) | (simp; omega)); obtain ⟨cx1, fx1, zx1⟩ := bk hbx (gl) (by first | omega | (simp; done) | (simp; omega)); obtain ⟨cx2, fx2, zx2⟩ := bk hbx (gb) (by first | omega | (simp; done) | (simp; omega)); go_simp; (try go_bits); (try with_reducible rfl))); try simp only [Act.put, List.setIfInBounds_toArray, List.set_cons_zero, List.set_cons_succ])
  (refine wpG_read (v := ?_) rfl (.inl ⟨by rfl, fun wx hbx => ?_⟩) ?_; rotate_left; (focus (obtain ⟨cx0, fx0, zx0⟩ := bk hbx (u.heap.size) (by first | omega | (simp; done) | (simp; omega)); obtain ⟨cx1, fx1, zx1⟩ := bk hbx (gl) (by first | omega | (simp; done) | (simp; omega)); obtain ⟨cx2, fx2, zx2⟩ := bk hbx (gb) (by first | omega | (simp; done) | (simp; omega)); go_simp; (try go_bits); (try with_reducible rfl))); try simp only [Act.put, List.setIfInBounds_toArray, List.set_cons_zero, List.set_cons_succ])
  (refine wpG_read (v := ?_) rfl (.inl ⟨by rfl, fun wx hbx => ?_⟩) ?_; rotate_left; (focus (obtain ⟨cx0, fx0, zx0⟩ := bk hbx (u.heap.size) (by first | omega | (simp; done) | (simp; omega)); obtain ⟨cx1, fx1, zx1⟩ := bk hbx (gl) (by first | omega | (simp; done) | (simp; omega)); obtain ⟨cx2, fx2, zx2⟩ := bk hbx (gb) (by first | omega | (simp; done) | (simp; omega)); go_simp; (try go_bits); (try with_reducible rfl))); try simp only [Act.put, List.setIfInBounds_toArray, List.set_cons_zero, List.set_cons_succ])
  (refine wpG_read (v := ?_) rfl (.inl ⟨by rfl, fun wx hbx => ?_⟩) ?_; rotate_left; (focus (obtain ⟨cx0, fx0, zx0⟩ := bk hbx (u.heap.size) (by first | omega | (simp; done) | (simp; omega)); obtain ⟨cx1, fx1, zx1⟩ := bk hbx (gl) (by first | omega | (simp; done) | (simp; omega)); obtain ⟨cx2, fx2, zx2⟩ := bk hbx (gb) (by first | omega | (simp; done) | (simp; omega)); go_simp; (try go_bits); (try with_reducible rfl))); try simp only [Act.put, List.setIfInBounds_toArray, List.set_cons_zero, List.set_cons_succ])
  (refine wpG_read (v := ?_) rfl (.inl ⟨by rfl, fun wx hbx => ?_⟩) ?_; rotate_left; (focus (obtain ⟨cx0, fx0, zx0⟩ := bk hbx (u.heap.size) (by first | omega | (simp; done) | (simp; omega)); obtain ⟨cx1, fx1, zx1⟩ := bk hbx (gl) (by first | omega | (simp; done) | (simp; omega)); obtain ⟨cx2, fx2, zx2⟩ := bk hbx (gb) (by first | omega | (simp; done) | (simp; omega)); go_simp; (try go_bits); (try with_reducible rfl))); try simp only [Act.put, List.setIfInBounds_toArray, List.set_cons_zero, List.set_cons_succ])
  (refine wpG_read (v := ?_) rfl (.inl ⟨by rfl, fun wx hbx => ?_⟩) ?_; rotate_left; (focus (obtain ⟨cx0, fx0, zx0⟩ := bk hbx (u.heap.size) (by first | omega | (simp; done) | (simp; omega)); obtain ⟨cx1, fx1, zx1⟩ := bk hbx (gl) (by first | omega | (simp; done) | (simp; omega)); obtain ⟨cx2, fx2, zx2⟩ := bk hbx (gb) (by first | omega | (simp; done) | (simp; omega)); go_simp; (try go_bits); (try with_reducible rfl))); try simp only [Act.put, List.setIfInBounds_toArray, List.set_cons_zero, List.set_cons_succ])
  (refine wpG_read (v := ?_) rfl (.inl ⟨by rfl, fun wx hbx => ?_⟩) ?_; rotate_left; (focus (obtain ⟨cx0, fx0, zx0⟩ := bk hbx (u.heap.size) (by first | omega | (simp; done) | (simp; omega)); obtain ⟨cx1, fx1, zx1⟩ := bk hbx (gl) (by first | omega | (simp; done) | (simp; omega)); obtain ⟨cx2, fx2, zx2⟩ := bk hbx (gb) (by first | omega | (simp; done) | (simp; omega)); go_simp; (try go_bits); (try with_reducible rfl))); try simp only [Act.put, List.setIfInBounds_toArray, List.set_cons_zero, List.set_cons_succ])
  (refine wpG_read (v := ?_) rfl (.inl ⟨by rfl, fun wx hbx => ?_⟩) ?_; rotate_left; (focus (obtain ⟨cx0, fx0, zx0⟩ := bk hbx (u.heap.size) (by first | omega | (simp; done) | (simp; omega)); obtain ⟨cx1, fx1, zx1⟩ := bk hbx (gl) (by first | omega | (simp; done) | (simp; omega)); obtain ⟨cx2, fx2, zx2⟩ := bk hbx (gb) (by first | omega | (simp; done) | (simp; omega)); go_simp; (try go_bits); (try with_reducible rfl))); try simp only [Act.put, List.setIfInBounds_toArray, List.set_cons_zero, List.set_cons_succ])
  (refine wpG_late rfl (fun K hK => ?_); go_simp; (try simp only []); (try simp only []); refine hK _ _ ?_; clear hK K; try simp only [Act.put, List.setIfInBounds_toArray, List.set_cons_zero, List.set_cons_succ])
  refine wpG_nil ?_
  go_wp2_with fail
  refine bodyPost_ret (by simp [results, Try.results30, go_sem, z0, z1]; try rfl) rfl ?_
  exact ⟨rfl, by (repeat' (first | (with_reducible exact Below.refl _ _) | (with_reducible assumption) | (with_reducible refine below_from_drew ?_) | (with_reducible refine Below.alloc ?_ ?_ _) | (with_reducible refine Below.drew ?_) | (with_reducible refine below_drewN ?_ _) | (with_reducible refine Below.setCell ?_ ?_ _) | (with_reducible refine below_via ?_ (by assumption) ?_) | (with_reducible refine below_ov ?_ ?_ _ _) | go_size))⟩
set_option maxRecDepth 100000 in
set_option maxHeartbeats 1000000 in
theorem rorigin_any (n : Int) (hn : -4611686018427387904 ≤ n ∧ n ≤ 4611686018427387904) (w : World) :
    Calls Try.prog 31 #[.int .i64 n] w fun e w' => e = .returned (.tuple #[.int .i64 ((n + 32) / 64), .int .i64 (n - 64 * ((n + 32) / 64))]) ∧ Below w.heap.size w w' := by
  have w1 : wrap64 (64 * ((n + 32) / 64)) = 64 * ((n + 32) / 64) := by unfold wrap64; omega
  have w2 : wrap64 (n - 64 * ((n + 32) / 64)) = n - 64 * ((n + 32) / 64) := by unfold wrap64; omega
  obtain ⟨q, hq⟩ : ∃ q, (n + 32) / 64 = q := ⟨_, rfl⟩
  rw [hq] at w1 w2 ⊢
  have HP := Lib.hid (fun w => pixels_near n hn w)
  rw [hq] at HP
  clear hq
  go_enter Try.func31, Try.ntmps31
  go_wp2_with ((go_at_call 48; (with_reducible refine (HP.out _).mono ?_); rintro e u ⟨rfl, hb⟩; have hz := hb.size; refine (fun hB => ?_ : Below w.heap.size w u → _) ?_; rotate_left; (focus ((repeat' (first | (with_reducible exact Below.refl _ _) | (with_reducible assumption) | (with_reducible refine below_from_drew ?_) | (with_reducible refine Below.alloc ?_ ?_ _) | (with_reducible refine Below.drew ?_) | (with_reducible refine below_drewN ?_ _) | (with_reducible refine Below.setCell ?_ ?_ _) | (with_reducible refine below_via ?_ (by assumption) ?_) | (with_reducible refine below_ov ?_ ?_ _ _) | go_size)); done)); (try simp only [World.size_alloc, World.size_setCell, World.size_drew, ov_size] at hz)))
  go_ret2
  exact ⟨by simp only [w1, w2]; rfl, hB⟩
end Go.Proofs.Ytjcbphhemmdnjaa
