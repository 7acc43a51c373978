/- law23 (scroll): the document's Place by contract. -/
import Derived.Test.YtjcbphhemmdnjaaScrI
namespace Go.Proofs.Ytjcbphhemmdnjaa
open Go Go.RowKit
set_option linter.unusedSimpArgs false
set_option linter.unusedVariables false
-- below_from_drew
attribute [local go_sem] ov_cell_same ov_cell_other ov_frozen_same ov_frozen_other ov_size ov_setCell_same ov_setCell_other cell_alloc_old frozen_alloc_old setCell_alloc_old old_alloc old_ov old_drew old_drewN old_setCell
attribute [local go_sem ↓] run_max2 run_min2
theorem b22_x (l : List N23) (k b : Nat) (h : there23 l k = true) : (b22V l k b)[1]? = some (.int .i64 (bX l k)) ∧ (b22V l k b)[2]? = some (.int .i64 (bY l k)) := by
  unfold b22V byV bX bY
  rw [if_pos h]
  cases tx23 l k <;> exact ⟨rfl, rfl⟩
/-- Where the loop of Place stands at q. -/
def PlI (l : List N23) (n k q : Nat) (a b : Int) : Prop := (q = n ∨ (rch l n q = true ∧ there23 l q = true)) ∧ q ≤ k ∧ a + pl l (bX l) n q = pl l (bX l) n k ∧ b + pl l (bY l) n q = pl l (bY l) n k ∧ -(40000 * ((k : Int) - q)) ≤ a ∧ a ≤ 40000 * ((k : Int) - q) ∧ -(40000 * ((k : Int) - q)) ≤ b ∧ b ≤ 40000 * ((k : Int) - q)
theorem PlI.next {l : List N23} {n k q : Nat} {a b : Int} (hok : ∀ i, Ok23 (nd23 l i)) (h : PlI l n k q a b) (hne : q ≠ n) : 0 < q ∧ there23 l q = true ∧ PlI l n k (pa23 l q) (a + bX l q) (b + bY l q) := by
  obtain ⟨h1, h2, h3, h4, h5, h6, h7, h8⟩ := h
  rcases h1 with h1 | ⟨h1, ht⟩
  · exact absurd h1 hne
  · have hq := rch_kpos h1
    have hp := pa23_lt l hq
    have e1 := pl_up l (bX l) hq hne
    have e2 := pl_up l (bY l) hq hne
    have b1 := bX_hi hok q
    have b2 := bY_hi hok q
    refine ⟨hq, ht, ?_, by omega, by omega, by omega, by omega, by omega, by omega, by omega⟩
    by_cases c : pa23 l q = n
    · exact .inl c
    · exact .inr ⟨(rch_up h1 c).2.2.2, there_up hq ht⟩
set_option maxRecDepth 100000 in
set_option maxHeartbeats 2000000 in
theorem rplace_any (gL gl N cL cl n k : Nat) (p r : Int) (l : List N23) (g : Nat → Nat × Nat) (w : World) (hk : k < N) (hr : rch l n k = true) (ht : there23 l k = true) (h : Rd23 w l N gL gl g) :
    Calls Try.prog 39 #[.agg #[.slice (some ⟨gL, 0, none⟩) N cL, .int .i64 p, .int .i64 r], .slice (some ⟨gl, 0, none⟩) N cl, .int .i64 n, .int .i64 k] w fun e w' => e = .returned (.tuple #[.int .i64 (pl l (bX l) n k), .int .i64 (pl l (bY l) n k)]) ∧ Below w.heap.size w w' := by
  have hN := h.hn
  have hlt := rch_lt hr
  have HW := Lib.hid h
  have HP : Hid (PlI l n k k 0 0) := Lib.hid ⟨.inr ⟨hr, ht⟩, Nat.le_refl _, by omega, by omega, by omega, by omega, by omega, by omega⟩
  clear h hr ht
  go_enter Try.func39, Try.ntmps39
  go_upto_region 1 with fail
  refine name_w (f := Code.wp _ _ _ _) (fun X hX => ?_)
  have hXb : Below w.heap.size w X := by rw [hX]; (repeat' (first | (with_reducible exact Below.refl _ _) | (with_reducible assumption) | (with_reducible refine below_from_drew ?_) | (with_reducible refine Below.alloc ?_ ?_ _) | (with_reducible refine Below.drew ?_) | (with_reducible refine below_drewN ?_ _) | (with_reducible refine Below.setCell ?_ ?_ _) | (with_reducible refine below_via ?_ (by assumption) ?_) | (with_reducible refine below_ov ?_ ?_ _ _) | go_size))
  have hX3 : Has X w.heap.size #[.slice (some ⟨gL, 0, none⟩) N cL, .int .i64 p, .int .i64 r] 29 := by rw [hX]; (repeat' (first | (with_reducible refine has_drew ?_) | (with_reducible refine has_drewN ?_) | (with_reducible refine has_new ?_; (first | (with_reducible rfl) | omega | (simp; done) | (simp; omega))) | (with_reducible refine has_ov_same ?_; (first | (with_reducible rfl) | omega | (simp; done) | (simp; omega))) | (with_reducible refine has_alloc ?_) | (with_reducible refine has_ov_other ?_ ?_; (focus (first | (with_reducible rfl) | omega | (simp; done) | (simp; omega)))) | (with_reducible assumption) | (with_reducible exact has_below hB (by assumption))))
  have HXB := Lib.hid hXb; have HX3 := Lib.hid hX3
  clear hX hXb hX3
  go_wp2_with fail
  go_loopw [10, 11, 12] (fun s t u wr => ∃ (q : Nat) (a b : Int), s = .int .i64 a ∧ t = .int .i64 b ∧ u = .int .i64 q ∧ PlI l n k q a b ∧ Below X.heap.size X wr) (fun _ _ u _ => (intOf u).toNat)
  case atStart => exact ⟨k, 0, 0, rfl, rfl, rfl, HP.out, Below.refl _ _⟩
  case round =>
    obtain ⟨q, a, b, rfl, rfl, rfl, hPI, hbr⟩ := hrel
    have HPI := Lib.hid hPI; have HBR := Lib.hid hbr
    have hqk := hPI.2.1
    by_cases c1 : q = n
    · have ce : (q : Int) = n := by omega
      obtain ⟨_, _, e1, e2, _⟩ := hPI
      rw [c1, pl_self] at e1 e2
      have hbw := HXB.out.trans (HBR.out.mono HXB.out.size)
      have HE1 := Lib.hid e1; have HE2 := Lib.hid e2
      clear e1 e2 hbr
      go_wp2_with fail
      go_ret2
      refine ⟨?_, hbw⟩
      rw [← HE1.out, ← HE2.out, Int.add_zero, Int.add_zero]
      rfl
    · have ce : ¬ (q : Int) = n := by omega
      obtain ⟨hq0, htq, hPn⟩ := hPI.next HW.out.ok c1
      have hb1 := bX_hi HW.out.ok q
      have hb2 := bY_hi HW.out.ok q
      obtain ⟨_, _, _, _, a1, a2, b1, b2⟩ := hPI
      have hRd := (HW.out.below HXB.out).below hbr
      have h3 := has_below hbr HX3.out
      obtain ⟨x1, x2⟩ := b22_x l q (g q).2 htq
      have k1 := hRd.box q (by omega) 1 _ x1
      have k2 := hRd.box q (by omega) 2 _ x2
      have k3 := hRd.par q (by omega)
      have oL : Old wr gL := hRd.zL
      have ol : Old wr gl := hRd.zl
      have lL := hRd.zL
      have ll := hRd.zl
      have cq : (q : Int) < N := by omega
      have cq0 : (0 : Int) ≤ q := by omega
      have e3 := h3.cells; have l3 := h3.lt; have o3 : Old wr w.heap.size := l3
      have HPN := Lib.hid hPn
      obtain ⟨vx, hvx⟩ : ∃ v, bX l q = v := ⟨_, rfl⟩
      obtain ⟨vy, hvy⟩ : ∃ v, bY l q = v := ⟨_, rfl⟩
      rw [hvx] at hb1 k1 HPN
      rw [hvy] at hb2 k2 HPN
      have hpq := pa23_lt l hq0
      have ha5 : -600000 ≤ a ∧ a ≤ 600000 := by omega
      have hb5 : -600000 ≤ b ∧ b ≤ 600000 := by omega
      clear hPn hRd h3 x1 x2 hvx hvy hbr a1 a2 b1 b2 htq
      go_upto_region 5 with fail
      refine region_ord [(0, 0), (1, 0), (2, 0), (3, 0), (4, 0), (5, 0), (6, 0), (7, 0), (8, 0), (9, 0), (10, 0), (11, 0), (12, 0), (13, 0), (14, 0), (15, 0)] (by kernel_rfl) (by kernel_rfl) (fun _ _ d _ _ h => by cases d <;> exact h) (fun hS => ?_)
      (refine wpG_read (v := ?_) rfl (.inl ⟨by rfl, fun wx hbx => ?_⟩) ?_; rotate_left; (focus (obtain ⟨cx0, fx0, zx0⟩ := bk hbx (gl) (by first | omega | (simp; done) | (simp; omega)); go_simp; (try go_bits); (try with_reducible rfl))); try simp only [Act.put, List.setIfInBounds_toArray, List.set_cons_zero, List.set_cons_succ])
      (refine wpG_read (v := ?_) rfl (.inl ⟨by rfl, fun wx hbx => ?_⟩) ?_; rotate_left; (focus (obtain ⟨cx0, fx0, zx0⟩ := bk hbx (gl) (by first | omega | (simp; done) | (simp; omega)); go_simp; (try go_bits); (try with_reducible rfl))); try simp only [Act.put, List.setIfInBounds_toArray, List.set_cons_zero, List.set_cons_succ])
      (refine wpG_read (v := ?_) rfl (.inl ⟨by rfl, fun wx hbx => ?_⟩) ?_; rotate_left; (focus (obtain ⟨cx0, fx0, zx0⟩ := bk hbx (gl) (by first | omega | (simp; done) | (simp; omega)); go_simp; (try go_bits); (try with_reducible rfl))); try simp only [Act.put, List.setIfInBounds_toArray, List.set_cons_zero, List.set_cons_succ])
      (refine wpG_read (v := ?_) rfl (.inl ⟨by rfl, fun wx hbx => ?_⟩) ?_; rotate_left; (focus (obtain ⟨cx0, fx0, zx0⟩ := bk hbx (gl) (by first | omega | (simp; done) | (simp; omega)); go_simp; (try go_bits); (try with_reducible rfl))); try simp only [Act.put, List.setIfInBounds_toArray, List.set_cons_zero, List.set_cons_succ])
      (refine wpG_read (v := ?_) rfl (.inl ⟨by rfl, fun wx hbx => ?_⟩) ?_; rotate_left; (focus (obtain ⟨cx0, fx0, zx0⟩ := bk hbx (gl) (by first | omega | (simp; done) | (simp; omega)); go_simp; (try go_bits); (try with_reducible rfl))); try simp only [Act.put, List.setIfInBounds_toArray, List.set_cons_zero, List.set_cons_succ])
      (refine wpG_read (v := ?_) rfl (.inl ⟨by rfl, fun wx hbx => ?_⟩) ?_; rotate_left; (focus (obtain ⟨cx0, fx0, zx0⟩ := bk hbx (gl) (by first | omega | (simp; done) | (simp; omega)); go_simp; (try go_bits); (try with_reducible rfl))); try simp only [Act.put, List.setIfInBounds_toArray, List.set_cons_zero, List.set_cons_succ])
      (refine wpG_read (v := ?_) rfl (.inl ⟨by rfl, fun wx hbx => ?_⟩) ?_; rotate_left; (focus (obtain ⟨cx0, fx0, zx0⟩ := bk hbx (gl) (by first | omega | (simp; done) | (simp; omega)); go_simp; (try go_bits); (try with_reducible rfl))); try simp only [Act.put, List.setIfInBounds_toArray, List.set_cons_zero, List.set_cons_succ])
      (refine wpG_read (v := ?_) rfl (.inl ⟨by rfl, fun wx hbx => ?_⟩) ?_; rotate_left; (focus (obtain ⟨cx0, fx0, zx0⟩ := bk hbx (gl) (by first | omega | (simp; done) | (simp; omega)); go_simp; (try go_bits); (try with_reducible rfl))); try simp only [Act.put, List.setIfInBounds_toArray, List.set_cons_zero, List.set_cons_succ])
      (refine wpG_read (v := ?_) rfl (.inl ⟨by rfl, fun wx hbx => ?_⟩) ?_; rotate_left; (focus (obtain ⟨cx0, fx0, zx0⟩ := bk hbx (gl) (by first | omega | (simp; done) | (simp; omega)); go_simp; (try go_bits); (try with_reducible rfl))); try simp only [Act.put, List.setIfInBounds_toArray, List.set_cons_zero, List.set_cons_succ])
      (refine wpG_read (v := ?_) rfl (.inl ⟨by rfl, fun wx hbx => ?_⟩) ?_; rotate_left; (focus (obtain ⟨cx0, fx0, zx0⟩ := bk hbx (gl) (by first | omega | (simp; done) | (simp; omega)); go_simp; (try go_bits); (try with_reducible rfl))); try simp only [Act.put, List.setIfInBounds_toArray, List.set_cons_zero, List.set_cons_succ])
      (refine wpG_read (v := ?_) rfl (.inl ⟨by rfl, fun wx hbx => ?_⟩) ?_; rotate_left; (focus (obtain ⟨cx0, fx0, zx0⟩ := bk hbx (gl) (by first | omega | (simp; done) | (simp; omega)); go_simp; (try go_bits); (try with_reducible rfl))); try simp only [Act.put, List.setIfInBounds_toArray, List.set_cons_zero, List.set_cons_succ])
      (refine wpG_read (v := ?_) rfl (.inl ⟨by rfl, fun wx hbx => ?_⟩) ?_; rotate_left; (focus (obtain ⟨cx0, fx0, zx0⟩ := bk hbx (gl) (by first | omega | (simp; done) | (simp; omega)); go_simp; (try go_bits); (try with_reducible rfl))); try simp only [Act.put, List.setIfInBounds_toArray, List.set_cons_zero, List.set_cons_succ])
      (refine wpG_read (v := ?_) rfl (.inl ⟨by rfl, fun wx hbx => ?_⟩) ?_; rotate_left; (focus (obtain ⟨cx0, fx0, zx0⟩ := bk hbx (gl) (by first | omega | (simp; done) | (simp; omega)); go_simp; (try go_bits); (try with_reducible rfl))); try simp only [Act.put, List.setIfInBounds_toArray, List.set_cons_zero, List.set_cons_succ])
      (refine wpG_read (v := ?_) rfl (.inl ⟨by rfl, fun wx hbx => ?_⟩) ?_; rotate_left; (focus (obtain ⟨cx0, fx0, zx0⟩ := bk hbx (gl) (by first | omega | (simp; done) | (simp; omega)); go_simp; (try go_bits); (try with_reducible rfl))); try simp only [Act.put, List.setIfInBounds_toArray, List.set_cons_zero, List.set_cons_succ])
      (refine wpG_read (v := ?_) rfl (.inl ⟨by rfl, fun wx hbx => ?_⟩) ?_; rotate_left; (focus (obtain ⟨cx0, fx0, zx0⟩ := bk hbx (gl) (by first | omega | (simp; done) | (simp; omega)); go_simp; (try go_bits); (try with_reducible rfl))); try simp only [Act.put, List.setIfInBounds_toArray, List.set_cons_zero, List.set_cons_succ])
      (refine wpG_read (v := ?_) rfl (.inl ⟨by rfl, fun wx hbx => ?_⟩) ?_; rotate_left; (focus (obtain ⟨cx0, fx0, zx0⟩ := bk hbx (gl) (by first | omega | (simp; done) | (simp; omega)); go_simp; (try go_bits); (try with_reducible rfl))); try simp only [Act.put, List.setIfInBounds_toArray, List.set_cons_zero, List.set_cons_succ])
      refine wpG_nil ?_
      have hbd : Below X.heap.size X wr.drew := HBR.out.drew
      clear hS
      go_wp2_with fail
      exact ⟨⟨pa23 l q, _, _, rfl, rfl, rfl, HPN.out, hbd⟩, by simp only [intOf]; omega⟩
end Go.Proofs.Ytjcbphhemmdnjaa
