/- law26 (stack): the contexts sorted. -/
import Derived.Test.YtjcbphhemmdnjaaStkY
namespace Go.Proofs.Ytjcbphhemmdnjaa
open Go Go.RowKit
set_option linter.unusedSimpArgs false
set_option linter.unusedVariables false
-- below_from_drew
attribute [local go_sem] ov_cell_same ov_cell_other ov_frozen_same ov_frozen_other ov_size ov_setCell_same ov_setCell_other cell_alloc_old frozen_alloc_old setCell_alloc_old old_alloc old_ov old_drew old_drewN old_setCell
attribute [local go_sem ↓] run_max2 run_min2
set_option maxRecDepth 100000 in
set_option maxHeartbeats 2000000 in
theorem ins_nil (p : Nat) (w : World) :
    Calls Try.prog 92 #[.slice none 0 0, .int .i64 0, .int .i64 0, .func (Fn.func 62) #[] #[.pointer (some ⟨p, 0, none⟩)]] w fun e w' => e = .returned (.tuple #[]) ∧ w = w' := by
  go_enter Try.func92, Try.ntmps92
  go_wp2_with fail
  refine wp_loop_rounds 1 ?_
  rw [rounds_succ]; go_wp2_with fail
  go_end0
  exact ⟨rfl, rfl⟩
set_option maxRecDepth 100000 in
set_option maxHeartbeats 2000000 in
theorem sortstable_nil (p : Nat) (w : World) :
    Calls Try.prog 61 #[.slice none 0 0, .func (Fn.func 62) #[] #[.pointer (some ⟨p, 0, none⟩)]] w fun e w' => e = .returned (.tuple #[]) ∧ w = w' := by
  have HI := Lib.hid (ins_nil p w)
  go_enter Try.func61, Try.ntmps61
  go_wp2_with (go_at_call 78; go_in)
  refine wp_loop_rounds 1 ?_
  rw [rounds_succ]; go_wp2_with fail
  refine HI.out.mono ?_
  rintro e w1 ⟨rfl, rfl⟩
  go_wp2_with fail
  refine wp_loop_rounds 1 ?_
  rw [rounds_succ]; go_wp2_with fail
  go_end0
  exact ⟨rfl, rfl⟩
/-- A row of one's own as labels 0 .. n-1. -/
def lbl (cs : List Nat) (rest : List Value) : Lbl := ⟨fun i => (cs.getD i 0 : Nat), rest⟩
theorem lbl_cells (cs : List Nat) (rest : List Value) (zs : List Nat) : placeCells (lbl cs rest) zs = (natVals (zs.map fun i => cs.getD i 0) ++ rest).toArray := by
  unfold placeCells natVals lbl
  simp
theorem range_get {n p : Nat} (h : p < n) : (List.range n).getD p 0 = p := by simp [List.getD_eq_getElem?_getD, h]
theorem range_self (cs : List Nat) : (List.range cs.length).map (fun i => cs.getD i 0) = cs := by
  apply List.ext_getElem
  · simp
  · intro i h1 h2
    simp at h1
    simp [h1]
/-- What is sorted by labels, told by items. -/
theorem zs_items {cs zs : List Nat} {z : Nat → Int} {at_ : Nat → Nat} (h1 : zs.length = cs.length) (h2 : UpT (cs.map z) zs 0 cs.length) (h3 : InR cs.length zs) (h4 : cs.Pairwise (fun a b => at_ a < at_ b)) :
    (zs.map fun i => cs.getD i 0).Perm cs ∧ (zs.map fun i => cs.getD i 0).Pairwise (fun a b => z a < z b ∨ z a = z b ∧ at_ a < at_ b) := by
  have hg : ∀ p, p < zs.length → zs.getD p 0 < cs.length := fun p hp => h3 p hp
  have hz : ∀ x, x < cs.length → (cs.map z).getD x 0 = z (cs.getD x 0) := fun x hx => by simp [List.getD_eq_getElem?_getD, hx]
  have hnd : zs.Nodup := by
    rw [List.nodup_iff_pairwise_ne, List.pairwise_iff_getElem]
    intro p q hp hq hpq e
    have := h2 p q (Nat.zero_le _) hpq (by omega)
    simp only [List.getD_eq_getElem?_getD, List.getElem?_eq_getElem hp, List.getElem?_eq_getElem hq, Option.getD_some, e] at this
    exact this.irrefl
  have hp : zs.Perm (List.range cs.length) := by
    rw [List.perm_ext_iff_of_nodup hnd List.nodup_range]
    intro x
    rw [List.mem_range]
    refine ⟨fun hx => InR.mem h3 x hx, fun hx => ?_⟩
    obtain ⟨q, q1, q2⟩ := up_all h2 h1 (InR.mem h3) hx
    rw [← q2]
    simp [List.getD_eq_getElem?_getD, show q < zs.length by omega]
  refine ⟨?_, ?_⟩
  · have := hp.map (fun i => cs.getD i 0)
    rwa [range_self] at this
  · rw [List.pairwise_map, List.pairwise_iff_getElem]
    intro p q hp' hq hpq
    have k := h2 p q (Nat.zero_le _) hpq (by omega)
    have e1 : zs.getD p 0 = zs[p] := by simp [List.getD_eq_getElem?_getD, hp']
    have e2 : zs.getD q 0 = zs[q] := by simp [List.getD_eq_getElem?_getD, hq]
    have b1 := hg p hp'; have b2 := hg q hq
    rw [e1] at b1; rw [e2] at b2
    rw [e1, e2] at k
    unfold LTo at k
    rw [hz _ b1, hz _ b2] at k
    rcases k with k | ⟨k1, k2⟩
    · exact .inl k
    · refine .inr ⟨k1, ?_⟩
      have := (List.pairwise_iff_getElem.1 h4) zs[p] zs[q] b1 b2 k2
      simpa [List.getD_eq_getElem?_getD, b1, b2] using this
set_option maxHeartbeats 1000000 in
theorem psort_any (l : List N26) (N pt bm bn p base0 : Nat) (base : Nat → Prop) (R : Rows) (v : Value) (cs : List Nat) (w : World) (hN : N ≤ 60) (hcs : ∀ k, k ∈ cs → k < N) (hl : cs.length ≤ 60) (hpw : cs.Pairwise (fun a b => atN (pa26 l) N a < atN (pa26 l) N b)) (h : In26 w l N pt bm bn base R) (hp : Has w p #[.pointer (some ⟨pt, 0, none⟩), .map (some bn)] 123) (ho : OwnN w base0 v cs)
    (hfr : ∀ g, v.ownBlock = some g → ¬ base g ∧ pt ≠ g ∧ bm ≠ g ∧ bn ≠ g ∧ p ≠ g) :
    Calls Try.prog 61 #[v, .func (Fn.func 62) #[] #[.pointer (some ⟨p, 0, none⟩)]] w fun e w' => e = .returned (.tuple #[]) ∧ ∃ s, s.Perm cs ∧ s.Pairwise (fun a b => z26 l a < z26 l b ∨ z26 l a = z26 l b ∧ atN (pa26 l) N a < atN (pa26 l) N b) ∧ OwnN w' base0 v s ∧ w.grownBy w' v.ownBlock := by
  rcases ho.2 with ⟨rfl, h0⟩ | ⟨g, cap, cur, rfl, hb, hh, hn, hc, hs, ht⟩
  · have he : cs = [] := List.eq_nil_of_length_eq_zero (by omega)
    subst he
    refine (sortstable_nil p w).mono ?_
    rintro e w' ⟨rfl, rfl⟩
    exact ⟨rfl, [], List.Perm.refl _, List.Pairwise.nil, ho, ⟨rfl, rfl, rfl, Nat.le_refl _, fun _ _ _ => rfl⟩⟩
  · rw [Nat.mul_one] at hs ht
    obtain ⟨f1, f2, f3, f4, f5⟩ := hfr g rfl
    have hcur : cur = placeCells (lbl cs (cur.toList.drop cs.length)) (List.range cs.length) := by
      rw [lbl_cells, range_self, ← ht, List.take_append_drop]
    obtain ⟨rest, hrest⟩ : ∃ r, cur.toList.drop cs.length = r := ⟨_, rfl⟩
    rw [hrest] at hcur
    have hrl : rest.length = cap - cs.length := by rw [← hrest]; simp; omega
    have hg : Has w g (placeCells (lbl cs rest) (List.range cs.length)) 3 := by rw [← hcur]; exact hh
    have hz : ∀ x, x < cs.length → (cs.map (z26 l)).getD x 0 = z26 l (cs.getD x 0) := fun x hx => by simp [List.getD_eq_getElem?_getD, hx]
    have hmem : ∀ x, x < cs.length → cs.getD x 0 < N := fun x hx => hcs _ (by simp [List.getD_eq_getElem?_getD, hx])
    have hord : OrdIn (lbl cs rest) p g (cs.map (z26 l)) w := ⟨by simp; omega, fun x y hx hy W hW => by
      rw [List.length_map] at hx hy
      rw [hz x hx, hz y hy]
      exact pless_any l N pt bm bn (cs.getD x 0) (cs.getD y 0) p base R W hN (hmem x hx) (hmem y hy) (h.but hW f1 f2 f3 f4) (hW.has hp f5)⟩
    refine (sortstable_any (nd := lbl cs rest) p g cap cs.length (cs.map (z26 l)) (List.range cs.length) 3 w (by simp) (by simp) hl hn (fun q hq => range_get hq) hord hg).mono ?_
    rintro e w' ⟨rfl, zs, z1, z2, z3, hsl⟩
    obtain ⟨r1, r2⟩ := zs_items z1 z2 z3 hpw
    refine ⟨rfl, _, r1, r2, ?_, ⟨hsl.2.2.2.os, hsl.2.2.2.tape, hsl.2.2.2.output, hsl.2.2.2.size, fun k hk hne => hsl.2.2.2.block k hk (fun e => hne (by rw [e]; rfl))⟩⟩
    have hsl1 := hsl.1
    rw [lbl_cells] at hsl1
    have hlen : (zs.map fun i => cs.getD i 0).length = cs.length := by rw [List.length_map, z1]
    refine ⟨by rw [natVals_len]; omega, .inr ⟨g, cap, _, by rw [hlen], hb, hsl1, by omega, hc, by simp [natVals_len]; omega, ?_⟩⟩
    rw [Nat.mul_one]
    show (natVals _ ++ rest).take _ = _
    rw [List.take_append_of_le_length (by rw [natVals_len]; exact Nat.le_refl _), List.take_of_length_le (by rw [natVals_len]; exact Nat.le_refl _)]
end Go.Proofs.Ytjcbphhemmdnjaa
