/- Regions plain: how many rectangles a region of few rectangles has; regions of two rectangles. -/
import Derived.Test.YtkpamofamcndnaaRegO
namespace Go.Proofs.Ytkpamofamcndnaa
set_option linter.unusedSimpArgs false
set_option linter.unusedVariables false

/-- All bands begin and end at heights of ys, all edges are of xs. -/
def Grid (B : List BandZ) (xs ys : List Int) : Prop := ∀ b ∈ B, b.y0 ∈ ys ∧ b.y1 ∈ ys ∧ ∀ e ∈ b.es, e ∈ xs
theorem up_sub_len : ∀ {es : List Int} {m : Int} {xs : List Int}, Up m es → (∀ e ∈ es, e ∈ xs) → es.length ≤ xs.length
  | [], m, xs, _, _ => Nat.zero_le _
  | e :: es, m, xs, h, hx => by
    have he := hx e (.head _)
    have := up_sub_len (xs := xs.erase e) h.2 (fun f hf => (List.mem_erase_of_ne (by have := h.2.lt f hf; omega)).2 (hx f (.tail _ hf)))
    rw [List.length_erase_of_mem he] at this
    have := List.length_pos_of_mem he
    rw [List.length_cons]; omega
theorem bands_sub_len {lo : Int} : ∀ {B : List BandZ} {m : Int} {e : List Int} {ys : List Int}, OkB lo m e B → (∀ b ∈ B, b.y0 ∈ ys) → B.length ≤ ys.length
  | [], m, e, ys, _, _ => Nat.zero_le _
  | b :: B, m, e, ys, h, hy => by
    have hb := hy b (.head _)
    obtain ⟨h1, h2, h3, h4, h5, h6⟩ := h
    have := bands_sub_len (ys := ys.erase b.y0) h6 (fun f hf => (List.mem_erase_of_ne (by have := (okB_ne h6 f hf).2.2; omega)).2 (hy f (.tail _ hf)))
    rw [List.length_erase_of_mem hb] at this
    have := List.length_pos_of_mem hb
    rw [List.length_cons]; omega
theorem pairs_le {y0 y1 : Int} : ∀ es : List Int, (pairsZ y0 y1 es).length ≤ es.length
  | [] => Nat.le_refl _
  | [a] => Nat.zero_le _
  | a :: c :: l => by have := pairs_le (y0 := y0) (y1 := y1) l; rw [pairsZ, List.length_cons, List.length_cons, List.length_cons]; omega
theorem rects_le {k : Nat} : ∀ {B : List BandZ}, (∀ b ∈ B, b.es.length ≤ k) → (rectsZ B).length ≤ B.length * k
  | [], _ => Nat.zero_le _
  | b :: B, h => by
    have h1 := rects_le (B := B) (fun x hx => h x (.tail _ hx))
    have h2 := pairs_le (y0 := b.y0) (y1 := b.y1) b.es
    have h3 := h b (.head _)
    show (pairsZ b.y0 b.y1 b.es ++ rectsZ B).length ≤ (B.length + 1) * k
    rw [List.length_append, Nat.add_mul, Nat.one_mul]; omega
theorem Grid.rects {B : List BandZ} {xs ys : List Int} (h : Grid B xs ys) (hB : RegOk B) : (rectsZ B).length ≤ ys.length * xs.length := by
  refine Nat.le_trans (rects_le (fun b hb => up_sub_len (okB_up hB.ok b hb) (h b hb).2.2)) (Nat.mul_le_mul_right _ (bands_sub_len hB.ok (fun b hb => (h b hb).1)))
theorem runsG_mem (K : Int → Bool) : ∀ {P : List Int} {ev : Bool}, ∀ e ∈ runsG K P ev, e ∈ P
  | [], ev, e, h => by cases h
  | x :: P, ev, e, h => by
    change e ∈ (if _ then _ else _ : List Int) at h
    split at h
    · cases h with
      | head => exact .head _
      | tail _ h => exact .tail _ (runsG_mem K e h)
    · exact .tail _ (runsG_mem K e h)
theorem addB_grid {out : List BandZ} {b : BandZ} {xs ys : List Int} (h : Grid out xs ys) (hb : b.y0 ∈ ys ∧ b.y1 ∈ ys ∧ ∀ e ∈ b.es, e ∈ xs) : Grid (addB out b) xs ys := by
  unfold addB
  split
  · exact h
  · split
    · intro c hc
      rcases List.mem_append.1 hc with q | q
      · exact h c (List.dropLast_subset _ q)
      · simp only [List.mem_singleton] at q
        subst q
        refine ⟨?_, hb.2.1, hb.2.2⟩
        rename_i hne
        have hl : out.getLast? = some (out.getLast hne.1) := List.getLast?_eq_some_getLast hne.1
        simp only [hl, Option.getD_some]
        exact (h _ (List.getLast_mem hne.1)).1
    · intro c hc
      rcases List.mem_append.1 hc with q | q
      · exact h c q
      · simp only [List.mem_singleton] at q; subst q; exact hb
theorem combB_grid {F : Int → List Int} {xs ys : List Int} (hF : ∀ y, ∀ e ∈ F y, e ∈ xs) : ∀ {P : List Int} {out : List BandZ}, (∀ y ∈ P, y ∈ ys) → Grid out xs ys → Grid (combB F out P) xs ys
  | [], out, _, h => h
  | [y], out, _, h => h
  | y0 :: y1 :: P, out, hP, h => by
    rw [combB]
    exact combB_grid hF (fun y hy => hP y (.tail _ hy)) (addB_grid h ⟨hP y0 (.head _), hP y1 (.tail _ (.head _)), hF y0⟩)
theorem Grid.row {B : List BandZ} {xs ys : List Int} (h : Grid B xs ys) (y : Int) : ∀ e ∈ rowB B y, e ∈ xs := fun e he => by
  rcases rowB_mem (B := B) (y := y) with q | ⟨b, q1, q2⟩
  · rw [q] at he; cases he
  · rw [q2] at he; exact (h b q1).2.2 e he
theorem Grid.heights {B : List BandZ} {xs ys : List Int} (h : Grid B xs ys) : ∀ y ∈ heightsL B, y ∈ ys := fun y hy => by
  obtain ⟨b, hb, q⟩ := List.mem_flatMap.1 hy
  simp only [List.mem_cons, List.not_mem_nil, or_false] at q
  rcases q with q | q
  · rw [q]; exact (h b hb).1
  · rw [q]; exact (h b hb).2.1
theorem Grid.comb {keep : Bool → Bool → Bool} {A B : List BandZ} {xs ys xs' ys' : List Int} (h : Grid A xs ys) (k : Grid B xs' ys') : Grid (combZ keep A B) (xs ++ xs') (ys ++ ys') := by
  unfold combZ
  refine combB_grid (fun y e he => ?_) (fun y hy => ?_) (fun b hb => by cases hb)
  · have := runsG_mem _ e he
    rcases List.mem_append.1 (sortD_mem.1 this) with q | q
    · exact List.mem_append_left _ (h.row y e q)
    · exact List.mem_append_right _ (k.row y e q)
  · rcases List.mem_append.1 (sortD_mem.1 hy) with q | q
    · exact List.mem_append_left _ (h.heights y q)
    · exact List.mem_append_right _ (k.heights y q)
theorem Grid.nil : Grid [] [] [] := fun b hb => by cases hb
theorem oneQ_grid (q : RectQ) : ∃ xs ys, Grid (oneQ q) xs ys ∧ xs.length = 2 ∧ ys.length = 2 := by
  unfold oneQ oneZ
  split
  · refine ⟨[r0 q.1 q.2.1 q.2.2.1 q.2.2.2, r2 q.1 q.2.1 q.2.2.1 q.2.2.2], [r1 q.1 q.2.1 q.2.2.1 q.2.2.2, r3 q.1 q.2.1 q.2.2.1 q.2.2.2], fun b hb => ?_, rfl, rfl⟩
    simp only [List.mem_singleton] at hb
    subst hb
    simp
  · exact ⟨[0, 0], [0, 0], fun b hb => (by cases hb), rfl, rfl⟩
theorem ofL_grid : ∀ l : List RectQ, ∃ xs ys, Grid (ofL l) xs ys ∧ xs.length = 2 * l.length ∧ ys.length = 2 * l.length
  | [] => ⟨[], [], Grid.nil, rfl, rfl⟩
  | q :: l => by
    obtain ⟨xs, ys, h1, h2, h3⟩ := oneQ_grid q
    obtain ⟨xs', ys', k1, k2, k3⟩ := ofL_grid l
    refine ⟨xs ++ xs', ys ++ ys', h1.comb k1, ?_, ?_⟩
    · rw [List.length_append, List.length_cons]; omega
    · rw [List.length_append, List.length_cons]; omega
/-! ### two rectangles -/
theorem hullQ_of {B : List BandZ} (h : RegOk B) {r : RectQ} (hr : HullIs (hasB B) r) : hullQ (rectsZ B) = r := h.hull.uniq hr
theorem one_rects {q : RectQ} (h : nfQ q) : rectsZ (oneQ q) = [] ∧ q = (0, 0, 0, 0) ∨ rectsZ (oneQ q) = [q] := by
  obtain ⟨s0, s1, s2, s3⟩ := r_same h
  unfold oneQ oneZ
  rw [s0, s1, s2, s3]
  unfold nfQ NF at h
  obtain ⟨a, b, c, d⟩ := q
  simp only at h ⊢
  split
  · exact .inr rfl
  · refine .inl ⟨rfl, ?_⟩
    have : a = 0 ∧ b = 0 ∧ c = 0 ∧ d = 0 := by omega
    rw [this.1, this.2.1, this.2.2.1, this.2.2.2]
theorem hull_one {q : RectQ} (h : nfQ q) : HullIs (hasB (oneQ q)) q := by
  have := hull_rect q
  rw [nQ_same h] at this
  exact this.congr (fun x y => (oneQ_has q x y).symm)
theorem sum_one {q : RectQ} (h : nfQ q) : sumQ (rectsZ (oneQ q)) = areaQ q := by
  rcases one_rects h with ⟨e, e2⟩ | e
  · rw [e, e2]; rfl
  · rw [e]; show areaQ q + 0 = _; omega
theorem far_sum_or {p q s : RectQ} (hp : nfQ p) (hq : nfQ q) (hs : nfQ s) (h : ∀ x y, hasQ s x y = (hasQ p x y && hasQ q x y)) : sumQ (rectsZ (combZ orK (oneQ p) (oneQ q))) = areaQ p + areaQ q - areaQ s := by
  obtain ⟨n, hn⟩ : ∃ n : Nat, (n : Int) = 2147483648 := ⟨2147483648, rfl⟩
  obtain ⟨k1, k2⟩ := (oneQ_ok p).comb (keep := orK) rfl (oneQ_ok q)
  rw [← sum_one hp, ← sum_one hq, ← sum_one hs, k1.area hn, (oneQ_ok p).area hn, (oneQ_ok q).area hn, (oneQ_ok s).area hn]
  have e1 := cnt2_both (lo := -1073741824) (n := n) (P := hasB (oneQ p)) (Q := hasB (oneQ q))
  have e2 : cnt2 (-1073741824) n (hasB (combZ orK (oneQ p) (oneQ q))) = cnt2 (-1073741824) n (fun x y => hasB (oneQ p) x y || hasB (oneQ q) x y) := cnt2_congr (fun x y => by rw [k2]; rfl)
  have e3 : cnt2 (-1073741824) n (hasB (oneQ s)) = cnt2 (-1073741824) n (fun x y => hasB (oneQ p) x y && hasB (oneQ q) x y) := cnt2_congr (fun x y => by rw [oneQ_has, oneQ_has, oneQ_has]; exact h x y)
  rw [e2, e3]; omega
theorem hull_comb_and {p q s : RectQ} (hs : nfQ s) (h : ∀ x y, hasQ s x y = (hasQ p x y && hasQ q x y)) : hullQ (rectsZ (combZ andK (oneQ p) (oneQ q))) = s := by
  obtain ⟨k1, k2⟩ := (oneQ_ok p).comb (keep := andK) rfl (oneQ_ok q)
  refine hullQ_of k1 ((hull_one hs).congr (fun x y => ?_))
  rw [k2, oneQ_has, oneQ_has, oneQ_has]; exact h x y
theorem hull_comb_or {p q : RectQ} (hp : nfQ p) (hq : nfQ q) : hullQ (rectsZ (combZ orK (oneQ p) (oneQ q))) = hull2 p q := by
  obtain ⟨k1, k2⟩ := (oneQ_ok p).comb (keep := orK) rfl (oneQ_ok q)
  exact hullQ_of k1 ((hull_both (hull_one hp) (hull_one hq)).congr (fun x y => by rw [k2]; rfl))
theorem minus_self (A : List BandZ) (hA : RegOk A) : combZ minusK A A = [] := by
  obtain ⟨k1, k2⟩ := hA.comb (keep := minusK) rfl hA
  exact RegOk.uniq k1 regOk_nil (fun x y => by rw [k2]; show (hasB A x y && !hasB A x y) = false; cases hasB A x y <;> rfl)
theorem mv_zero (x y : Int) : mvQ x y (0, 0, 0, 0) = (0, 0, 0, 0) := by
  unfold mvQ
  rw [i0_f rfl, i1_f rfl, i2_f rfl, i3_f rfl]
theorem mv_nf (x y : Int) (q : RectQ) : nfQ (mvQ x y q) := by
  unfold mvQ nfQ
  simp only
  cases h : okR q.1 q.2.1 q.2.2.1 q.2.2.2
  · rw [i0_f h, i1_f h, i2_f h, i3_f h]; unfold NF; omega
  · rw [i0_t h, i1_t h, i2_t h, i3_t h]; exact nf_r _ _ _ _
theorem move_one {q : RectQ} (h : nfQ q) (x y : Int) : ofL ((rectsZ (oneQ q)).map (mvQ x y)) = oneQ (mvQ x y q) := by
  rcases one_rects h with ⟨e, e2⟩ | e
  · rw [e, e2, mv_zero]
    rfl
  · rw [e, ofL_one]; rfl
end Go.Proofs.Ytkpamofamcndnaa
