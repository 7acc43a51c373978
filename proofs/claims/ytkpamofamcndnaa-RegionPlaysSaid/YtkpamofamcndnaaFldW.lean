/- RegionPlays, plain: each act on the region and on the field. -/
import Derived.Test.YtkpamofamcndnaaFldQ
import Derived.Test.YtkpamofamcndnaaRegO
import Derived.Test.YtkpamofamcndnaaRegZ
namespace Go.Proofs.Ytkpamofamcndnaa
set_option linter.unusedSimpArgs false
set_option linter.unusedVariables false

/-- Where a field's pixels may be. -/
def SupF (F : Nat → Nat → Bool) (dx dy : Int) : Prop := ∀ y x, y < 40 → x < 40 → F y x = true → 7 + dx ≤ (x : Int) ∧ (x : Int) < 33 + dx ∧ 7 + dy ≤ (y : Int) ∧ (y : Int) < 33 + dy
theorem bool_iff {a b : Bool} (h : a = true ↔ b = true) : a = b := by rw [Bool.eq_iff_iff]; exact h
theorem nQ_has {a b c d : Int} (ha : 0 ≤ a) (hb : 0 ≤ b) (hc : c ≤ 40) (hd : d ≤ 40) (ha' : a ≤ 40) (hb' : b ≤ 40) (hc' : 0 ≤ c) (hd' : 0 ≤ d) (x y : Int) : hasQ (nQ (a, b, c, d)) x y = true ↔ a ≤ x ∧ x < c ∧ b ≤ y ∧ y < d := by
  rw [hasQ_in, nQ_same (nQ_nf _)]
  have := r_eval (p := a) (q := b) (r := c) (s := d) (by omega) (by omega) (by omega) (by omega)
  simp only [inQ, nQ]
  omega
theorem inF_iff {a b c d : Int} {y x : Nat} : inF a b c d y x = true ↔ a ≤ (x : Int) ∧ (x : Int) < c ∧ b ≤ (y : Int) ∧ (y : Int) < d := by
  simp [inF, and_assoc]
def keepF (how : Int) : Bool → Bool → Bool := if how = 0 then orK else if how = 1 then minusK else andK
/-- Or, Minus, And with a rectangle. -/
theorem with_eq (F : Nat → Nat → Bool) (how a b c d : Int) (keep : Bool → Bool → Bool) (hk : keep false false = false) (hkf : ∀ u v : Bool, (if how = 0 then u || v else if how = 1 then u && !v else u && v) = keep u v) (hko : ∀ v, keep false v = true → how = 0)
    (ha : 0 ≤ a) (hb : 0 ≤ b) (hc : c ≤ 40) (hd : d ≤ 40) (ha' : a ≤ 40) (hb' : b ≤ 40) (hc' : 0 ≤ c) (hd' : 0 ≤ d) :
    combZ keep (bdE F 0) (oneQ (nQ (a, b, c, d))) = bdE (withF how a b c d F) 0 := by
  obtain ⟨h1, h2⟩ := (bdE_ok F).1.comb (keep := keep) hk (oneQ_ok (nQ (a, b, c, d)))
  refine bdE_uniq _ h1 (fun p q => ?_)
  rw [h2, (bdE_ok F).2.2.2.2, oneQ_has]
  have hq := nQ_has ha hb hc hd ha' hb' hc' hd' p q
  change keep _ (hasQ (nQ (a, b, c, d)) p q) = _
  by_cases w1 : 0 ≤ q ∧ q < 40
  · by_cases w2 : 0 ≤ p ∧ p < 40
    · rw [decide_eq_true w1, decide_eq_true w2]
      simp only [Bool.true_and]
      have e : hasQ (nQ (a, b, c, d)) p q = inF a b c d q.toNat p.toNat := bool_iff (by rw [hq, inF_iff]; omega)
      rw [e, ← hkf]; rfl
    · rw [decide_eq_false w2]
      have e : hasQ (nQ (a, b, c, d)) p q = false := by
        cases h : hasQ (nQ (a, b, c, d)) p q with
        | false => rfl
        | true => have := hq.1 h; omega
      rw [e]; simp [hk]
  · rw [decide_eq_false w1]
    have e : hasQ (nQ (a, b, c, d)) p q = false := by
      cases h : hasQ (nQ (a, b, c, d)) p q with
      | false => rfl
      | true => have := hq.1 h; omega
    rw [e]; simp [hk]
theorem with_sup {F : Nat → Nat → Bool} {dx dy how a b c d : Int} (h : SupF F dx dy) (ha : 12 ≤ a) (hb : 12 ≤ b) (hc : c ≤ 28) (hd : d ≤ 28) (hx : -5 ≤ dx) (hx' : dx ≤ 5) (hy : -5 ≤ dy) (hy' : dy ≤ 5) : SupF (withF how a b c d F) dx dy := fun y x hyy hxx e => by
  have key : F y x = true ∨ inF a b c d y x = true := by
    unfold withF at e
    split at e
    · simpa using e
    · split at e
      · simp at e; exact .inl e.1
      · simp at e; exact .inl e.1
  rcases key with k | k
  · exact h y x hyy hxx k
  · rw [inF_iff] at k; omega
theorem mv_small {q : RectQ} (h : nfQ q) (h0 : q.1 < q.2.2.1) (b0 : 0 ≤ q.1) (b1 : 0 ≤ q.2.1) (b2 : q.2.2.1 ≤ 40) (b3 : q.2.2.2 ≤ 40) {x y : Int} (x0 : -100 ≤ x) (x1 : x ≤ 100) (y0 : -100 ≤ y) (y1 : y ≤ 100) : mvQ x y q = (q.1 + x, q.2.1 + y, q.2.2.1 + x, q.2.2.2 + y) := by
  obtain ⟨s0, s1, s2, s3⟩ := r_same h
  have hok : okR q.1 q.2.1 q.2.2.1 q.2.2.2 = true := by rw [ok_iff, s0, s2]; exact h0
  have h' := h
  unfold nfQ NF at h'
  have f1 : ∀ n, -1000 ≤ n → n ≤ 1000 → farI n = n := fun n a b => by unfold farI; omega
  unfold mvQ
  rw [i0_t hok, i1_t hok, i2_t hok, i3_t hok, s0, s1, s2, s3, f1 x (by omega) (by omega), f1 y (by omega) (by omega), f1 x (by omega) (by omega), f1 y (by omega) (by omega), f1 (-x) (by omega) (by omega), f1 (-y) (by omega) (by omega)]
  obtain ⟨t0, t1, t2, t3⟩ := r_same (p := q.1 + x) (q := q.2.1 + y) (r := q.2.2.1 - -x) (s := q.2.2.2 - -y) (by unfold NF; omega)
  rw [t0, t1, t2, t3]
  simp only [Int.sub_neg]
theorem bdE_rect_in {F : Nat → Nat → Bool} : ∀ q ∈ rectsZ (bdE F 0), nfQ q ∧ q.1 < q.2.2.1 ∧ 0 ≤ q.1 ∧ 0 ≤ q.2.1 ∧ q.2.2.1 ≤ 40 ∧ q.2.2.2 ≤ 40 := fun q hq => by
  obtain ⟨h1, h2, h3, h4, h5⟩ := bdE_ok F
  obtain ⟨n1, n2⟩ := h1.nf q hq
  have hin : ∀ x y, inQ q x y → hasB (bdE F 0) x y = true := fun x y k => by
    rw [← h1.any, List.any_eq_true]
    exact ⟨q, hq, by rw [hasQ_in, nQ_same n1]; exact k⟩
  have n1' := n1
  unfold nfQ NF at n1'
  have e1 := hin q.1 q.2.1 (by unfold inQ; omega)
  have e2 := hin (q.2.2.1 - 1) (q.2.2.2 - 1) (by unfold inQ; omega)
  rw [h5] at e1 e2
  simp only [Bool.and_eq_true, decide_eq_true_eq] at e1 e2
  exact ⟨n1, n2, by omega, by omega, by omega, by omega⟩
/-- Move. -/
theorem move_eq {F : Nat → Nat → Bool} {dx dy x y : Int} (h : SupF F dx dy) (x0 : -5 ≤ dx + x) (x1 : dx + x ≤ 5) (y0 : -5 ≤ dy + y) (y1 : dy + y ≤ 5) (x2 : -100 ≤ x) (x3 : x ≤ 100) (y2 : -100 ≤ y) (y3 : y ≤ 100) :
    ofL ((rectsZ (bdE F 0)).map (mvQ x y)) = bdE (movF x y F) 0 ∧ SupF (movF x y F) (dx + x) (dy + y) := by
  obtain ⟨h1, h2, h3, h4, h5⟩ := bdE_ok F
  refine ⟨bdE_uniq _ (ofL_ok _) (fun p q => ?_), fun yy xx hyy hxx e => ?_⟩
  · rw [ofL_has, List.any_map]
    have e1 : (rectsZ (bdE F 0)).any ((fun r => hasQ r p q) ∘ mvQ x y) = (rectsZ (bdE F 0)).any (fun r => hasQ r (p - x) (q - y)) := by
      refine bool_iff ?_
      rw [List.any_eq_true, List.any_eq_true]
      constructor
      all_goals
        rintro ⟨r, hr, k⟩
        refine ⟨r, hr, ?_⟩
        obtain ⟨n1, n2, b0, b1, b2, b3⟩ := bdE_rect_in r hr
        have hm := mv_small n1 n2 b0 b1 b2 b3 x2 x3 y2 y3
        have hn := mv_nf x y r
        simp only [Function.comp_apply] at k ⊢
        rw [hasQ_in] at k ⊢
        first
          | (rw [nQ_same hn, hm] at k; rw [nQ_same n1]; simp only [inQ] at k ⊢; omega)
          | (rw [nQ_same n1] at k; rw [nQ_same hn, hm]; simp only [inQ] at k ⊢; omega)
    rw [e1, h1.any, h5]
    refine bool_iff ?_
    simp only [Bool.and_eq_true, decide_eq_true_eq]
    unfold movF
    constructor
    · rintro ⟨k1, k2, k3⟩
      have ks := h _ _ (by omega) (by omega) k3
      refine ⟨by omega, by omega, ?_⟩
      rw [if_pos (by omega), show ((q.toNat : Int) - y).toNat = (q - y).toNat by omega, show ((p.toNat : Int) - x).toNat = (p - x).toNat by omega]
      exact k3
    · rintro ⟨k1, k2, k3⟩
      split at k3
      · rename_i hc
        rw [show ((q.toNat : Int) - y).toNat = (q - y).toNat by omega, show ((p.toNat : Int) - x).toNat = (p - x).toNat by omega] at k3
        exact ⟨by omega, by omega, k3⟩
      · cases k3
  · unfold movF at e
    split at e
    · rename_i hc
      have := h _ _ (by omega) (by omega) e
      omega
    · cases e
end Go.Proofs.Ytkpamofamcndnaa
