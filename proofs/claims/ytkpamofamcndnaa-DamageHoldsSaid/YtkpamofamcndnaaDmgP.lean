/- Damage, plain: what holds after each rectangle. -/
import Derived.Test.YtkpamofamcndnaaDmg
namespace Go.Proofs.Ytkpamofamcndnaa
open Go.RowKit Go.Shelf
set_option linter.unusedSimpArgs false
set_option linter.unusedVariables false

theorem HullIs.sub {P : Int → Int → Bool} {r s : RectQ} (h : HullIs P r) (hs : nfQ s) (hp : ∀ x y, P x y = true → inQ s x y) : ∀ x y, inQ r x y → inQ s x y := fun x y hi => by
  have hn := h.nf
  have h1 := h.left; have h2 := h.top; have h3 := h.right; have h4 := h.bottom
  obtain ⟨r0, r1, r2, r3⟩ := r
  obtain ⟨s0, s1, s2, s3⟩ := s
  simp only [inQ] at hi hp h1 h2 h3 h4 ⊢
  have c : r0 < r2 := by omega
  obtain ⟨y1, p1⟩ := h1 c; obtain ⟨x2, p2⟩ := h2 c; obtain ⟨y3, p3⟩ := h3 c; obtain ⟨x4, p4⟩ := h4 c
  have q1 := hp _ _ p1; have q2 := hp _ _ p2; have q3 := hp _ _ p3; have q4 := hp _ _ p4
  omega
theorem holdsQ_of {r s : RectQ} (hr : nfQ r) (hs : nfQ s) (h : ∀ x y, inQ s x y → inQ r x y) : holdsR r.1 r.2.1 r.2.2.1 r.2.2.2 s.1 s.2.1 s.2.2.1 s.2.2.2 = true := by
  obtain ⟨p, q, r', s', A, B, C, D, X, Y, Z, T, e0, e1, e2, e3, a0, a1, a2, a3, x0, x1, x2, x3, hA, hX, hp, hc⟩ := n_all r.1 r.2.1 r.2.2.1 r.2.2.2 s.1 s.2.1 s.2.2.1 s.2.2.2
  obtain ⟨n0', n1', n2', n3'⟩ := r_same hr
  obtain ⟨m0, m1, m2, m3⟩ := r_same hs
  show eq4 (n0 _ _ _ _ _ _ _ _) (n1 _ _ _ _ _ _ _ _) (n2 _ _ _ _ _ _ _ _) (n3 _ _ _ _ _ _ _ _) _ _ _ _ = true
  rw [eq4_iff, e0, e1, e2, e3, x0, x1, x2, x3]
  rw [n0'] at a0; rw [n1'] at a1; rw [n2'] at a2; rw [n3'] at a3
  rw [m0] at x0; rw [m1] at x1; rw [m2] at x2; rw [m3] at x3
  obtain ⟨rr0, rr1, rr2, rr3⟩ := r
  obtain ⟨ss0, ss1, ss2, ss3⟩ := s
  simp only at a0 a1 a2 a3 x0 x1 x2 x3
  subst a0 a1 a2 a3 x0 x1 x2 x3
  simp only [inQ] at h
  unfold NF at hA hX
  rcases hX with ⟨b1, b2, b3, b4, b5 | b5⟩
  · have t1 := h ss0 ss1 (by omega)
    have t2 := h (ss2 - 1) (ss3 - 1) (by omega)
    omega
  · omega
/-- What holds of the damage D after the rectangles L. -/
structure DmgOk (n : Int) (L : List RectQ) (D : List BandZ) (co : Bool) : Prop where
  made : ∃ K : List RectQ, K.length ≤ L.length ∧ D = ofL K
  sup : ∀ x y, hasB (ofL L) x y = true → hasB D x y = true
  sub : ∀ x y, hasB D x y = true → inQ (hullQ (rectsZ (ofL L))) x y
  few : ((rectsZ D).length : Int) ≤ n
  same : co = false → D = ofL L
theorem DmgOk.ok {n : Int} {L : List RectQ} {D : List BandZ} {co : Bool} (h : DmgOk n L D co) : RegOk D := by
  obtain ⟨K, _, rfl⟩ := h.made; exact ofL_ok K
theorem dmgOk_nil {n : Int} (hn : 1 ≤ n) : DmgOk n [] [] false := ⟨⟨[], Nat.le_refl _, rfl⟩, fun x y h => (by cases h), fun x y h => (by cases h), by show ((0 : Nat) : Int) ≤ n; omega, fun _ => rfl⟩
theorem ofL_rects (L : List RectQ) (hL : L.length ≤ 1000) : (rectsZ (ofL L)).length ≤ 10000000 := by
  obtain ⟨xs, ys, h1, h2, h3⟩ := ofL_grid L
  have := h1.rects (ofL_ok L)
  rw [h2, h3] at this
  have k : 2 * L.length * (2 * L.length) ≤ 2000 * 2000 := Nat.mul_le_mul (by omega) (by omega)
  omega
theorem DmgOk.join_eq {n : Int} {L : List RectQ} {D : List BandZ} {co : Bool} (h : DmgOk n L D co) (r : RectQ) : ∃ K : List RectQ, K.length ≤ L.length + 1 ∧ combZ orK D (oneQ r) = ofL K := by
  obtain ⟨K, hK, rfl⟩ := h.made
  exact ⟨K ++ [r], by rw [List.length_append]; simp; omega, by rw [ofL_one, ofL_append]⟩
theorem DmgOk.rects {n : Int} {L : List RectQ} {D : List BandZ} {co : Bool} (h : DmgOk n L D co) (hL : L.length ≤ 100) (r : RectQ) : (rectsZ (combZ orK D (oneQ r))).length ≤ 10000000 := by
  obtain ⟨K, hK, e⟩ := h.join_eq r
  rw [e]; exact ofL_rects K (by omega)
theorem DmgOk.step {n : Int} (hn : 1 ≤ n) {L : List RectQ} {D : List BandZ} {co : Bool} (h : DmgOk n L D co) (r : RectQ) : DmgOk n (L ++ [r]) (joinB n D (oneQ r)) (joinC n D (oneQ r) co) := by
  have hD := h.ok
  obtain ⟨hU, hUh⟩ := hD.comb (keep := orK) rfl (oneQ_ok r)
  have hL := ofL_has L
  have hLr : ∀ x y, hasB (ofL (L ++ [r])) x y = (hasB (ofL L) x y || hasQ r x y) := fun x y => by rw [ofL_has, hL, List.any_append]; simp
  have hA := (ofL_ok (L ++ [r])).hull
  have hA0 := (ofL_ok L).hull
  have hUr : ∀ x y, hasB (combZ orK D (oneQ r)) x y = (hasB D x y || hasQ r x y) := fun x y => by rw [hUh, oneQ_has]; rfl
  have hsup : ∀ x y, hasB (ofL (L ++ [r])) x y = true → hasB (combZ orK D (oneQ r)) x y = true := fun x y q => by
    rw [hLr, Bool.or_eq_true] at q
    rw [hUr, Bool.or_eq_true]
    exact q.imp (h.sup x y) id
  have hmono : ∀ x y, inQ (hullQ (rectsZ (ofL L))) x y → inQ (hullQ (rectsZ (ofL (L ++ [r])))) x y := hA0.sub hA.nf (fun x y q => hA.has x y (by rw [hLr, q]; rfl))
  have hsub : ∀ x y, hasB (combZ orK D (oneQ r)) x y = true → inQ (hullQ (rectsZ (ofL (L ++ [r])))) x y := fun x y q => by
    rw [hUr, Bool.or_eq_true] at q
    rcases q with q | q
    · exact hmono x y (h.sub x y q)
    · exact hA.has x y (by rw [hLr, q, Bool.or_true])
  unfold joinB joinC
  by_cases c : n < ((rectsZ (combZ orK D (oneQ r))).length : Int)
  · rw [if_pos c, if_pos c]
    have hH := hU.hull
    have hn1 : ∀ x y, hasB (oneQ (hullQ (rectsZ (combZ orK D (oneQ r))))) x y = true ↔ inQ (hullQ (rectsZ (combZ orK D (oneQ r)))) x y := fun x y => by
      rw [oneQ_has]
      have := hasQ_in (hullQ (rectsZ (combZ orK D (oneQ r)))) x y
      rw [nQ_same hH.nf] at this
      exact this
    refine ⟨⟨[hullQ (rectsZ (combZ orK D (oneQ r)))], by simp, ofL_one _⟩, fun x y q => (hn1 x y).2 (hH.has x y (hsup x y q)), fun x y q => hH.sub hA.nf hsub x y ((hn1 x y).1 q), ?_, fun q => by simp at q⟩
    rcases one_rects hH.nf with ⟨e, _⟩ | e
    · rw [e]; simp; omega
    · rw [e]; simp; omega
  · rw [if_neg c, if_neg c]
    obtain ⟨K, hK, e⟩ := h.join_eq r
    refine ⟨⟨K, by rw [List.length_append]; simpa using hK, e⟩, hsup, hsub, by omega, fun q => ?_⟩
    rw [h.same q, ofL_one, ofL_append]
theorem DmgOk.minus {n : Int} {L : List RectQ} {D : List BandZ} {co : Bool} (h : DmgOk n L D co) : combZ minusK (ofL L) D = [] := by
  obtain ⟨k1, k2⟩ := (ofL_ok L).comb (keep := minusK) rfl h.ok
  refine RegOk.uniq k1 regOk_nil (fun x y => ?_)
  rw [k2]
  show (hasB (ofL L) x y && !hasB D x y) = false
  cases e : hasB (ofL L) x y
  · rfl
  · rw [h.sup x y e]; rfl
theorem DmgOk.holds {n : Int} {L : List RectQ} {D : List BandZ} {co : Bool} (h : DmgOk n L D co) {a b c d x y z t : Int} (e1 : hullQ (rectsZ (ofL L)) = (a, b, c, d)) (e2 : hullQ (rectsZ D) = (x, y, z, t)) : holdsR a b c d x y z t = true := by
  have hA := (ofL_ok L).hull
  have hD := h.ok.hull
  have hs := h.sub
  rw [e1] at hA hs
  rw [e2] at hD
  have q := holdsQ_of (r := (a, b, c, d)) (s := (x, y, z, t)) hA.nf hD.nf (hD.sub hA.nf hs)
  simp only at q
  exact q
end Go.Proofs.Ytkpamofamcndnaa
