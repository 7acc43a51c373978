/- Regions plain: the hull. -/
import Derived.Test.YtkpamofamcndnaaRegW
import Derived.Test.YtkpamofamcndnaaRegM
namespace Go.Proofs.Ytkpamofamcndnaa
set_option linter.unusedSimpArgs false
set_option linter.unusedVariables false

def hull2 (p q : RectQ) : RectQ := (h0 p.1 p.2.1 p.2.2.1 p.2.2.2 q.1 q.2.1 q.2.2.1 q.2.2.2, h1 p.1 p.2.1 p.2.2.1 p.2.2.2 q.1 q.2.1 q.2.2.1 q.2.2.2, h2 p.1 p.2.1 p.2.2.1 p.2.2.2 q.1 q.2.1 q.2.2.1 q.2.2.2, h3 p.1 p.2.1 p.2.2.1 p.2.2.2 q.1 q.2.1 q.2.2.1 q.2.2.2)
def hullQ (l : List RectQ) : RectQ := l.foldl hull2 (0, 0, 0, 0)
theorem hullQ_snoc (l : List RectQ) (q : RectQ) : hullQ (l ++ [q]) = hull2 (hullQ l) q := by simp [hullQ]
def nfQ (r : RectQ) : Prop := NF r.1 r.2.1 r.2.2.1 r.2.2.2
/-- The least rectangle that has some pixels. -/
structure HullIs (P : Int → Int → Bool) (r : RectQ) : Prop where
  nf : nfQ r
  has : ∀ x y, P x y = true → inQ r x y
  left : r.1 < r.2.2.1 → ∃ y, P r.1 y = true
  top : r.1 < r.2.2.1 → ∃ x, P x r.2.1 = true
  right : r.1 < r.2.2.1 → ∃ y, P (r.2.2.1 - 1) y = true
  bottom : r.1 < r.2.2.1 → ∃ x, P x (r.2.2.2 - 1) = true
theorem HullIs.uniq {P : Int → Int → Bool} {r s : RectQ} (h : HullIs P r) (k : HullIs P s) : r = s := by
  have hn := h.nf; have kn := k.nf
  unfold nfQ NF at hn kn
  obtain ⟨r0, r1, r2, r3⟩ := r
  obtain ⟨s0, s1, s2, s3⟩ := s
  simp only at hn kn
  by_cases c : r0 < r2
  · obtain ⟨y1, p1⟩ := h.left c; obtain ⟨x2, p2⟩ := h.top c; obtain ⟨y3, p3⟩ := h.right c; obtain ⟨x4, p4⟩ := h.bottom c
    have q1 := k.has _ _ p1; have q2 := k.has _ _ p2; have q3 := k.has _ _ p3; have q4 := k.has _ _ p4
    simp only [inQ] at q1 q2 q3 q4
    have d : s0 < s2 := by omega
    obtain ⟨z1, o1⟩ := k.left d; obtain ⟨w2, o2⟩ := k.top d; obtain ⟨z3, o3⟩ := k.right d; obtain ⟨w4, o4⟩ := k.bottom d
    have t1 := h.has _ _ o1; have t2 := h.has _ _ o2; have t3 := h.has _ _ o3; have t4 := h.has _ _ o4
    simp only [inQ] at t1 t2 t3 t4
    have e0 : r0 = s0 := by omega
    have e1 : r1 = s1 := by omega
    have e2 : r2 = s2 := by omega
    have e3 : r3 = s3 := by omega
    rw [e0, e1, e2, e3]
  · by_cases d : s0 < s2
    · obtain ⟨z1, o1⟩ := k.left d
      have t1 := h.has _ _ o1
      simp only [inQ] at t1
      omega
    · have e0 : r0 = s0 := by omega
      have e1 : r1 = s1 := by omega
      have e2 : r2 = s2 := by omega
      have e3 : r3 = s3 := by omega
      rw [e0, e1, e2, e3]
theorem HullIs.congr {P Q : Int → Int → Bool} {r : RectQ} (h : HullIs P r) (e : ∀ x y, P x y = Q x y) : HullIs Q r := by
  have : P = Q := funext fun x => funext fun y => e x y
  exact this ▸ h
/-- A rectangle, put right, is the hull of its pixels. -/
def nQ (r : RectQ) : RectQ := (r0 r.1 r.2.1 r.2.2.1 r.2.2.2, r1 r.1 r.2.1 r.2.2.1 r.2.2.2, r2 r.1 r.2.1 r.2.2.1 r.2.2.2, r3 r.1 r.2.1 r.2.2.1 r.2.2.2)
theorem nQ_nf (r : RectQ) : nfQ (nQ r) := nf_r _ _ _ _
theorem nQ_same {r : RectQ} (h : nfQ r) : nQ r = r := by
  obtain ⟨s0, s1, s2, s3⟩ := r_same h
  unfold nQ
  rw [s0, s1, s2, s3]
theorem hasQ_in (r : RectQ) (x y : Int) : hasQ r x y = true ↔ inQ (nQ r) x y := by
  unfold hasQ hasR inQ nQ
  simp only [decide_eq_true_eq]
theorem hull_rect (r : RectQ) : HullIs (hasQ r) (nQ r) := by
  have hn := nQ_nf r
  have hi := hasQ_in r
  generalize nQ r = s at *
  obtain ⟨s0, s1, s2, s3⟩ := s
  unfold nfQ NF at hn
  simp only [inQ] at hn hi
  refine ⟨hn, fun x y h => (hi x y).1 h, fun h => ⟨s1, (hi _ _).2 ?_⟩, fun h => ⟨s0, (hi _ _).2 ?_⟩, fun h => ⟨s1, (hi _ _).2 ?_⟩, fun h => ⟨s0, (hi _ _).2 ?_⟩⟩
  all_goals (simp only at h ⊢; omega)
theorem hull_both {P Q : Int → Int → Bool} {r s : RectQ} (h : HullIs P r) (k : HullIs Q s) : HullIs (fun x y => P x y || Q x y) (hull2 r s) := by
  obtain ⟨p, q, r', s', A, B, C, D, X, Y, Z, T, e0, e1, e2, e3, a0, a1, a2, a3, x0, x1, x2, x3, hA, hX, hp, hc⟩ := h_all r.1 r.2.1 r.2.2.1 r.2.2.2 s.1 s.2.1 s.2.2.1 s.2.2.2
  obtain ⟨n0, n1, n2, n3⟩ := r_same h.nf
  obtain ⟨m0, m1, m2, m3⟩ := r_same k.nf
  rw [n0] at a0; rw [n1] at a1; rw [n2] at a2; rw [n3] at a3; rw [m0] at x0; rw [m1] at x1; rw [m2] at x2; rw [m3] at x3
  have eh : hull2 r s = (p, q, r', s') := by unfold hull2; rw [e0, e1, e2, e3]
  rw [eh]
  have h1 := h.has; have k1 := k.has; have hl := h.left; have ht := h.top; have hr := h.right; have hb := h.bottom
  have kl := k.left; have kt := k.top; have kr := k.right; have kb := k.bottom
  obtain ⟨rr0, rr1, rr2, rr3⟩ := r
  obtain ⟨ss0, ss1, ss2, ss3⟩ := s
  simp only at a0 a1 a2 a3 x0 x1 x2 x3
  subst a0 a1 a2 a3 x0 x1 x2 x3
  simp only [inQ] at h1 k1 hl ht hr hb kl kt kr kb
  unfold NF at hA hX hp
  have OL : ∀ {x y}, P x y = true → (P x y || Q x y) = true := fun h => by rw [h]; rfl
  have OR : ∀ {x y}, Q x y = true → (P x y || Q x y) = true := fun h => by rw [h, Bool.or_true]
  rcases hc with ⟨c0, c1, c2, c3, c4, c5, c6, c7⟩ | ⟨c0, c1, c2, c3, c4, c5, c6, c7, c8⟩ | ⟨c0, c1, c2, c3, c4, c5⟩
  · subst c4 c5 c6 c7
    refine ⟨hX, fun x y hh => ?_, fun d => ?_, fun d => ?_, fun d => ?_, fun d => ?_⟩
    · rcases Bool.or_eq_true_iff.1 hh with g | g
      · have := h1 x y g; simp only [inQ]; omega
      · exact k1 x y g
    · obtain ⟨y, g⟩ := kl d; exact ⟨y, OR g⟩
    · obtain ⟨y, g⟩ := kt d; exact ⟨y, OR g⟩
    · obtain ⟨y, g⟩ := kr d; exact ⟨y, OR g⟩
    · obtain ⟨y, g⟩ := kb d; exact ⟨y, OR g⟩
  · subst c5 c6 c7 c8
    refine ⟨hA, fun x y hh => ?_, fun d => ?_, fun d => ?_, fun d => ?_, fun d => ?_⟩
    · rcases Bool.or_eq_true_iff.1 hh with g | g
      · exact h1 x y g
      · have := k1 x y g; simp only [inQ]; omega
    · obtain ⟨y, g⟩ := hl d; exact ⟨y, OL g⟩
    · obtain ⟨y, g⟩ := ht d; exact ⟨y, OL g⟩
    · obtain ⟨y, g⟩ := hr d; exact ⟨y, OL g⟩
    · obtain ⟨y, g⟩ := hb d; exact ⟨y, OL g⟩
  · subst c2 c3 c4 c5
    refine ⟨hp, fun x y hh => ?_, fun d => ?_, fun d => ?_, fun d => ?_, fun d => ?_⟩
    · rcases Bool.or_eq_true_iff.1 hh with g | g
      · have := h1 x y g; simp only [inQ]; omega
      · have := k1 x y g; simp only [inQ]; omega
    · obtain ⟨y, g⟩ := hl c0; obtain ⟨y', g'⟩ := kl c1
      show ∃ y, (P (min rr0 ss0) y || Q (min rr0 ss0) y) = true
      rcases Int.le_total rr0 ss0 with z | z
      · rw [Int.min_eq_left z]; exact ⟨y, OL g⟩
      · rw [Int.min_eq_right z]; exact ⟨y', OR g'⟩
    · obtain ⟨y, g⟩ := ht c0; obtain ⟨y', g'⟩ := kt c1
      show ∃ x, (P x (min rr1 ss1) || Q x (min rr1 ss1)) = true
      rcases Int.le_total rr1 ss1 with z | z
      · rw [Int.min_eq_left z]; exact ⟨y, OL g⟩
      · rw [Int.min_eq_right z]; exact ⟨y', OR g'⟩
    · obtain ⟨y, g⟩ := hr c0; obtain ⟨y', g'⟩ := kr c1
      show ∃ y, (P (max rr2 ss2 - 1) y || Q (max rr2 ss2 - 1) y) = true
      rcases Int.le_total rr2 ss2 with z | z
      · rw [Int.max_eq_right z]; exact ⟨y', OR g'⟩
      · rw [Int.max_eq_left z]; exact ⟨y, OL g⟩
    · obtain ⟨y, g⟩ := hb c0; obtain ⟨y', g'⟩ := kb c1
      show ∃ x, (P x (max rr3 ss3 - 1) || Q x (max rr3 ss3 - 1)) = true
      rcases Int.le_total rr3 ss3 with z | z
      · rw [Int.max_eq_right z]; exact ⟨y', OR g'⟩
      · rw [Int.max_eq_left z]; exact ⟨y, OL g⟩
theorem hull_none {P : Int → Int → Bool} (h : ∀ x y, P x y = false) : HullIs P (0, 0, 0, 0) := by
  have c : ¬ ((0 : Int) < 0) := by omega
  refine ⟨?_, fun x y k => (by rw [h] at k; cases k), fun d => absurd d c, fun d => absurd d c, fun d => absurd d c, fun d => absurd d c⟩
  show NF 0 0 0 0
  unfold NF; omega
theorem hull_fold : ∀ (l : List RectQ) (P : Int → Int → Bool) (r : RectQ), (∀ q ∈ l, nfQ q) → HullIs P r → HullIs (fun x y => P x y || l.any fun q => hasQ q x y) (l.foldl hull2 r)
  | [], P, r, _, h => h.congr (fun x y => by simp)
  | q :: l, P, r, hl, h => by
    have k := hull_both h (nQ_same (hl q (.head _)) ▸ hull_rect q)
    exact (hull_fold l _ _ (fun x hx => hl x (.tail _ hx)) k).congr (fun x y => by rw [List.any_cons, Bool.or_assoc])
theorem hull_list (l : List RectQ) (hl : ∀ q ∈ l, nfQ q) : HullIs (fun x y => l.any fun q => hasQ q x y) (hullQ l) :=
  (hull_fold l (fun _ _ => false) _ hl (hull_none (fun _ _ => rfl))).congr (fun x y => by rw [Bool.false_or])
/-- The rectangles of a region are put right. -/
theorem pairs_nf {y0 y1 : Int} (h0 : -1073741824 ≤ y0) (h1 : y0 < y1) (h2 : y1 ≤ 1073741824) : ∀ {es : List Int} {m : Int}, -1073741825 ≤ m → Up m es → (∀ e ∈ es, e ≤ 1073741824) → ∀ q ∈ pairsZ y0 y1 es, nfQ q ∧ q.1 < q.2.2.1
  | [], m, _, _, _, q, hq => by cases hq
  | [a], m, _, _, _, q, hq => by cases hq
  | a :: c :: l, m, hm, h, he, q, hq => by
    have k1 := h.1; have k2 := h.2.1
    have k3 := he c (by simp)
    cases hq with
    | head => exact ⟨by unfold nfQ NF; simp only; omega, k2⟩
    | tail _ hq => exact pairs_nf h0 h1 h2 (m := c) (by omega) h.2.2 (fun e q => he e (.tail _ (.tail _ q))) q hq
theorem RegOk.nf {B : List BandZ} (h : RegOk B) : ∀ q ∈ rectsZ B, nfQ q ∧ q.1 < q.2.2.1 := fun q hq => by
  obtain ⟨b, hb, hq⟩ := List.mem_flatMap.1 hq
  obtain ⟨h1, h2, h3⟩ := okB_ne h.ok b hb
  exact pairs_nf h3 h2 (h.hiY b hb) (Int.le_refl _) (okB_up h.ok b hb) (h.hiX b hb) q hq
theorem RegOk.any {B : List BandZ} (h : RegOk B) (x y : Int) : ((rectsZ B).any fun q => hasQ q x y) = hasB B x y := by
  rw [Bool.eq_iff_iff, rects_has h.ok h.even, List.any_eq_true]
  constructor
  · rintro ⟨q, hq, k⟩
    rw [hasQ_in, nQ_same (h.nf q hq).1] at k
    exact ⟨q, hq, k⟩
  · rintro ⟨q, hq, k⟩
    refine ⟨q, hq, ?_⟩
    rw [hasQ_in, nQ_same (h.nf q hq).1]; exact k
/-- The hull of a region is the hull of its pixels. -/
theorem RegOk.hull {B : List BandZ} (h : RegOk B) : HullIs (hasB B) (hullQ (rectsZ B)) :=
  (hull_list (rectsZ B) (fun q hq => (h.nf q hq).1)).congr (fun x y => h.any x y)
theorem RegOk.same {A B : List BandZ} (h : RegOk A) (k : RegOk B) : rectsZ A = rectsZ B ↔ A = B :=
  ⟨fun e => rects_uniq h.ok k.ok h.even k.even e, fun e => by rw [e]⟩
/-- A region made again of its rectangles. -/
theorem RegOk.again {B : List BandZ} (h : RegOk B) : ofL (rectsZ B) = B :=
  RegOk.uniq (ofL_ok _) h (fun x y => by rw [ofL_has, h.any])
end Go.Proofs.Ytkpamofamcndnaa
