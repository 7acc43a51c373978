/- Regions as lists of bands, plain: which pixels they have; there is but one list of bands, put right, for the same pixels. -/
import Derived.Test.YtkpamofamcndnaaOwn
namespace Go.Proofs.Ytkpamofamcndnaa
set_option linter.unusedSimpArgs false
set_option linter.unusedVariables false

/-- Is a place within the runs of edges? -/
def inR : List Int → Int → Bool
  | [], _ => false
  | e :: es, x => decide (e ≤ x) != inR es x
/-- Rising, from m on. -/
def Up (m : Int) : List Int → Prop
  | [] => True
  | e :: es => m < e ∧ Up e es
theorem Up.mono {m m' : Int} {l : List Int} (h : Up m l) (hm : m' ≤ m) : Up m' l := by
  cases l with
  | nil => trivial
  | cons e es => exact ⟨by have := h.1; omega, h.2⟩
theorem Up.lt {m : Int} : ∀ {l : List Int}, Up m l → ∀ x ∈ l, m < x
  | [], _, x, h => by cases h
  | e :: es, h, x, hx => by
    cases hx with
    | head => exact h.1
    | tail _ hx => have := Up.lt h.2 x hx; have := h.1; omega
theorem inR_low {m : Int} : ∀ {l : List Int}, Up m l → ∀ x, x ≤ m → inR l x = false
  | [], _, x, _ => rfl
  | e :: es, h, x, hx => by
    show (decide (e ≤ x) != inR es x) = false
    have h1 := h.1
    rw [inR_low h.2 x (by omega), decide_eq_false (by omega)]; rfl
theorem inR_uniq : ∀ {m : Int} {a b : List Int}, Up m a → Up m b → (∀ x, m < x → inR a x = inR b x) → a = b
  | m, [], [], _, _, _ => rfl
  | m, [], e :: es, _, hb, h => by
    have h1 := h e hb.1
    have h2 : inR (e :: es) e = true := by
      show (decide (e ≤ e) != inR es e) = true
      rw [inR_low hb.2 e (Int.le_refl _), decide_eq_true (Int.le_refl _)]; rfl
    rw [h2] at h1; cases h1
  | m, e :: es, [], ha, _, h => by
    have h1 := h e ha.1
    have h2 : inR (e :: es) e = true := by
      show (decide (e ≤ e) != inR es e) = true
      rw [inR_low ha.2 e (Int.le_refl _), decide_eq_true (Int.le_refl _)]; rfl
    rw [h2] at h1; cases h1
  | m, e :: es, f :: fs, ha, hb, h => by
    have h2 : inR (e :: es) e = true := by
      show (decide (e ≤ e) != inR es e) = true
      rw [inR_low ha.2 e (Int.le_refl _), decide_eq_true (Int.le_refl _)]; rfl
    have h3 : inR (f :: fs) f = true := by
      show (decide (f ≤ f) != inR fs f) = true
      rw [inR_low hb.2 f (Int.le_refl _), decide_eq_true (Int.le_refl _)]; rfl
    rcases Int.lt_trichotomy e f with c | c | c
    · have h1 := h e ha.1
      have hb' : Up e (f :: fs) := ⟨c, hb.2⟩
      rw [h2, inR_low hb' e (Int.le_refl _)] at h1; cases h1
    · subst c
      congr 1
      refine inR_uniq ha.2 hb.2 (fun x hx => ?_)
      have h1 := h x (by have := ha.1; omega)
      have h1 : (decide (e ≤ x) != inR es x) = (decide (e ≤ x) != inR fs x) := h1
      rw [decide_eq_true (by omega)] at h1
      simpa using h1
    · have h1 := h f hb.1
      have ha' : Up f (e :: es) := ⟨c, ha.2⟩
      rw [h3, inR_low ha' f (Int.le_refl _)] at h1; cases h1
structure BandZ where
  (y0 y1 : Int)
  (es : List Int)
/-- The edges of the band that holds a row. -/
def rowB : List BandZ → Int → List Int
  | [], _ => []
  | b :: B, y => if b.y0 ≤ y ∧ y < b.y1 then b.es else rowB B y
/-- Bands put right, from row m on; e: the edges of a band that ends there. -/
def OkB (lo : Int) (m : Int) (e : List Int) : List BandZ → Prop
  | [] => True
  | b :: B => m ≤ b.y0 ∧ b.y0 < b.y1 ∧ Up lo b.es ∧ b.es ≠ [] ∧ (b.y0 = m → b.es ≠ e) ∧ OkB lo b.y1 b.es B
theorem rowB_low {lo m : Int} {e : List Int} : ∀ {B : List BandZ}, OkB lo m e B → ∀ y, y < m → rowB B y = []
  | [], _, y, _ => rfl
  | b :: B, h, y, hy => by
    obtain ⟨h1, h2, h3, h4, h5, h6⟩ := h
    show (if b.y0 ≤ y ∧ y < b.y1 then _ else _) = _
    rw [if_neg (by omega), rowB_low h6 y (by omega)]
/-- At its first row a list put right has other edges than those of the band that ends there. -/
theorem rowB_first {lo m : Int} {e : List Int} (he : e ≠ []) : ∀ {B : List BandZ}, OkB lo m e B → rowB B m ≠ e
  | [], _ => fun q => he q.symm
  | b :: B, h => by
    obtain ⟨h1, h2, h3, h4, h5, h6⟩ := h
    show (if b.y0 ≤ m ∧ m < b.y1 then _ else _) ≠ _
    by_cases c : b.y0 = m
    · rw [if_pos (by omega)]; exact h5 c
    · rw [if_neg (by omega), rowB_low h6 m (by omega)]; exact fun q => he q.symm
theorem okB_uniq : ∀ {lo m : Int} {e : List Int} {A B : List BandZ}, OkB lo m e A → OkB lo m e B → (∀ y, m ≤ y → rowB A y = rowB B y) → A = B
  | lo, m, e, [], [], _, _, _ => rfl
  | lo, m, e, [], b :: B, _, hb, h => by
    obtain ⟨h1, h2, h3, h4, h5, h6⟩ := hb
    have q := h b.y0 h1
    have q2 : rowB (b :: B) b.y0 = b.es := if_pos ⟨Int.le_refl _, h2⟩
    rw [q2] at q
    exact absurd q.symm h4
  | lo, m, e, a :: A, [], ha, _, h => by
    obtain ⟨h1, h2, h3, h4, h5, h6⟩ := ha
    have q := h a.y0 h1
    have q2 : rowB (a :: A) a.y0 = a.es := if_pos ⟨Int.le_refl _, h2⟩
    rw [q2] at q
    exact absurd q h4
  | lo, m, e, a :: A, b :: B, ha, hb, h => by
    obtain ⟨a1, a2, a3, a4, a5, a6⟩ := ha
    obtain ⟨b1, b2, b3, b4, b5, b6⟩ := hb
    have qa : rowB (a :: A) a.y0 = a.es := if_pos ⟨Int.le_refl _, a2⟩
    have qb : rowB (b :: B) b.y0 = b.es := if_pos ⟨Int.le_refl _, b2⟩
    have e0 : a.y0 = b.y0 := by
      rcases Int.lt_trichotomy a.y0 b.y0 with c | c | c
      · have q := h a.y0 a1
        have q2 : rowB (b :: B) a.y0 = [] := by
          show (if _ then _ else _) = _
          rw [if_neg (by omega), rowB_low b6 _ (by omega)]
        rw [qa, q2] at q; exact absurd q a4
      · exact c
      · have q := h b.y0 b1
        have q2 : rowB (a :: A) b.y0 = [] := by
          show (if _ then _ else _) = _
          rw [if_neg (by omega), rowB_low a6 _ (by omega)]
        rw [qb, q2] at q; exact absurd q.symm b4
    have ee : a.es = b.es := by
      have q := h a.y0 a1
      rw [qa, e0, qb] at q; exact q
    have e1 : a.y1 = b.y1 := by
      rcases Int.lt_trichotomy a.y1 b.y1 with c | c | c
      · have q := h a.y1 (by omega)
        have q2 : rowB (b :: B) a.y1 = b.es := if_pos (by omega)
        have q3 : rowB (a :: A) a.y1 = rowB A a.y1 := if_neg (by omega)
        rw [q2, q3, ← ee] at q
        exact absurd q (rowB_first a4 a6)
      · exact c
      · have q := h b.y1 (by omega)
        have q2 : rowB (a :: A) b.y1 = a.es := if_pos (by omega)
        have q3 : rowB (b :: B) b.y1 = rowB B b.y1 := if_neg (by omega)
        rw [q2, q3, ee] at q
        exact absurd q.symm (rowB_first b4 b6)
    have et : A = B := by
      have b6' : OkB lo a.y1 a.es B := by rw [e1, ee]; exact b6
      refine okB_uniq a6 b6' (fun y hy => ?_)
      have q := h y (by omega)
      have q2 : rowB (a :: A) y = rowB A y := if_neg (by omega)
      have q3 : rowB (b :: B) y = rowB B y := if_neg (by omega)
      rw [q2, q3] at q; exact q
    cases a; cases b
    simp only at e0 e1 ee
    subst e0 e1 ee et
    rfl
/-- The pixels. -/
def hasB (B : List BandZ) (x y : Int) : Bool := inR (rowB B y) x
theorem rowB_up {lo m : Int} {e : List Int} : ∀ {B : List BandZ}, OkB lo m e B → ∀ y, Up lo (rowB B y)
  | [], _, y => trivial
  | b :: B, h, y => by
    obtain ⟨h1, h2, h3, h4, h5, h6⟩ := h
    show Up lo (if _ then _ else _)
    by_cases c : b.y0 ≤ y ∧ y < b.y1
    · rw [if_pos c]; exact h3
    · rw [if_neg c]; exact rowB_up h6 y
/-- THE SAME PIXELS, THE SAME BANDS. -/
theorem region_uniq {lo m : Int} {A B : List BandZ} (ha : OkB lo m [] A) (hb : OkB lo m [] B) (h : ∀ x y, hasB A x y = hasB B x y) : A = B :=
  okB_uniq ha hb (fun y _ => inR_uniq (rowB_up ha y) (rowB_up hb y) (fun x _ => h x y))
end Go.Proofs.Ytkpamofamcndnaa
