/- Regions plain: their rectangles, band by band; the same rectangles, the same bands. -/
import Derived.Test.YtkpamofamcndnaaRegT
namespace Go.Proofs.Ytkpamofamcndnaa
set_option linter.unusedSimpArgs false
set_option linter.unusedVariables false

abbrev RectQ := Int × Int × Int × Int
def pairsZ (y0 y1 : Int) : List Int → List RectQ
  | a :: c :: l => (a, y0, c, y1) :: pairsZ y0 y1 l
  | _ => []
def rectsZ (B : List BandZ) : List RectQ := B.flatMap fun b => pairsZ b.y0 b.y1 b.es
def inQ (r : RectQ) (x y : Int) : Prop := r.1 ≤ x ∧ x < r.2.2.1 ∧ r.2.1 ≤ y ∧ y < r.2.2.2
theorem pairs_in {y0 y1 x y : Int} : ∀ {l : List Int} {m : Int}, Up m l → l.length % 2 = 0 → ((∃ r ∈ pairsZ y0 y1 l, inQ r x y) ↔ inR l x = true ∧ y0 ≤ y ∧ y < y1)
  | [], m, _, _ => by simp [pairsZ, inR]
  | [a], m, _, h => by simp at h
  | a :: c :: l, m, h, he => by
    have ih := pairs_in (y0 := y0) (y1 := y1) (x := x) (y := y) h.2.2 (by simp at he; omega)
    have e1 : inR (a :: c :: l) x = (decide (a ≤ x) != (decide (c ≤ x) != inR l x)) := rfl
    have hac := h.2.1
    constructor
    · rintro ⟨r, hr, hq⟩
      cases hr with
      | head =>
        obtain ⟨q1, q2, q3, q4⟩ := hq
        have q1 : a ≤ x := q1
        have q2 : x < c := q2
        refine ⟨?_, q3, q4⟩
        rw [e1, decide_eq_true q1, decide_eq_false (by omega), inR_low h.2.2 x (by omega)]; rfl
      | tail _ hr =>
        obtain ⟨k1, k2, k3⟩ := ih.1 ⟨r, hr, hq⟩
        have hx : c < x ∨ x ≤ c := by omega
        rcases hx with hx | hx
        · exact ⟨by rw [e1, decide_eq_true (by omega), decide_eq_true (by omega), k1]; rfl, k2, k3⟩
        · rw [inR_low h.2.2 x hx] at k1; cases k1
    · rintro ⟨k1, k2, k3⟩
      rw [e1] at k1
      by_cases q1 : a ≤ x
      · by_cases q2 : c ≤ x
        · rw [decide_eq_true q1, decide_eq_true q2] at k1
          obtain ⟨r, hr, hq⟩ := ih.2 ⟨by simpa using k1, k2, k3⟩
          exact ⟨r, .tail _ hr, hq⟩
        · exact ⟨_, .head _, q1, by show x < c; omega, k2, k3⟩
      · rw [decide_eq_false q1, decide_eq_false (show ¬ c ≤ x by omega), inR_low h.2.2 x (by omega)] at k1
        cases k1
theorem hasB_iff {lo : Int} {x y : Int} : ∀ {B : List BandZ} {m : Int} {e : List Int}, OkB lo m e B → (hasB B x y = true ↔ ∃ b ∈ B, inR b.es x = true ∧ b.y0 ≤ y ∧ y < b.y1)
  | [], m, e, _ => by simp [hasB, rowB, inR]
  | a :: B, m, e, h => by
    obtain ⟨h1, h2, h3, h4, h5, h6⟩ := h
    have ih := hasB_iff (x := x) (y := y) h6
    show inR (if a.y0 ≤ y ∧ y < a.y1 then a.es else rowB B y) x = true ↔ _
    by_cases c : a.y0 ≤ y ∧ y < a.y1
    · rw [if_pos c]
      constructor
      · exact fun q => ⟨a, .head _, q, c⟩
      · rintro ⟨b, hb, k1, k2, k3⟩
        cases hb with
        | head => exact k1
        | tail _ hb =>
          have := heights_ge h6 b.y0 (List.mem_flatMap.2 ⟨b, hb, by simp⟩)
          omega
    · rw [if_neg c]
      constructor
      · intro q
        obtain ⟨b, hb, k⟩ := ih.1 q
        exact ⟨b, .tail _ hb, k⟩
      · rintro ⟨b, hb, k1, k2⟩
        cases hb with
        | head => exact absurd k2 c
        | tail _ hb => exact ih.2 ⟨b, hb, k1, k2⟩
theorem okB_up {lo : Int} : ∀ {B : List BandZ} {m : Int} {e : List Int}, OkB lo m e B → ∀ b ∈ B, Up lo b.es
  | [], m, e, _, b, hb => by cases hb
  | a :: B, m, e, h, b, hb => by
    cases hb with
    | head => exact h.2.2.1
    | tail _ hb => exact okB_up h.2.2.2.2.2 b hb
/-- A pixel is there just where a rectangle has it. -/
theorem rects_has {lo m : Int} {e : List Int} {B : List BandZ} (h : OkB lo m e B) (he : EvenB B) (x y : Int) : hasB B x y = true ↔ ∃ r ∈ rectsZ B, inQ r x y := by
  rw [hasB_iff h]
  constructor
  · rintro ⟨b, hb, k⟩
    obtain ⟨r, hr, hq⟩ := (pairs_in (okB_up h b hb) (he b hb)).2 k
    exact ⟨r, List.mem_flatMap.2 ⟨b, hb, hr⟩, hq⟩
  · rintro ⟨r, hr, hq⟩
    obtain ⟨b, hb, hr⟩ := List.mem_flatMap.1 hr
    exact ⟨b, hb, (pairs_in (okB_up h b hb) (he b hb)).1 ⟨r, hr, hq⟩⟩
/-- THE SAME RECTANGLES, THE SAME BANDS. -/
theorem rects_uniq {lo m : Int} {A B : List BandZ} (ha : OkB lo m [] A) (hb : OkB lo m [] B) (ea : EvenB A) (eb : EvenB B) (h : rectsZ A = rectsZ B) : A = B :=
  region_uniq ha hb (fun x y => by
    rw [Bool.eq_iff_iff, rects_has ha ea, rects_has hb eb, h])
/-! ### how many pixels -/
/-- How many of the n places from lo on. -/
def cntZ (lo : Int) : Nat → (Int → Bool) → Int
  | 0, _ => 0
  | n + 1, f => cntZ lo n f + if f (lo + n) then 1 else 0
theorem cntZ_congr {lo : Int} : ∀ {n : Nat} {f g : Int → Bool}, (∀ x, lo ≤ x → x < lo + n → f x = g x) → cntZ lo n f = cntZ lo n g
  | 0, f, g, _ => rfl
  | n + 1, f, g, h => by
    show cntZ lo n f + _ = cntZ lo n g + _
    rw [cntZ_congr (n := n) (fun x h1 h2 => h x h1 (by push_cast; omega)), h (lo + n) (by omega) (by push_cast; omega)]
theorem cntZ_none {lo : Int} : ∀ {n : Nat} {f : Int → Bool}, (∀ x, lo ≤ x → x < lo + n → f x = false) → cntZ lo n f = 0
  | 0, f, _ => rfl
  | n + 1, f, h => by
    show cntZ lo n f + _ = 0
    rw [cntZ_none (n := n) (fun x h1 h2 => h x h1 (by push_cast; omega)), h (lo + n) (by omega) (by push_cast; omega)]; rfl
/-- Two that share nothing. -/
theorem cntZ_or {lo : Int} : ∀ {n : Nat} {f g : Int → Bool}, (∀ x, f x = true → g x = true → False) → cntZ lo n (fun x => f x || g x) = cntZ lo n f + cntZ lo n g
  | 0, f, g, _ => rfl
  | n + 1, f, g, h => by
    show cntZ lo n _ + (if (f (lo + n) || g (lo + n)) = true then 1 else 0) = (cntZ lo n f + if f (lo + n) = true then 1 else 0) + (cntZ lo n g + if g (lo + n) = true then 1 else 0)
    rw [cntZ_or h]
    have hh := h (lo + n)
    generalize cntZ lo n f = p
    generalize cntZ lo n g = q
    generalize f (lo + n) = u at *
    generalize g (lo + n) = v at *
    cases u <;> cases v
    · simp
    · simp; omega
    · simp; omega
    · exact (hh rfl rfl).elim
/-- An interval. -/
theorem cntZ_iv {lo a c : Int} : ∀ {n : Nat}, lo ≤ a → a ≤ c → c ≤ lo + n → cntZ lo n (fun x => decide (a ≤ x ∧ x < c)) = c - a
  | 0, h1, h2, h3 => by show (0 : Int) = _; simp at h3; omega
  | n + 1, h1, h2, h3 => by
    show cntZ lo n (fun x => decide (a ≤ x ∧ x < c)) + (if decide (a ≤ lo + (n : Int) ∧ lo + (n : Int) < c) = true then 1 else 0) = _
    by_cases q : c ≤ lo + n
    · rw [cntZ_iv (n := n) h1 h2 q, if_neg (by simp; omega)]; omega
    · have hc : c = lo + (n : Int) + 1 := by push_cast at h3; omega
      by_cases p : a = c
      · rw [cntZ_none (fun x k1 k2 => by rw [decide_eq_false (by omega)]), if_neg (by simp; omega)]; omega
      · have e : cntZ lo n (fun x => decide (a ≤ x ∧ x < c)) = cntZ lo n (fun x => decide (a ≤ x ∧ x < c - 1)) := cntZ_congr (fun x k1 k2 => by congr 1; apply propext; constructor <;> intro k <;> omega)
        rw [e, cntZ_iv (n := n) h1 (by omega) (by omega), if_pos (by simp; omega)]; omega
end Go.Proofs.Ytkpamofamcndnaa
