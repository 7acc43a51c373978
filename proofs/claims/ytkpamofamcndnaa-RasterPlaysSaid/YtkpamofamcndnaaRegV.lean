/- Regions plain: regions within the bounds of pixels; how many bands and edges they may have. -/
import Derived.Test.YtkpamofamcndnaaRegU
import Derived.Test.YtkpamofamcndnaaBase
namespace Go.Proofs.Ytkpamofamcndnaa
set_option linter.unusedSimpArgs false
set_option linter.unusedVariables false

theorem edges_hi {hi : Int} : ∀ {es : List Int} {m : Int}, Up m es → es.length % 2 = 0 → (∀ x, inR es x = true → x < hi) → ∀ e ∈ es, e ≤ hi
  | [], m, _, _, _, e, h => by cases h
  | [a], m, _, h, _, _, _ => by simp at h
  | a :: c :: l, m, h, he, hx, e, hm => by
    have hac := h.2.1
    have e1 : ∀ x, inR (a :: c :: l) x = (decide (a ≤ x) != (decide (c ≤ x) != inR l x)) := fun _ => rfl
    have hc : c ≤ hi := by
      have := hx (c - 1) (by rw [e1, inR_low h.2.2 _ (by omega), decide_eq_true (show a ≤ c - 1 by omega), decide_eq_false (by omega)]; rfl)
      omega
    cases hm with
    | head => omega
    | tail _ hm =>
      cases hm with
      | head => exact hc
      | tail _ hm =>
        refine edges_hi h.2.2 (by simp at he; omega) (fun x hq => hx x ?_) e hm
        have hcx : c < x := by
          rcases Int.lt_or_le c x with q | q
          · exact q
          · rw [inR_low h.2.2 x q] at hq; cases hq
        rw [e1, hq, decide_eq_true (by omega), decide_eq_true (by omega)]; rfl
theorem up_len {hi : Int} : ∀ {es : List Int} {m : Int}, Up m es → (∀ e ∈ es, e ≤ hi) → m ≤ hi → (es.length : Int) ≤ hi - m
  | [], m, _, _, h => by simp; omega
  | e :: es, m, h, he, hm => by
    have h1 := up_len h.2 (fun x hx => he x (.tail _ hx)) (he e (.head _))
    have h2 := h.1
    rw [List.length_cons]; push_cast; omega
theorem bands_len {lo hi : Int} : ∀ {B : List BandZ} {m : Int} {e : List Int}, OkB lo m e B → (∀ b ∈ B, b.y1 ≤ hi) → m ≤ hi → (B.length : Int) ≤ hi - m
  | [], m, e, _, _, h => by simp; omega
  | b :: B, m, e, h, hb, hm => by
    obtain ⟨h1, h2, h3, h4, h5, h6⟩ := h
    have h7 := bands_len h6 (fun x hx => hb x (.tail _ hx)) (hb b (.head _))
    rw [List.length_cons]; push_cast; omega
/-- A region, put right, within the bounds of pixels. -/
structure RegOk (B : List BandZ) : Prop where
  ok : OkB (-1073741825) (-1073741824) [] B
  even : EvenB B
  lt : ∀ x y, hasB B x y = true → x < 1073741824 ∧ y < 1073741824
theorem okB_ne {lo : Int} : ∀ {B : List BandZ} {m : Int} {e : List Int}, OkB lo m e B → ∀ b ∈ B, b.es ≠ [] ∧ b.y0 < b.y1 ∧ m ≤ b.y0
  | [], m, e, _, b, hb => by cases hb
  | a :: B, m, e, h, b, hb => by
    obtain ⟨h1, h2, h3, h4, h5, h6⟩ := h
    cases hb with
    | head => exact ⟨h4, h2, h1⟩
    | tail _ hb => obtain ⟨k1, k2, k3⟩ := okB_ne h6 b hb; exact ⟨k1, k2, by omega⟩
theorem RegOk.hiY {B : List BandZ} (h : RegOk B) : ∀ b ∈ B, b.y1 ≤ 1073741824 := fun b hb => by
  obtain ⟨h1, h2, h3⟩ := okB_ne h.ok b hb
  cases hes : b.es with
  | nil => exact absurd hes h1
  | cons a l =>
    have hu := okB_up h.ok b hb
    rw [hes] at hu
    have ha : inR (a :: l) a = true := by
      show (decide (a ≤ a) != inR l a) = true
      rw [inR_low hu.2 a (Int.le_refl _), decide_eq_true (Int.le_refl _)]; rfl
    have := (h.lt a (b.y1 - 1) ((hasB_iff h.ok).2 ⟨b, hb, by rw [hes]; exact ha, by omega, by omega⟩)).2
    omega
theorem RegOk.hiX {B : List BandZ} (h : RegOk B) : ∀ b ∈ B, ∀ e ∈ b.es, e ≤ 1073741824 := fun b hb => by
  obtain ⟨h1, h2, h3⟩ := okB_ne h.ok b hb
  exact edges_hi (okB_up h.ok b hb) (h.even b hb) (fun x hx => (h.lt x b.y0 ((hasB_iff h.ok).2 ⟨b, hb, hx, Int.le_refl _, h2⟩)).1)
theorem RegOk.len {B : List BandZ} (h : RegOk B) : B.length ≤ 2147483648 := by
  have := bands_len h.ok h.hiY (by omega); omega
theorem RegOk.edges {B : List BandZ} (h : RegOk B) : ∀ b ∈ B, b.es.length ≤ 2147483649 := fun b hb => by
  have := up_len (okB_up h.ok b hb) (h.hiX b hb) (by omega); omega
theorem rowB_mem : ∀ {B : List BandZ} {y : Int}, rowB B y = [] ∨ ∃ b ∈ B, rowB B y = b.es
  | [], y => .inl rfl
  | b :: B, y => by
    show (if _ then _ else _ : List Int) = [] ∨ _
    by_cases c : b.y0 ≤ y ∧ y < b.y1
    · refine .inr ⟨b, .head _, ?_⟩
      show (if _ then _ else _) = _
      rw [if_pos c]
    · rcases rowB_mem (B := B) (y := y) with h | ⟨b', h1, h2⟩
      · left; rw [if_neg c]; exact h
      · refine .inr ⟨b', .tail _ h1, ?_⟩
        show (if _ then _ else _) = _
        rw [if_neg c]; exact h2
theorem RegOk.rows {B : List BandZ} (h : RegOk B) (y : Int) : (rowB B y).length ≤ 2147483649 := by
  rcases rowB_mem (B := B) (y := y) with e | ⟨b, h1, e⟩
  · rw [e]; simp
  · rw [e]; exact h.edges b h1
theorem regOk_nil : RegOk [] := ⟨trivial, fun b hb => (by cases hb), fun x y h => (by cases h)⟩
theorem RegOk.comb {keep : Bool → Bool → Bool} (hk : keep false false = false) {A B : List BandZ} (hA : RegOk A) (hB : RegOk B) : RegOk (combZ keep A B) ∧ ∀ x y, hasB (combZ keep A B) x y = keep (hasB A x y) (hasB B x y) := by
  obtain ⟨h1, h2⟩ := combZ_ok hk hA.ok hB.ok
  refine ⟨⟨h1, combZ_even hk hA.ok hB.ok hA.even hB.even, fun x y h => ?_⟩, h2⟩
  rw [h2] at h
  cases ha : hasB A x y
  · cases hb : hasB B x y
    · rw [ha, hb, hk] at h; cases h
    · exact hB.lt x y hb
  · exact hA.lt x y ha
theorem RegOk.uniq {A B : List BandZ} (hA : RegOk A) (hB : RegOk B) (h : ∀ x y, hasB A x y = hasB B x y) : A = B := region_uniq hA.ok hB.ok h
theorem RegOk.one {x0 y0 x1 y1 : Int} (h0 : -1073741824 ≤ x0) (h1 : -1073741824 ≤ y0) (h2 : x1 ≤ 1073741824) (h3 : y1 ≤ 1073741824) : RegOk (oneZ x0 y0 x1 y1) := by
  obtain ⟨k1, k2, k3⟩ := oneZ_ok (lo := -1073741825) (m := -1073741824) (x0 := x0) (y0 := y0) (x1 := x1) (y1 := y1) (by omega) h1
  refine ⟨k1, k2, fun x y h => ?_⟩
  rw [k3] at h
  have := of_decide_eq_true h
  omega
end Go.Proofs.Ytkpamofamcndnaa
