/- Regions plain: edges come in pairs; the rectangles; the same rectangles, the same bands. -/
import Derived.Test.YtkpamofamcndnaaRegS
namespace Go.Proofs.Ytkpamofamcndnaa
set_option linter.unusedSimpArgs false
set_option linter.unusedVariables false

theorem inR_all : ∀ {l : List Int} {x : Int}, (∀ e ∈ l, e ≤ x) → inR l x = decide (l.length % 2 = 1)
  | [], x, _ => rfl
  | e :: es, x, h => by
    show (decide (e ≤ x) != inR es x) = _
    rw [decide_eq_true (h e (.head _)), inR_all (fun f hf => h f (.tail _ hf)), List.length_cons]
    rcases Nat.mod_two_eq_zero_or_one es.length with q | q
    · rw [decide_eq_false (by omega), decide_eq_true (by omega)]; rfl
    · rw [decide_eq_true (by omega), decide_eq_false (by omega)]; rfl
theorem max_above : ∀ l : List Int, ∃ m : Int, ∀ x ∈ l, x ≤ m
  | [] => ⟨0, by simp⟩
  | x :: l => by
    obtain ⟨m, h⟩ := max_above l
    refine ⟨max m x, fun y hy => ?_⟩
    cases hy with
    | head => omega
    | tail _ hy => have := h y hy; omega
/-- Edges in pairs: far to the right there is nothing. -/
theorem even_of {l : List Int} (h : ∃ m, ∀ x, m ≤ x → inR l x = false) : l.length % 2 = 0 := by
  obtain ⟨m, h⟩ := h
  obtain ⟨k, hk⟩ := max_above l
  have h1 := h (max m k) (by omega)
  rw [inR_all (fun e he => by have := hk e he; omega)] at h1
  have := of_decide_eq_false h1
  omega
theorem of_even {l : List Int} (h : l.length % 2 = 0) : ∃ m, ∀ x, m ≤ x → inR l x = false := by
  obtain ⟨k, hk⟩ := max_above l
  exact ⟨k, fun x hx => by rw [inR_all (fun e he => by have := hk e he; omega), decide_eq_false (by omega)]⟩
def EvenB (B : List BandZ) : Prop := ∀ b ∈ B, b.es.length % 2 = 0
theorem rowB_even {B : List BandZ} (h : EvenB B) (y : Int) : (rowB B y).length % 2 = 0 := by
  induction B with
  | nil => rfl
  | cons b B ih =>
    show (if _ then _ else _ : List Int).length % 2 = 0
    by_cases c : b.y0 ≤ y ∧ y < b.y1
    · rw [if_pos c]; exact h b (.head _)
    · rw [if_neg c]; exact ih (fun x hx => h x (.tail _ hx))
theorem runsZ_even {keep : Bool → Bool → Bool} (hk : keep false false = false) {P a b : List Int} {m : Int} (hP : Up m P) (ha : ∀ e ∈ a, e ∈ P) (hb : ∀ e ∈ b, e ∈ P) (ea : a.length % 2 = 0) (eb : b.length % 2 = 0) : (runsZ keep P a b).length % 2 = 0 := by
  obtain ⟨k1, h1⟩ := of_even ea
  obtain ⟨k2, h2⟩ := of_even eb
  exact even_of ⟨max k1 k2, fun x hx => by rw [runsZ_in hk hP ha hb, h1 x (by omega), h2 x (by omega), hk]⟩
/-- In bands put right each band is the row of its first row. -/
theorem band_row {lo : Int} : ∀ {B : List BandZ} {m : Int} {e : List Int}, OkB lo m e B → ∀ b ∈ B, rowB B b.y0 = b.es
  | [], m, e, _, b, hb => by cases hb
  | a :: B, m, e, h, b, hb => by
    obtain ⟨h1, h2, h3, h4, h5, h6⟩ := h
    cases hb with
    | head => exact if_pos ⟨Int.le_refl _, h2⟩
    | tail _ hb =>
      have hge : a.y1 ≤ b.y0 := heights_ge h6 b.y0 (List.mem_flatMap.2 ⟨b, hb, by simp⟩)
      show (if _ then _ else _) = _
      rw [if_neg (by omega)]
      exact band_row h6 b hb
theorem combZ_even {keep : Bool → Bool → Bool} (hk : keep false false = false) {lo m : Int} {A B : List BandZ} (hA : OkB lo m [] A) (hB : OkB lo m [] B) (eA : EvenB A) (eB : EvenB B) : EvenB (combZ keep A B) := fun b hb => by
  obtain ⟨h1, h2⟩ := combZ_ok hk hA hB
  have hr := band_row h1 b hb
  obtain ⟨k1, q1⟩ := of_even (rowB_even eA b.y0)
  obtain ⟨k2, q2⟩ := of_even (rowB_even eB b.y0)
  refine even_of ⟨max k1 k2, fun x hx => ?_⟩
  have := h2 x b.y0
  unfold hasB at this
  rw [hr] at this
  rw [this, q1 x (by omega), q2 x (by omega), hk]
/-- A region of one rectangle. -/
def oneZ (x0 y0 x1 y1 : Int) : List BandZ := if x0 < x1 ∧ y0 < y1 then [⟨y0, y1, [x0, x1]⟩] else []
theorem oneZ_ok {lo m x0 y0 x1 y1 : Int} (h1 : lo < x0) (h2 : m ≤ y0) : OkB lo m [] (oneZ x0 y0 x1 y1) ∧ EvenB (oneZ x0 y0 x1 y1) ∧ ∀ x y, hasB (oneZ x0 y0 x1 y1) x y = decide (x0 ≤ x ∧ x < x1 ∧ y0 ≤ y ∧ y < y1) := by
  unfold oneZ
  by_cases c : x0 < x1 ∧ y0 < y1
  · rw [if_pos c]
    refine ⟨⟨h2, c.2, ⟨h1, c.1, trivial⟩, by simp, fun _ => by simp, trivial⟩, fun b hb => ?_, fun x y => ?_⟩
    · cases hb with
      | head => simp
      | tail _ hb => cases hb
    · show inR (if y0 ≤ y ∧ y < y1 then [x0, x1] else []) x = _
      by_cases d : y0 ≤ y ∧ y < y1
      · rw [if_pos d]
        show (decide (x0 ≤ x) != (decide (x1 ≤ x) != false)) = _
        by_cases e : x0 ≤ x
        · by_cases f : x1 ≤ x
          · rw [decide_eq_true e, decide_eq_true f, decide_eq_false (by omega)]; rfl
          · rw [decide_eq_true e, decide_eq_false f, decide_eq_true (by omega)]; rfl
        · rw [decide_eq_false e, decide_eq_false (show ¬ x1 ≤ x by omega), decide_eq_false (by omega)]; rfl
      · rw [if_neg d, decide_eq_false (by omega)]; rfl
  · rw [if_neg c]
    refine ⟨trivial, fun b hb => (by cases hb), fun x y => ?_⟩
    rw [decide_eq_false (by omega)]; rfl
end Go.Proofs.Ytkpamofamcndnaa
