/- Two regions joined band by band, plain. -/
import Derived.Test.YtkpamofamcndnaaRegP
namespace Go.Proofs.Ytkpamofamcndnaa
set_option linter.unusedSimpArgs false
set_option linter.unusedVariables false

theorem inR_const : ∀ {a : List Int} {m x : Int}, m ≤ x → (∀ e ∈ a, ¬ (m < e ∧ e ≤ x)) → inR a x = inR a m
  | [], m, x, _, _ => rfl
  | e :: es, m, x, hm, h => by
    show (decide (e ≤ x) != inR es x) = (decide (e ≤ m) != inR es m)
    rw [inR_const hm (fun f hf => h f (.tail _ hf))]
    have h1 := h e (.head _)
    by_cases c : e ≤ m
    · rw [decide_eq_true c, decide_eq_true (by omega)]
    · rw [decide_eq_false c, decide_eq_false (by omega)]
/-- Those places at which what is kept changes. -/
def runsG (K : Int → Bool) : List Int → Bool → List Int
  | [], _ => []
  | x :: P, ev => if K x = ev then x :: runsG K P (!ev) else runsG K P ev
def lastK (K : Int → Bool) : List Int → Bool → Int → Bool
  | [], d, _ => d
  | p :: P, d, x => if p ≤ x then lastK K P (K p) x else d
theorem runsG_up (K : Int → Bool) : ∀ {P : List Int} {m : Int} (ev : Bool), Up m P → Up m (runsG K P ev)
  | [], m, ev, _ => trivial
  | x :: P, m, ev, h => by
    show Up m (if _ then _ else _)
    by_cases c : K x = ev
    · rw [if_pos c]; exact ⟨h.1, runsG_up K _ h.2⟩
    · rw [if_neg c]; exact runsG_up K _ (h.2.mono (Int.le_of_lt h.1))
theorem runsG_in (K : Int → Bool) : ∀ {P : List Int} {m : Int} (ev : Bool), Up m P → ∀ x, ((!ev) != inR (runsG K P ev) x) = lastK K P (!ev) x
  | [], m, ev, _, x => by cases ev <;> rfl
  | p :: P, m, ev, h, x => by
    show ((!ev) != inR (if _ then _ else _) x) = if _ then _ else _
    by_cases hx : p ≤ x
    · rw [if_pos hx]
      by_cases c : K p = ev
      · rw [if_pos c]
        show ((!ev) != (decide (p ≤ x) != inR (runsG K P (!ev)) x)) = _
        have ih := runsG_in K (!ev) h.2 x
        rw [Bool.not_not] at ih
        rw [decide_eq_true hx, c, ← ih]
        cases ev <;> cases inR (runsG K P _) x <;> rfl
      · rw [if_neg c]
        have ih := runsG_in K ev h.2 x
        rw [ih]
        have : K p = !ev := by cases h1 : K p <;> cases ev <;> simp_all
        rw [this]
    · rw [if_neg hx]
      by_cases c : K p = ev
      · rw [if_pos c]
        show ((!ev) != (decide (p ≤ x) != inR (runsG K P (!ev)) x)) = _
        rw [decide_eq_false hx, inR_low (runsG_up K (!ev) h.2) x (by omega)]
        cases ev <;> rfl
      · rw [if_neg c, inR_low (runsG_up K ev h.2) x (by omega)]
        cases ev <;> rfl
theorem lastK_in {keep : Bool → Bool → Bool} {a b : List Int} : ∀ {P : List Int} {m : Int}, Up m P → (∀ e ∈ a, m < e → e ∈ P) → (∀ e ∈ b, m < e → e ∈ P) → ∀ x, m ≤ x →
    lastK (fun p => keep (inR a p) (inR b p)) P (keep (inR a m) (inR b m)) x = keep (inR a x) (inR b x)
  | [], m, _, ha, hb, x, hx => by
    show keep (inR a m) (inR b m) = _
    rw [inR_const (a := a) hx (fun e he q => by have := ha e he q.1; cases this), inR_const (a := b) hx (fun e he q => by have := hb e he q.1; cases this)]
  | p :: P, m, h, ha, hb, x, hx => by
    show (if p ≤ x then _ else _) = _
    by_cases c : p ≤ x
    · rw [if_pos c]
      refine lastK_in h.2 (fun e he q => ?_) (fun e he q => ?_) x c
      · have := ha e he (by have := h.1; omega)
        cases this with
        | head => omega
        | tail _ h => exact h
      · have := hb e he (by have := h.1; omega)
        cases this with
        | head => omega
        | tail _ h => exact h
    · rw [if_neg c]
      have hlow : ∀ e, e ∈ p :: P → ¬ e ≤ x := fun e he q => by
        cases he with
        | head => exact c q
        | tail _ he => have := h.2.lt e he; omega
      rw [inR_const (a := a) hx (fun e he q => hlow e (ha e he q.1) q.2), inR_const (a := b) hx (fun e he q => hlow e (hb e he q.1) q.2)]
/-- The runs of two rows together. -/
def runsZ (keep : Bool → Bool → Bool) (P a b : List Int) : List Int := runsG (fun p => keep (inR a p) (inR b p)) P true
theorem runsZ_in {keep : Bool → Bool → Bool} (hk : keep false false = false) {P a b : List Int} {m : Int} (hP : Up m P) (ha : ∀ e ∈ a, e ∈ P) (hb : ∀ e ∈ b, e ∈ P) (x : Int) : inR (runsZ keep P a b) x = keep (inR a x) (inR b x) := by
  have h0 : ∀ {c : List Int}, (∀ e ∈ c, e ∈ P) → ∀ y, y ≤ m → inR c y = false := fun {c} hc y hy => by
    induction c with
    | nil => rfl
    | cons e es ih =>
      show (decide (e ≤ y) != inR es y) = false
      rw [ih (fun f hf => hc f (.tail _ hf)), decide_eq_false (by have := hP.lt e (hc e (.head _)); omega)]; rfl
  have h1 := runsG_in (fun p => keep (inR a p) (inR b p)) true hP x
  have h2 : ∀ y, inR (runsZ keep P a b) y = (false != inR (runsG (fun p => keep (inR a p) (inR b p)) P true) y) := fun y => by
    unfold runsZ; cases inR (runsG _ P true) y <;> rfl
  by_cases c : m ≤ x
  · rw [h2, show (false : Bool) = !true from rfl, h1]
    have h3 := lastK_in (keep := keep) (a := a) (b := b) hP (fun e he _ => ha e he) (fun e he _ => hb e he) x c
    rw [h0 ha m (Int.le_refl _), h0 hb m (Int.le_refl _), hk] at h3
    exact h3
  · unfold runsZ
    rw [inR_low (runsG_up _ _ hP) x (by omega), h0 ha x (by omega), h0 hb x (by omega), hk]
theorem runsZ_up {keep : Bool → Bool → Bool} {P a b : List Int} {m : Int} (hP : Up m P) : Up m (runsZ keep P a b) := runsG_up _ _ hP
/-! ### bands put together -/
/-- Where the bands end, and with which edges. -/
def endB (m : Int) (e : List Int) : List BandZ → Int × List Int
  | [] => (m, e)
  | b :: B => endB b.y1 b.es B
theorem okB_snoc {lo : Int} : ∀ {B : List BandZ} {m : Int} {e : List Int} {b : BandZ}, OkB lo m e B → (endB m e B).1 ≤ b.y0 → b.y0 < b.y1 → Up lo b.es → b.es ≠ [] → (b.y0 = (endB m e B).1 → b.es ≠ (endB m e B).2) → OkB lo m e (B ++ [b])
  | [], m, e, b, _, h1, h2, h3, h4, h5 => ⟨h1, h2, h3, h4, h5, trivial⟩
  | a :: B, m, e, b, h, h1, h2, h3, h4, h5 => ⟨h.1, h.2.1, h.2.2.1, h.2.2.2.1, h.2.2.2.2.1, okB_snoc (B := B) h.2.2.2.2.2 h1 h2 h3 h4 h5⟩
theorem okB_longer {lo : Int} : ∀ {B : List BandZ} {m : Int} {e : List Int} {l : BandZ} {y : Int}, OkB lo m e (B ++ [l]) → l.y1 ≤ y → OkB lo m e (B ++ [⟨l.y0, y, l.es⟩])
  | [], m, e, l, y, h, hy => ⟨h.1, Int.lt_of_lt_of_le h.2.1 hy, h.2.2.1, h.2.2.2.1, h.2.2.2.2.1, trivial⟩
  | a :: B, m, e, l, y, h, hy => ⟨h.1, h.2.1, h.2.2.1, h.2.2.2.1, h.2.2.2.2.1, okB_longer (B := B) h.2.2.2.2.2 hy⟩
theorem endB_snoc : ∀ {B : List BandZ} {m : Int} {e : List Int} {b : BandZ}, endB m e (B ++ [b]) = (b.y1, b.es)
  | [], m, e, b => rfl
  | a :: B, m, e, b => endB_snoc (B := B)
theorem endB_ge {lo : Int} : ∀ {B : List BandZ} {m : Int} {e : List Int}, OkB lo m e B → m ≤ (endB m e B).1
  | [], m, e, _ => Int.le_refl _
  | b :: B, m, e, h => by have := endB_ge h.2.2.2.2.2; have := h.1; have := h.2.1; show m ≤ (endB b.y1 b.es B).1; omega
theorem rowB_end {lo : Int} : ∀ {B : List BandZ} {m : Int} {e : List Int}, OkB lo m e B → ∀ y, (endB m e B).1 ≤ y → rowB B y = []
  | [], m, e, _, y, _ => rfl
  | b :: B, m, e, h, y, hy => by
    have h1 := endB_ge h.2.2.2.2.2
    have hy : (endB b.y1 b.es B).1 ≤ y := hy
    show (if _ then _ else _) = _
    rw [if_neg (by omega)]
    exact rowB_end h.2.2.2.2.2 y hy
theorem rowB_append {lo : Int} : ∀ {B : List BandZ} {m : Int} {e : List Int} {b : BandZ}, OkB lo m e (B ++ [b]) → ∀ y, rowB (B ++ [b]) y = if b.y0 ≤ y ∧ y < b.y1 then b.es else rowB B y
  | [], m, e, b, _, y => rfl
  | a :: B, m, e, b, h, y => by
    have ih := rowB_append (B := B) h.2.2.2.2.2 y
    show (if a.y0 ≤ y ∧ y < a.y1 then a.es else rowB (B ++ [b]) y) = if _ then _ else (if a.y0 ≤ y ∧ y < a.y1 then a.es else rowB B y)
    by_cases c : a.y0 ≤ y ∧ y < a.y1
    · have hge : a.y1 ≤ b.y0 := by
        have : ∀ {B : List BandZ} {m : Int} {e : List Int}, OkB lo m e (B ++ [b]) → m ≤ b.y0 := by
          intro B
          induction B with
          | nil => intro m e h; exact h.1
          | cons x B ih => intro m e h; have := ih h.2.2.2.2.2; have := h.1; have := h.2.1; omega
        exact this h.2.2.2.2.2
      rw [if_pos c, if_neg (by omega), if_pos c]
    · rw [if_neg c, if_neg c, ih]
/-- A band put below all others. -/
def addB (out : List BandZ) (b : BandZ) : List BandZ :=
  if b.es = [] then out else if out ≠ [] ∧ (endB 0 [] out).1 = b.y0 ∧ (endB 0 [] out).2 = b.es then out.dropLast ++ [⟨(out.getLast?.getD b).y0, b.y1, b.es⟩] else out ++ [b]
theorem endB_any {m m' : Int} {e e' : List Int} : ∀ {B : List BandZ}, B ≠ [] → endB m e B = endB m' e' B
  | [], h => absurd rfl h
  | b :: B, _ => rfl
/-- What stands behind a band put below: the rows as before, and those of the band. -/
theorem addB_ok {lo m : Int} {out : List BandZ} {b : BandZ} (h : OkB lo m [] out) (h1 : (endB m [] out).1 ≤ b.y0) (h2 : b.y0 < b.y1) (h3 : Up lo b.es) :
    OkB lo m [] (addB out b) ∧ (endB m [] (addB out b)).1 ≤ b.y1 ∧ ∀ y, rowB (addB out b) y = if b.y0 ≤ y ∧ y < b.y1 then b.es else rowB out y := by
  unfold addB
  by_cases c : b.es = []
  · rw [if_pos c]
    refine ⟨h, by omega, fun y => ?_⟩
    by_cases d : b.y0 ≤ y ∧ y < b.y1
    · rw [if_pos d, c, rowB_end h y (by omega)]
    · rw [if_neg d]
  · rw [if_neg c]
    by_cases d : out ≠ [] ∧ (endB 0 [] out).1 = b.y0 ∧ (endB 0 [] out).2 = b.es
    · rw [if_pos d]
      obtain ⟨d1, d2, d3⟩ := d
      obtain ⟨B, l, rfl⟩ : ∃ B l, out = B ++ [l] := ⟨out.dropLast, out.getLast d1, (List.dropLast_concat_getLast d1).symm⟩
      rw [endB_snoc] at d2 d3
      simp only [List.dropLast_concat, List.getLast?_concat, Option.getD_some]
      have hl := okB_longer (l := l) (y := b.y1) h (by simp only at d2; omega)
      have d3 : l.es = b.es := d3
      have d2 : l.y1 = b.y0 := d2
      rw [d3] at hl
      refine ⟨hl, by rw [endB_snoc]; exact Int.le_refl _, fun y => ?_⟩
      rw [rowB_append hl y, rowB_append h y]
      have hll : l.y0 < l.y1 := by
        have : ∀ {B : List BandZ} {m : Int} {e : List Int}, OkB lo m e (B ++ [l]) → l.y0 < l.y1 := by
          intro B
          induction B with
          | nil => intro m e h; exact h.2.1
          | cons x B ih => intro m e h; exact ih h.2.2.2.2.2
        exact this h
      show (if l.y0 ≤ y ∧ y < b.y1 then b.es else _) = _
      by_cases c1 : b.y0 ≤ y ∧ y < b.y1
      · rw [if_pos c1, if_pos (by omega)]
      · rw [if_neg c1]
        by_cases c2 : l.y0 ≤ y ∧ y < l.y1
        · rw [if_pos c2, if_pos (by omega), d3]
        · rw [if_neg c2, if_neg (by omega)]
    · rw [if_neg d]
      have hs := okB_snoc h h1 h2 h3 c (fun q1 q2 => by
        by_cases e : out = []
        · subst e; exact c q2
        · rw [endB_any (m := m) (m' := 0) (e := []) (e' := []) e] at q1 q2
          exact d ⟨e, q1.symm, q2.symm⟩)
      exact ⟨hs, by rw [endB_snoc]; exact Int.le_refl _, fun y => rowB_append hs y⟩
/-- Bands between one place and the next. -/
def combB (F : Int → List Int) : List BandZ → List Int → List BandZ
  | out, y0 :: y1 :: at_ => combB F (addB out ⟨y0, y1, F y0⟩) (y1 :: at_)
  | out, _ => out
theorem combB_ok {lo m : Int} {F : Int → List Int} (hF : ∀ y, Up lo (F y)) : ∀ {at_ : List Int} {y0 : Int} {out : List BandZ}, Up y0 at_ → OkB lo m [] out → (endB m [] out).1 ≤ y0 →
    (∀ y, y0 ≤ y → (∀ z ∈ at_, ¬ z ≤ y) → at_ ≠ [] → F y = F y0) → (∀ p ∈ at_, ∀ y, p ≤ y → (∀ z ∈ at_, p < z → ¬ z ≤ y) → (∃ z ∈ at_, p < z) → F y = F p) →
    OkB lo m [] (combB F out (y0 :: at_)) ∧ ∀ y, rowB (combB F out (y0 :: at_)) y = if y0 ≤ y ∧ (∃ z ∈ at_, y < z) then F y else rowB out y
  | [], y0, out, _, h, _, _, _ => ⟨h, fun y => by rw [if_neg (by simp)]; rfl⟩
  | y1 :: at_, y0, out, hu, h, he, hc, hp => by
    obtain ⟨k1, k2, k3⟩ := addB_ok (b := ⟨y0, y1, F y0⟩) h he hu.1 (hF y0)
    obtain ⟨r1, r2⟩ := combB_ok hF (at_ := at_) (y0 := y1) (out := addB out ⟨y0, y1, F y0⟩) hu.2 k1 k2
      (fun y hy hz hne => hp y1 (.head _) y hy (fun z hz1 hlt => by
        cases hz1 with
        | head => omega
        | tail _ hz1 => exact hz z hz1) (by
        cases at_ with
        | nil => exact absurd rfl hne
        | cons z at_ => exact ⟨z, by simp, hu.2.1⟩))
      (fun p hpm y hy hz hex => hp p (.tail _ hpm) y hy (fun z hz1 hlt => by
        cases hz1 with
        | head => have := hu.2.lt p hpm; omega
        | tail _ hz1 => exact hz z hz1 hlt) (by obtain ⟨z, hz1, hz2⟩ := hex; exact ⟨z, .tail _ hz1, hz2⟩))
    refine ⟨r1, fun y => ?_⟩
    have e1 : rowB (combB F out (y0 :: y1 :: at_)) y = rowB (combB F (addB out ⟨y0, y1, F y0⟩) (y1 :: at_)) y := rfl
    rw [e1, r2 y, k3 y]
    by_cases c1 : y1 ≤ y ∧ ∃ z ∈ at_, y < z
    · rw [if_pos c1, if_pos (by
        obtain ⟨q1, z, q2, q3⟩ := c1
        have := hu.1
        exact ⟨by omega, z, .tail _ q2, q3⟩)]
    · rw [if_neg c1]
      show (if y0 ≤ y ∧ y < y1 then F y0 else rowB out y) = _
      by_cases c2 : y0 ≤ y ∧ y < y1
      · rw [if_pos c2, if_pos ⟨c2.1, y1, .head _, c2.2⟩]
        exact (hc y c2.1 (fun z hz => by
          cases hz with
          | head => omega
          | tail _ hz => have := hu.2.lt z hz; omega) (by simp)).symm
      · rw [if_neg c2, if_neg (fun q => by
          obtain ⟨q1, z, q2, q3⟩ := q
          cases q2 with
          | head => exact c2 ⟨q1, q3⟩
          | tail _ q2 =>
            by_cases c3 : y1 ≤ y
            · exact c1 ⟨c3, z, q2, q3⟩
            · exact c2 ⟨q1, by omega⟩)]
end Go.Proofs.Ytkpamofamcndnaa
