/- Fields, plain: the bands of a field, put right; the same pixels, the same rectangles. Fields, plain: the bands; rectangles, count, hull. -/
import Derived.Test.YtkpamofamcndnaaRegZ
import Derived.Test.YtkpamofamcndnaaFld
namespace Go.Proofs.Ytkpamofamcndnaa
set_option linter.unusedSimpArgs false
set_option linter.unusedVariables false

/-- The end of a run. -/
def toF (f : Nat → Bool) : Nat → Nat → Nat
  | 0, t => t
  | k + 1, t => if t < 40 then (if f t = true then toF f k (t + 1) else t) else t
theorem toF_spec (f : Nat → Bool) : ∀ (k t : Nat), 40 ≤ k + t → t ≤ 40 → t ≤ toF f k t ∧ toF f k t ≤ 40 ∧ (∀ p, t ≤ p → p < toF f k t → f p = true) ∧ (toF f k t < 40 → f (toF f k t) = false)
  | 0, t, h, h' => ⟨Nat.le_refl _, h', fun p h1 h2 => by unfold toF at h2; omega, fun h1 => by unfold toF at h1; omega⟩
  | k + 1, t, h, h' => by
    unfold toF
    by_cases c : t < 40
    · rw [if_pos c]
      by_cases e : f t = true
      · rw [if_pos e]
        obtain ⟨h1, h2, h3, h4⟩ := toF_spec f k (t + 1) (by omega) (by omega)
        refine ⟨by omega, h2, fun p h5 h6 => ?_, h4⟩
        by_cases q : p = t
        · rw [q]; exact e
        · exact h3 p (by omega) h6
      · rw [if_neg e]
        exact ⟨Nat.le_refl _, h', fun p h1 h2 => by omega, fun _ => by simpa using e⟩
    · rw [if_neg c]
      exact ⟨Nat.le_refl _, h', fun p h1 h2 => by omega, fun h1 => by omega⟩
theorem toF_uniq (f : Nat → Bool) {t e : Nat} (h0 : t ≤ e) (h1 : e ≤ 40) (h2 : ∀ p, t ≤ p → p < e → f p = true) (h3 : e < 40 → f e = false) : toF f 40 t = e := by
  obtain ⟨k1, k2, k3, k4⟩ := toF_spec f 40 t (by omega) (by omega)
  rcases Nat.lt_trichotomy (toF f 40 t) e with c | c | c
  · have := h2 _ k1 c
    rw [k4 (by omega)] at this
    cases this
  · exact c
  · have := k3 e h0 c
    rw [h3 (by omega)] at this
    cases this
/-- The edges of a row, from x on. -/
def edF (f : Nat → Bool) : Nat → Nat → List Int
  | 0, _ => []
  | k + 1, x => if x < 40 then (if f x = true then (x : Int) :: (toF f 40 (x + 1) : Int) :: edF f k (toF f 40 (x + 1)) else edF f k (x + 1)) else []
theorem edF_fuel (f : Nat → Bool) : ∀ (k k' x : Nat), 40 ≤ k + x → 40 ≤ k' + x → edF f k x = edF f k' x
  | 0, 0, x, _, _ => rfl
  | 0, k' + 1, x, h, h' => by show [] = _; unfold edF; rw [if_neg (by omega)]
  | k + 1, 0, x, h, h' => by show _ = []; unfold edF; rw [if_neg (by omega)]
  | k + 1, k' + 1, x, h, h' => by
    unfold edF
    by_cases c : x < 40
    · rw [if_pos c, if_pos c]
      by_cases e : f x = true
      · obtain ⟨h1, h2, _, _⟩ := toF_spec f 40 (x + 1) (by omega) (by omega)
        rw [if_pos e, if_pos e, edF_fuel f k k' (toF f 40 (x + 1)) (by omega) (by omega)]
      · rw [if_neg e, if_neg e, edF_fuel f k k' (x + 1) (by omega) (by omega)]
    · rw [if_neg c, if_neg c]
def edE (f : Nat → Bool) (x : Nat) : List Int := edF f 40 x
theorem edE_end (f : Nat → Bool) {x : Nat} (h : 40 ≤ x) : edE f x = [] := by unfold edE edF; rw [if_neg (by omega)]
theorem edE_no (f : Nat → Bool) {x : Nat} (h : x < 40) (e : f x = false) : edE f x = edE f (x + 1) := by
  unfold edE
  rw [show edF f 40 x = edF f (39 + 1) x from rfl, edF, if_pos h, if_neg (by simp [e]), edF_fuel f 39 40 (x + 1) (by omega) (by omega)]
theorem edE_yes (f : Nat → Bool) {x : Nat} (h : x < 40) (e : f x = true) : edE f x = (x : Int) :: (toF f 40 (x + 1) : Int) :: edE f (toF f 40 (x + 1)) := by
  obtain ⟨h1, h2, _, _⟩ := toF_spec f 40 (x + 1) (by omega) (by omega)
  unfold edE
  rw [show edF f 40 x = edF f (39 + 1) x from rfl, edF, if_pos h, if_pos e, edF_fuel f 39 40 (toF f 40 (x + 1)) (by omega) (by omega)]
theorem up_first {m : Int} {l : List Int} (h : Up m l) (hi : inR l (m + 1) = false) : Up (m + 1) l := by
  cases l with
  | nil => trivial
  | cons e l =>
    have h1 := h.1
    by_cases c : e = m + 1
    · subst c
      have : inR ((m + 1) :: l) (m + 1) = true := by
        show (decide (m + 1 ≤ m + 1) != inR l (m + 1)) = true
        rw [inR_low h.2 (m + 1) (Int.le_refl _), decide_eq_true (Int.le_refl _)]; rfl
      rw [this] at hi; cases hi
    · exact ⟨by omega, h.2⟩
theorem edE_spec (f : Nat → Bool) : ∀ (k x : Nat), 40 ≤ k + x → x ≤ 40 → Up ((x : Int) - 1) (edE f x) ∧ (edE f x).length % 2 = 0 ∧ (∀ e ∈ edE f x, e ≤ 40) ∧ ∀ p : Int, inR (edE f x) p = (decide ((x : Int) ≤ p ∧ p < 40) && f p.toNat)
  | 0, x, h, h' => by
    rw [edE_end f (by omega)]
    exact ⟨trivial, rfl, fun e he => (by cases he), fun p => by rw [decide_eq_false (by omega)]; rfl⟩
  | k + 1, x, h, h' => by
    rcases Nat.lt_or_ge x 40 with c | c
    · cases e : f x with
      | false =>
        obtain ⟨h1, h2, h3, h4⟩ := edE_spec f k (x + 1) (by omega) (by omega)
        rw [edE_no f c e]
        refine ⟨h1.mono (by omega), h2, h3, fun p => ?_⟩
        rw [h4]
        by_cases q : p = x
        · subst q
          rw [decide_eq_false (by omega)]
          simp [e]
        · congr 2
          rw [eq_iff_iff]; omega
      | true =>
        obtain ⟨t1, t2, t3, t4⟩ := toF_spec f 40 (x + 1) (by omega) (by omega)
        obtain ⟨h1, h2, h3, h4⟩ := edE_spec f k (toF f 40 (x + 1)) (by omega) t2
        rw [edE_yes f c e]
        generalize toF f 40 (x + 1) = t at *
        have hup : Up (t : Int) (edE f t) := by
          have := up_first h1 (by
            rw [h4]
            rcases Nat.lt_or_ge t 40 with c' | c'
            · have ht := t4 c'
              rw [show ((t : Int) - 1 + 1).toNat = t by omega, ht, Bool.and_false]
            · rw [decide_eq_false (by omega)]; rfl)
          rw [show (t : Int) - 1 + 1 = t by omega] at this
          exact this
        refine ⟨⟨by omega, by omega, hup⟩, by simp only [List.length_cons]; omega, fun y hy => ?_, fun p => ?_⟩
        · simp only [List.mem_cons] at hy
          rcases hy with rfl | rfl | hy
          · omega
          · omega
          · exact h3 y hy
        · show (decide ((x : Int) ≤ p) != (decide ((t : Int) ≤ p) != inR (edE f t) p)) = _
          rw [h4]
          rcases Int.lt_or_le p x with q | q
          · rw [decide_eq_false (by omega), decide_eq_false (show ¬ ((t : Int) ≤ p) by omega), decide_eq_false (show ¬ ((t : Int) ≤ p ∧ p < 40) by omega), decide_eq_false (show ¬ ((x : Int) ≤ p ∧ p < 40) by omega)]
            rfl
          · rcases Int.lt_or_le p t with q' | q'
            · have hf : f p.toNat = true := by
                by_cases z : p = x
                · rw [z]; exact e
                · exact t3 _ (by omega) (by omega)
              rw [decide_eq_true q, decide_eq_false (show ¬ ((t : Int) ≤ p) by omega), decide_eq_false (show ¬ ((t : Int) ≤ p ∧ p < 40) by omega), decide_eq_true (show (x : Int) ≤ p ∧ p < 40 by omega), hf]
              rfl
            · rw [decide_eq_true q, decide_eq_true q']
              by_cases z : p < 40
              · rw [decide_eq_true (show (t : Int) ≤ p ∧ p < 40 by omega), decide_eq_true (show (x : Int) ≤ p ∧ p < 40 by omega)]
                cases f p.toNat <;> rfl
              · rw [decide_eq_false (show ¬ ((t : Int) ≤ p ∧ p < 40) by omega), decide_eq_false (show ¬ ((x : Int) ≤ p ∧ p < 40) by omega)]
                rfl
    · rw [edE_end f c]
      exact ⟨trivial, rfl, fun e he => (by cases he), fun p => by rw [decide_eq_false (by omega)]; rfl⟩
end Go.Proofs.Ytkpamofamcndnaa
namespace Go.Proofs.Ytkpamofamcndnaa
set_option linter.unusedSimpArgs false
set_option linter.unusedVariables false

/-- The end of a band. -/
def endF (F : Nat → Nat → Bool) (y : Nat) : Nat := toF (fun e => eqRow (F e) (F y)) 40 (y + 1)
theorem endF_spec (F : Nat → Nat → Bool) {y : Nat} (hy : y < 40) : y + 1 ≤ endF F y ∧ endF F y ≤ 40 ∧ (∀ q, y ≤ q → q < endF F y → ∀ i, i < 40 → F q i = F y i) ∧ (endF F y < 40 → eqRow (F (endF F y)) (F y) = false) := by
  obtain ⟨h1, h2, h3, h4⟩ := toF_spec (fun e => eqRow (F e) (F y)) 40 (y + 1) (by omega) (by omega)
  refine ⟨h1, h2, fun q k1 k2 => ?_, h4⟩
  by_cases c : q = y
  · subst c; exact fun i _ => rfl
  · exact eqRow_iff.1 (h3 q (by omega) k2)
def bdF (F : Nat → Nat → Bool) : Nat → Nat → List BandZ
  | 0, _ => []
  | k + 1, y => if y < 40 then (if anyB (F y) 40 = true then ⟨y, endF F y, edE (F y) 0⟩ :: bdF F k (endF F y) else bdF F k (y + 1)) else []
theorem bdF_fuel (F : Nat → Nat → Bool) : ∀ (k k' y : Nat), 40 ≤ k + y → 40 ≤ k' + y → bdF F k y = bdF F k' y
  | 0, 0, y, _, _ => rfl
  | 0, k' + 1, y, h, h' => by show [] = _; unfold bdF; rw [if_neg (by omega)]
  | k + 1, 0, y, h, h' => by show _ = []; unfold bdF; rw [if_neg (by omega)]
  | k + 1, k' + 1, y, h, h' => by
    unfold bdF
    by_cases c : y < 40
    · rw [if_pos c, if_pos c]
      by_cases e : anyB (F y) 40 = true
      · obtain ⟨h1, h2, _, _⟩ := endF_spec F c
        rw [if_pos e, if_pos e, bdF_fuel F k k' (endF F y) (by omega) (by omega)]
      · rw [if_neg e, if_neg e, bdF_fuel F k k' (y + 1) (by omega) (by omega)]
    · rw [if_neg c, if_neg c]
def bdE (F : Nat → Nat → Bool) (y : Nat) : List BandZ := bdF F 40 y
theorem bdE_end (F : Nat → Nat → Bool) {y : Nat} (h : 40 ≤ y) : bdE F y = [] := by unfold bdE bdF; rw [if_neg (by omega)]
theorem bdE_no (F : Nat → Nat → Bool) {y : Nat} (h : y < 40) (e : anyB (F y) 40 = false) : bdE F y = bdE F (y + 1) := by
  unfold bdE
  rw [show bdF F 40 y = bdF F (39 + 1) y from rfl, bdF, if_pos h, if_neg (by simp [e]), bdF_fuel F 39 40 (y + 1) (by omega) (by omega)]
theorem bdE_yes (F : Nat → Nat → Bool) {y : Nat} (h : y < 40) (e : anyB (F y) 40 = true) : bdE F y = ⟨y, endF F y, edE (F y) 0⟩ :: bdE F (endF F y) := by
  obtain ⟨h1, h2, _, _⟩ := endF_spec F h
  unfold bdE
  rw [show bdF F 40 y = bdF F (39 + 1) y from rfl, bdF, if_pos h, if_pos e, bdF_fuel F 39 40 (endF F y) (by omega) (by omega)]
theorem edE_row (f : Nat → Bool) : Up (-1) (edE f 0) ∧ (edE f 0).length % 2 = 0 ∧ (∀ e ∈ edE f 0, e ≤ 40) ∧ ∀ p : Int, inR (edE f 0) p = (decide ((0 : Int) ≤ p ∧ p < 40) && f p.toNat) := edE_spec f 40 0 (by omega) (by omega)
theorem edE_ne {f : Nat → Bool} (h : anyB f 40 = true) : edE f 0 ≠ [] := fun e => by
  have hs := (edE_row f).2.2.2
  rw [e] at hs
  have : anyB f 40 = false := anyB_false.2 (fun x hx => by
    have := hs x
    rw [decide_eq_true (by omega)] at this
    simpa [inR] using this.symm)
  rw [this] at h; cases h
theorem edE_diff {f g : Nat → Bool} (h : eqRow f g = false) : edE f 0 ≠ edE g 0 := fun e => by
  have : eqRow f g = true := eqRow_iff.2 (fun i hi => by
    have h1 := (edE_row f).2.2.2 i
    have h2 := (edE_row g).2.2.2 i
    rw [e, h2, decide_eq_true (by omega)] at h1
    simpa using h1.symm)
  rw [this] at h; cases h
theorem bdE_spec (F : Nat → Nat → Bool) : ∀ (k y : Nat), 40 ≤ k + y → y ≤ 40 → (∀ e, (∀ h : y < 40, anyB (F y) 40 = true → edE (F y) 0 ≠ e) → OkB (-1) y e (bdE F y)) ∧ EvenB (bdE F y) ∧ (∀ b ∈ bdE F y, b.y1 ≤ 40) ∧ (∀ b ∈ bdE F y, ∀ e ∈ b.es, e ≤ 40) ∧
    ∀ p q : Int, hasB (bdE F y) p q = (decide ((y : Int) ≤ q ∧ q < 40) && (decide (0 ≤ p ∧ p < 40) && F q.toNat p.toNat))
  | 0, y, h, h' => by
    rw [bdE_end F (by omega)]
    exact ⟨fun e _ => trivial, fun b hb => (by cases hb), fun b hb => (by cases hb), fun b hb => (by cases hb), fun p q => by rw [decide_eq_false (by omega)]; rfl⟩
  | k + 1, y, h, h' => by
    rcases Nat.lt_or_ge y 40 with c | c
    · cases e : anyB (F y) 40 with
      | false =>
        obtain ⟨h1, h2, h3, h4, h5⟩ := bdE_spec F k (y + 1) (by omega) (by omega)
        rw [bdE_no F c e]
        refine ⟨fun es _ => ?_, h2, h3, h4, fun p q => ?_⟩
        · have := h1 [] (fun _ ha => edE_ne ha)
          cases hB : bdE F (y + 1) with
          | nil => trivial
          | cons b B =>
            rw [hB] at this
            obtain ⟨k1, k2, k3, k4, k5, k6⟩ := this
            exact ⟨by omega, k2, k3, k4, fun q => by omega, k6⟩
        · rw [h5]
          by_cases q' : q = y
          · subst q'
            rw [decide_eq_false (by omega), Bool.false_and]
            by_cases z : 0 ≤ p ∧ p < 40
            · have := anyB_false.1 e p.toNat (by omega)
              rw [show (y : Int).toNat = y by omega, this]; simp
            · rw [decide_eq_false z]; simp
          · congr 2
            rw [eq_iff_iff]; omega
      | true =>
        obtain ⟨t1, t2, t3, t4⟩ := endF_spec F c
        obtain ⟨h1, h2, h3, h4, h5⟩ := bdE_spec F k (endF F y) (by omega) t2
        rw [bdE_yes F c e]
        generalize endF F y = t at *
        obtain ⟨r1, r2, r3, r4⟩ := edE_row (F y)
        refine ⟨fun es he => ⟨Int.le_refl _, by show (y : Int) < t; omega, r1, edE_ne e, fun _ => he c rfl, ?_⟩, fun b hb => ?_, fun b hb => ?_, fun b hb => ?_, fun p q => ?_⟩
        · exact h1 _ (fun ht _ => edE_diff (t4 ht))
        · rcases List.mem_cons.1 hb with rfl | hb
          · exact r2
          · exact h2 b hb
        · rcases List.mem_cons.1 hb with rfl | hb
          · show (t : Int) ≤ 40; omega
          · exact h3 b hb
        · rcases List.mem_cons.1 hb with rfl | hb
          · exact r3
          · exact h4 b hb
        · show inR (if (y : Int) ≤ q ∧ q < t then edE (F y) 0 else rowB (bdE F t) q) p = _
          by_cases c1 : (y : Int) ≤ q ∧ q < t
          · rw [if_pos c1, r4, decide_eq_true (show (y : Int) ≤ q ∧ q < 40 by omega), Bool.true_and]
            by_cases z : 0 ≤ p ∧ p < 40
            · rw [t3 q.toNat (by omega) (by omega) p.toNat (by omega)]
            · rw [decide_eq_false z]; rfl
          · rw [if_neg c1]
            refine (h5 p q).trans ?_
            congr 2
            rw [eq_iff_iff]; omega
    · rw [bdE_end F c]
      exact ⟨fun e _ => trivial, fun b hb => (by cases hb), fun b hb => (by cases hb), fun b hb => (by cases hb), fun p q => by rw [decide_eq_false (by omega)]; rfl⟩
theorem okB_lo {lo lo' : Int} (hl : lo' ≤ lo) : ∀ {B : List BandZ} {m : Int} {e : List Int}, OkB lo m e B → OkB lo' m e B
  | [], _, _, _ => trivial
  | b :: B, m, e, ⟨h1, h2, h3, h4, h5, h6⟩ => ⟨h1, h2, h3.mono hl, h4, h5, okB_lo hl h6⟩
/-- The bands of a whole field. -/
theorem bdE_ok (F : Nat → Nat → Bool) : RegOk (bdE F 0) ∧ OkB (-1) 0 [] (bdE F 0) ∧ (∀ b ∈ bdE F 0, b.y1 ≤ 40) ∧ (∀ b ∈ bdE F 0, ∀ e ∈ b.es, e ≤ 40) ∧ ∀ p q : Int, hasB (bdE F 0) p q = (decide ((0 : Int) ≤ q ∧ q < 40) && (decide (0 ≤ p ∧ p < 40) && F q.toNat p.toNat)) := by
  obtain ⟨h1, h2, h3, h4, h5⟩ := bdE_spec F 40 0 (by omega) (by omega)
  have h0 : OkB (-1) 0 [] (bdE F 0) := h1 [] (fun _ ha => edE_ne ha)
  refine ⟨⟨?_, h2, fun x y hxy => ?_⟩, h0, h3, h4, h5⟩
  · have := okB_lo (lo' := -1073741825) (by omega) h0
    cases hB : bdE F 0 with
    | nil => trivial
    | cons b B =>
      rw [hB] at this
      obtain ⟨k1, k2, k3, k4, k5, k6⟩ := this
      exact ⟨by omega, k2, k3, k4, fun q => by omega, k6⟩
  · rw [h5] at hxy
    simp only [Bool.and_eq_true, decide_eq_true_eq] at hxy
    omega
/-- The only region with the field's pixels. -/
theorem bdE_uniq (F : Nat → Nat → Bool) {B : List BandZ} (hB : RegOk B) (h : ∀ p q : Int, hasB B p q = (decide ((0 : Int) ≤ q ∧ q < 40) && (decide (0 ≤ p ∧ p < 40) && F q.toNat p.toNat))) : B = bdE F 0 :=
  RegOk.uniq hB (bdE_ok F).1 (fun x y => by rw [h, (bdE_ok F).2.2.2.2])
/-- Counted. -/
theorem cnt_row (F : Nat → Nat → Bool) (y : Nat) : ∀ x, x ≤ 40 → (cntK F (y * 40 + x) : Int) = cntK F (y * 40) + cntZ 0 x (fun p => F y p.toNat)
  | 0, _ => by simp [cntZ]
  | x + 1, h => by
    have ih := cnt_row F y x (by omega)
    rw [show y * 40 + (x + 1) = (y * 40 + x) + 1 by omega, cntK, show (y * 40 + x) / 40 = y by omega, show (y * 40 + x) % 40 = x by omega, cntZ]
    rw [show ((0 : Int) + (x : Int)).toNat = x by omega]
    push_cast
    rw [ih]
    by_cases c : F y x = true
    · rw [if_pos c, if_pos c]; push_cast; omega
    · rw [if_neg c, if_neg c]; push_cast; omega
theorem cnt_rows (F : Nat → Nat → Bool) : ∀ y, y ≤ 40 → (cntK F (y * 40) : Int) = sumY 0 y (fun q => cntZ 0 40 (fun p => F q.toNat p.toNat))
  | 0, _ => by simp [sumY, cntK]
  | y + 1, h => by
    have ih := cnt_rows F y (by omega)
    have := cnt_row F y 40 (by omega)
    rw [show (y + 1) * 40 = y * 40 + 40 by omega, this, ih, sumY, show ((0 : Int) + (y : Int)).toNat = y by omega]
theorem bdE_count (F : Nat → Nat → Bool) : sumQ (rectsZ (bdE F 0)) = cntK F 1600 := by
  obtain ⟨h1, h2, h3, h4, h5⟩ := bdE_ok F
  have e1 := cnt_region (lo := 0) (n := 40) (m := 0) (Int.le_refl _) (by simpa using h2) h1.even (fun b hb => by have := h3 b hb; omega) (fun b hb e he => by have := h4 b hb e he; omega)
  have e2 := sum_bands (m := -1073741824) (by omega) h1.ok h1.hiY h1.hiX
  rw [e2, ← e1, show (1600 : Nat) = 40 * 40 from rfl, cnt_rows F 40 (by omega)]
  unfold cnt2
  refine sumY_congr (fun y k1 k2 => cntZ_congr (fun x k3 k4 => ?_))
  rw [h5, decide_eq_true (by omega), decide_eq_true (by omega)]
  rfl
/-- The reference's hull. -/
def hmQ (a b : RectQ) : RectQ := (min a.1 b.1, min a.2.1 b.2.1, max a.2.2.1 b.2.2.1, max a.2.2.2 b.2.2.2)
def refHull : List RectQ → RectQ
  | [] => (0, 0, 0, 0)
  | q :: l => l.foldl hmQ q
theorem hull2_hm {p q : RectQ} (hp : nfQ p) (hq : nfQ q) (p1 : p.1 < p.2.2.1) (q1 : q.1 < q.2.2.1) : hull2 p q = hmQ p q ∧ nfQ (hmQ p q) ∧ (hmQ p q).1 < (hmQ p q).2.2.1 := by
  obtain ⟨P, Q, R, S, A, B, C, D, X, Y, Z, T, e0, e1, e2, e3, a0, a1, a2, a3, x0, x1, x2, x3, hA, hX, hN, hc⟩ := h_all p.1 p.2.1 p.2.2.1 p.2.2.2 q.1 q.2.1 q.2.2.1 q.2.2.2
  obtain ⟨n0', n1', n2', n3'⟩ := r_same hp
  obtain ⟨m0, m1, m2, m3⟩ := r_same hq
  rw [n0'] at a0; rw [n1'] at a1; rw [n2'] at a2; rw [n3'] at a3
  rw [m0] at x0; rw [m1] at x1; rw [m2] at x2; rw [m3] at x3
  have eh : hull2 p q = (P, Q, R, S) := by unfold hull2; rw [e0, e1, e2, e3]
  have e4 : hull2 p q = hmQ p q := by
    rw [eh]
    unfold hmQ
    rw [a0, a1, a2, a3, x0, x1, x2, x3]
    rcases hc with ⟨c1, c2, c3, c4, _⟩ | ⟨_, c1, c2, c3, c4, _⟩ | ⟨_, _, k0, k1, k2, k3⟩
    · omega
    · omega
    · rw [k0, k1, k2, k3]
  refine ⟨e4, ?_, ?_⟩
  · rw [← e4, eh]; exact hN
  · show min p.1 q.1 < max p.2.2.1 q.2.2.1
    omega
theorem hull_zero {q : RectQ} (hq : nfQ q) : hull2 (0, 0, 0, 0) q = q := by
  obtain ⟨P, Q, R, S, A, B, C, D, X, Y, Z, T, e0, e1, e2, e3, a0, a1, a2, a3, x0, x1, x2, x3, hA, hX, hN, hc⟩ := h_all 0 0 0 0 q.1 q.2.1 q.2.2.1 q.2.2.2
  obtain ⟨n0', n1', n2', n3'⟩ := r_same (p := 0) (q := 0) (r := 0) (s := 0) (by unfold NF; omega)
  obtain ⟨m0, m1, m2, m3⟩ := r_same hq
  rw [n0'] at a0; rw [n1'] at a1; rw [n2'] at a2; rw [n3'] at a3
  rw [m0] at x0; rw [m1] at x1; rw [m2] at x2; rw [m3] at x3
  have eh : hull2 (0, 0, 0, 0) q = (P, Q, R, S) := by unfold hull2; rw [e0, e1, e2, e3]
  rw [eh]
  obtain ⟨q0, q1, q2, q3⟩ := q
  simp only at x0 x1 x2 x3
  rcases hc with ⟨_, _, _, _, k0, k1, k2, k3⟩ | ⟨c1, _⟩ | ⟨c1, _⟩
  · rw [k0, k1, k2, k3, ← x0, ← x1, ← x2, ← x3]
  · omega
  · omega
theorem hull_fold_hm : ∀ (l : List RectQ) (p : RectQ), nfQ p → p.1 < p.2.2.1 → (∀ q ∈ l, nfQ q ∧ q.1 < q.2.2.1) → l.foldl hull2 p = l.foldl hmQ p
  | [], p, _, _, _ => rfl
  | q :: l, p, h1, h2, h => by
    obtain ⟨k1, k2⟩ := h q (.head _)
    obtain ⟨e1, e2, e3⟩ := hull2_hm h1 k1 h2 k2
    rw [List.foldl_cons, List.foldl_cons, e1]
    exact hull_fold_hm l _ e2 e3 (fun q hq => h q (.tail _ hq))
theorem refHull_eq {l : List RectQ} (h : ∀ q ∈ l, nfQ q ∧ q.1 < q.2.2.1) : refHull l = hullQ l := by
  cases l with
  | nil => rfl
  | cons q l =>
    obtain ⟨k1, k2⟩ := h q (.head _)
    show l.foldl hmQ q = (q :: l).foldl hull2 (0, 0, 0, 0)
    rw [List.foldl_cons, hull_zero k1, hull_fold_hm l q k1 k2 (fun q hq => h q (.tail _ hq))]
end Go.Proofs.Ytkpamofamcndnaa
