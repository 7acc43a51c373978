/- Regions plain: their area is how many pixels they have; their hull. -/
import Derived.Test.YtkpamofamcndnaaRegV
import Derived.Test.YtkpamofamcndnaaRectP
namespace Go.Proofs.Ytkpamofamcndnaa
set_option linter.unusedSimpArgs false
set_option linter.unusedVariables false

/-! ### area -/
def areaQ (q : RectQ) : Int := areaR q.1 q.2.1 q.2.2.1 q.2.2.2
def sumQ : List RectQ → Int
  | [] => 0
  | q :: l => areaQ q + sumQ l
theorem sumQ_append : ∀ l k : List RectQ, sumQ (l ++ k) = sumQ l + sumQ k
  | [], k => by show sumQ k = 0 + sumQ k; omega
  | q :: l, k => by show areaQ q + sumQ (l ++ k) = areaQ q + sumQ l + sumQ k; rw [sumQ_append l k]; omega
theorem sumQ_pos : ∀ l : List RectQ, 0 ≤ sumQ l
  | [] => Int.le_refl _
  | q :: l => by
    have := sumQ_pos l
    have := (area_in q.1 q.2.1 q.2.2.1 q.2.2.2).1
    show 0 ≤ areaQ q + sumQ l
    unfold areaQ; omega
theorem sumQ_take (l : List RectQ) (i : Nat) : sumQ (l.take i) ≤ sumQ l := by
  have h := sumQ_append (l.take i) (l.drop i)
  rw [List.take_append_drop] at h
  have := sumQ_pos (l.drop i)
  omega
theorem areaR_nf {p q r s : Int} (h : NF p q r s) : areaR p q r s = (r - p) * (s - q) := by
  obtain ⟨s0, s1, s2, s3⟩ := r_same h
  unfold areaR
  rw [s0, s1, s2, s3]
def lenZ : List Int → Int
  | a :: c :: l => (c - a) + lenZ l
  | _ => 0
theorem lenZ_in {hi : Int} : ∀ {es : List Int} {m : Int}, Up m es → (∀ e ∈ es, e ≤ hi) → m ≤ hi → 0 ≤ lenZ es ∧ lenZ es ≤ hi - m
  | [], m, _, _, h => ⟨Int.le_refl _, by show (0 : Int) ≤ _; omega⟩
  | [a], m, _, _, h => ⟨Int.le_refl _, by show (0 : Int) ≤ _; omega⟩
  | a :: c :: l, m, h, he, hm => by
    have h1 := h.1; have h2 := h.2.1
    have h3 := he c (by simp)
    obtain ⟨h4, h5⟩ := lenZ_in h.2.2 (fun e q => he e (.tail _ (.tail _ q))) h3
    show 0 ≤ (c - a) + lenZ l ∧ (c - a) + lenZ l ≤ hi - m
    omega
theorem sum_pairs {y0 y1 : Int} (h0 : -1073741824 ≤ y0) (h1 : y0 < y1) (h2 : y1 ≤ 1073741824) : ∀ {es : List Int} {m : Int}, -1073741825 ≤ m → Up m es → (∀ e ∈ es, e ≤ 1073741824) → sumQ (pairsZ y0 y1 es) = (y1 - y0) * lenZ es
  | [], m, _, _, _ => by show (0 : Int) = _ * 0; simp
  | [a], m, _, _, _ => by show (0 : Int) = _ * 0; simp
  | a :: c :: l, m, hm, h, he => by
    have k1 := h.1; have k2 := h.2.1
    have k3 := he c (by simp)
    have ih := sum_pairs h0 h1 h2 (m := c) (by omega) h.2.2 (fun e q => he e (.tail _ (.tail _ q)))
    show areaR a y0 c y1 + sumQ (pairsZ y0 y1 l) = (y1 - y0) * ((c - a) + lenZ l)
    rw [areaR_nf (by unfold NF; omega), ih, Int.mul_add, Int.mul_comm (c - a)]
def sumB : List BandZ → Int
  | [] => 0
  | b :: B => (b.y1 - b.y0) * lenZ b.es + sumB B
theorem sum_bands : ∀ {B : List BandZ} {m : Int} {e : List Int}, -1073741824 ≤ m → OkB (-1073741825) m e B → (∀ b ∈ B, b.y1 ≤ 1073741824) → (∀ b ∈ B, ∀ e ∈ b.es, e ≤ 1073741824) → sumQ (rectsZ B) = sumB B
  | [], m, e, _, _, _, _ => rfl
  | b :: B, m, e, hm, h, hy, hx => by
    obtain ⟨h1, h2, h3, h4, h5, h6⟩ := h
    have ky := hy b (.head _)
    show sumQ (pairsZ b.y0 b.y1 b.es ++ rectsZ B) = (b.y1 - b.y0) * lenZ b.es + sumB B
    rw [sumQ_append, sum_pairs (by omega) h2 ky (Int.le_refl _) h3 (hx b (.head _)), sum_bands (m := b.y1) (by omega) h6 (fun x q => hy x (.tail _ q)) (fun x q => hx x (.tail _ q))]
theorem sumB_le : ∀ {B : List BandZ} {m : Int} {e : List Int}, OkB (-1073741825) m e B → m ≤ 1073741824 → (∀ b ∈ B, b.y1 ≤ 1073741824) → (∀ b ∈ B, ∀ e ∈ b.es, e ≤ 1073741824) → sumB B ≤ (1073741824 - m) * 2147483649
  | [], m, e, _, hm, _, _ => by show (0 : Int) ≤ _; omega
  | b :: B, m, e, h, hm, hy, hx => by
    obtain ⟨h1, h2, h3, h4, h5, h6⟩ := h
    have ky := hy b (.head _)
    have ih := sumB_le h6 ky (fun x q => hy x (.tail _ q)) (fun x q => hx x (.tail _ q))
    obtain ⟨l1, l2⟩ := lenZ_in h3 (hx b (.head _)) (by omega)
    have k : (b.y1 - b.y0) * lenZ b.es ≤ (b.y1 - b.y0) * 2147483649 := Int.mul_le_mul_of_nonneg_left (by omega) (by omega)
    show (b.y1 - b.y0) * lenZ b.es + sumB B ≤ _
    omega
theorem RegOk.sum_le {B : List BandZ} (h : RegOk B) : sumQ (rectsZ B) ≤ 4611686020574871552 := by
  rw [sum_bands (Int.le_refl _) h.ok h.hiY h.hiX]
  have := sumB_le h.ok (by omega) h.hiY h.hiX
  omega
/-! ### how many pixels -/
def sumY (lo : Int) : Nat → (Int → Int) → Int
  | 0, _ => 0
  | n + 1, g => sumY lo n g + g (lo + n)
theorem sumY_congr {lo : Int} : ∀ {n : Nat} {f g : Int → Int}, (∀ y, lo ≤ y → y < lo + n → f y = g y) → sumY lo n f = sumY lo n g
  | 0, f, g, _ => rfl
  | n + 1, f, g, h => by
    show sumY lo n f + _ = sumY lo n g + _
    rw [sumY_congr (n := n) (fun x h1 h2 => h x h1 (by push_cast; omega)), h (lo + n) (by omega) (by push_cast; omega)]
theorem sumY_add {lo : Int} : ∀ {n : Nat} {f g : Int → Int}, sumY lo n (fun y => f y + g y) = sumY lo n f + sumY lo n g
  | 0, f, g => rfl
  | n + 1, f, g => by
    show sumY lo n (fun y => f y + g y) + (f _ + g _) = sumY lo n f + f _ + (sumY lo n g + g _)
    rw [sumY_add]; omega
theorem sumY_zero {lo : Int} : ∀ {n : Nat}, sumY lo n (fun _ => 0) = 0
  | 0 => rfl
  | n + 1 => by show sumY lo n _ + 0 = 0; rw [sumY_zero]; rfl
theorem sumY_iv {lo a c k : Int} : ∀ {n : Nat}, lo ≤ a → a ≤ c → c ≤ lo + n → sumY lo n (fun y => if a ≤ y ∧ y < c then k else 0) = (c - a) * k
  | 0, h1, h2, h3 => by
    have : c - a = 0 := by simp at h3; omega
    rw [this]; show (0 : Int) = 0 * k; simp
  | n + 1, h1, h2, h3 => by
    show sumY lo n _ + (if a ≤ lo + (n : Int) ∧ lo + (n : Int) < c then k else 0) = _
    by_cases q : c ≤ lo + n
    · rw [sumY_iv (n := n) h1 h2 q, if_neg (by omega)]; omega
    · have hc : c = lo + (n : Int) + 1 := by push_cast at h3; omega
      by_cases p : a = c
      · rw [if_neg (by omega), sumY_congr (g := fun _ => 0) (fun y k1 k2 => if_neg (by omega)), sumY_zero, p]; simp
      · have e : sumY lo n (fun y => if a ≤ y ∧ y < c then k else 0) = sumY lo n (fun y => if a ≤ y ∧ y < c - 1 then k else 0) := sumY_congr (fun y k1 k2 => by
          by_cases z : a ≤ y
          · rw [if_pos (by omega), if_pos (by omega)]
          · rw [if_neg (by omega), if_neg (by omega)])
        rw [e, sumY_iv (n := n) h1 (by omega) (by omega), if_pos (by omega)]
        have : (c - a) * k = (c - 1 - a + 1) * k := by congr 1; omega
        rw [this, Int.add_mul]; omega
theorem cnt_runs {lo : Int} {n : Nat} : ∀ {es : List Int} {m : Int}, lo ≤ m + 1 → Up m es → (∀ e ∈ es, e ≤ lo + n) → es.length % 2 = 0 → cntZ lo n (inR es) = lenZ es
  | [], m, _, _, _, _ => cntZ_none (fun _ _ _ => rfl)
  | [a], m, _, _, _, h => by simp at h
  | a :: c :: l, m, hm, h, he, hl => by
    have k1 := h.1; have k2 := h.2.1
    have k3 := he c (by simp)
    have ih := cnt_runs (lo := lo) (n := n) (m := c) (by omega) h.2.2 (fun e q => he e (.tail _ (.tail _ q))) (by simp at hl; omega)
    have e : ∀ x, inR (a :: c :: l) x = (decide (a ≤ x ∧ x < c) || inR l x) := fun x => by
      show (decide (a ≤ x) != (decide (c ≤ x) != inR l x)) = _
      by_cases p : a ≤ x
      · by_cases q : c ≤ x
        · rw [decide_eq_true p, decide_eq_true q, decide_eq_false (by omega)]; cases inR l x <;> rfl
        · rw [decide_eq_true p, decide_eq_false q, decide_eq_true (by omega), inR_low h.2.2 x (by omega)]; rfl
      · rw [decide_eq_false p, decide_eq_false (show ¬ c ≤ x by omega), decide_eq_false (by omega), inR_low h.2.2 x (by omega)]; rfl
    rw [cntZ_congr (fun x _ _ => e x), cntZ_or (fun x p q => by
      have p := of_decide_eq_true p
      rw [inR_low h.2.2 x (by omega)] at q; cases q), cntZ_iv (by omega) (by omega) k3, ih]
    rfl
/-- How many of the pixels in the square from lo on. -/
def cnt2 (lo : Int) (n : Nat) (P : Int → Int → Bool) : Int := sumY lo n (fun y => cntZ lo n (fun x => P x y))
theorem sum_rows {lo : Int} {n : Nat} : ∀ {B : List BandZ} {m : Int} {e : List Int}, lo ≤ m → OkB (lo - 1) m e B → (∀ b ∈ B, b.y1 ≤ lo + n) → sumY lo n (fun y => lenZ (rowB B y)) = sumB B
  | [], m, e, _, _, _ => sumY_zero
  | b :: B, m, e, hm, h, hy => by
    obtain ⟨h1, h2, h3, h4, h5, h6⟩ := h
    have ky := hy b (.head _)
    have ih := sum_rows (n := n) (m := b.y1) (by omega) h6 (fun x q => hy x (.tail _ q))
    have e : ∀ y, lenZ (rowB (b :: B) y) = (if b.y0 ≤ y ∧ y < b.y1 then lenZ b.es else 0) + lenZ (rowB B y) := fun y => by
      show lenZ (if _ then _ else _) = _
      by_cases p : b.y0 ≤ y ∧ y < b.y1
      · rw [if_pos p, if_pos p, rowB_low h6 y (by omega)]
        show _ = _ + (0 : Int); omega
      · rw [if_neg p, if_neg p]; omega
    rw [sumY_congr (fun y _ _ => e y), sumY_add, sumY_iv (by omega) (by omega) ky, ih]
    rfl
theorem cnt_region {lo : Int} {n : Nat} {B : List BandZ} {m : Int} {e : List Int} (hm : lo ≤ m) (h : OkB (lo - 1) m e B) (hev : EvenB B) (hy : ∀ b ∈ B, b.y1 ≤ lo + n) (hx : ∀ b ∈ B, ∀ e ∈ b.es, e ≤ lo + n) : cnt2 lo n (hasB B) = sumB B := by
  rw [← sum_rows hm h hy]
  refine sumY_congr (fun y _ _ => ?_)
  refine cnt_runs (m := lo - 1) (by omega) (rowB_up h y) ?_ (rowB_even hev y)
  intro e he
  rcases rowB_mem (B := B) (y := y) with q | ⟨b, q1, q2⟩
  · rw [q] at he; cases he
  · rw [q2] at he; exact hx b q1 e he
theorem cntZ_both {lo : Int} : ∀ {n : Nat} {f g : Int → Bool}, cntZ lo n (fun x => f x || g x) + cntZ lo n (fun x => f x && g x) = cntZ lo n f + cntZ lo n g
  | 0, f, g => rfl
  | n + 1, f, g => by
    have ih := cntZ_both (lo := lo) (n := n) (f := f) (g := g)
    show cntZ lo n _ + (if (f (lo + n) || g (lo + n)) = true then 1 else 0) + (cntZ lo n _ + (if (f (lo + n) && g (lo + n)) = true then 1 else 0)) = (cntZ lo n f + if f (lo + n) = true then 1 else 0) + (cntZ lo n g + if g (lo + n) = true then 1 else 0)
    generalize f (lo + n) = u
    generalize g (lo + n) = v
    cases u <;> cases v <;> simp <;> omega
theorem cnt2_both {lo : Int} {n : Nat} {P Q : Int → Int → Bool} : cnt2 lo n (fun x y => P x y || Q x y) + cnt2 lo n (fun x y => P x y && Q x y) = cnt2 lo n P + cnt2 lo n Q := by
  unfold cnt2
  rw [← sumY_add, ← sumY_add]
  exact sumY_congr (fun y _ _ => cntZ_both)
theorem cnt2_congr {lo : Int} {n : Nat} {P Q : Int → Int → Bool} (h : ∀ x y, P x y = Q x y) : cnt2 lo n P = cnt2 lo n Q := sumY_congr (fun y _ _ => cntZ_congr (fun x _ _ => h x y))
/-- The area of a region: how many pixels it has. -/
theorem RegOk.area {B : List BandZ} (h : RegOk B) {n : Nat} (hn : (n : Int) = 2147483648) : sumQ (rectsZ B) = cnt2 (-1073741824) n (hasB B) := by
  rw [cnt_region (m := -1073741824) (e := []) (by omega) h.ok h.even (fun b hb => by have := h.hiY b hb; omega) (fun b hb e he => by have := h.hiX b hb e he; omega)]
  exact sum_bands (Int.le_refl _) h.ok h.hiY h.hiX
end Go.Proofs.Ytkpamofamcndnaa
