/- Whole numbers of any size, in digits of 16 bits, the lowest first: plain. -/
import Derived.Lib.Hide
namespace Go.Proofs.Ytjcbphhemmdnjaa
set_option linter.unusedSimpArgs false
set_option linter.unusedVariables false

/-- What digits are worth. -/
def bv : List Nat → Nat
  | [] => 0
  | d :: r => d + 65536 * bv r
def Digs (l : List Nat) : Prop := ∀ d ∈ l, d < 65536
/-- Digits without a nought at the end. -/
def Trim (l : List Nat) : Prop := Digs l ∧ (l = [] ∨ l.getLast? ≠ some 0)

theorem bv_append (a b : List Nat) : bv (a ++ b) = bv a + 65536 ^ a.length * bv b := by
  induction a with
  | nil => simp [bv]
  | cons d r ih => simp only [List.cons_append, bv, ih, List.length_cons, Nat.pow_succ]; rw [Nat.mul_add, ← Nat.mul_assoc, Nat.mul_comm 65536 (65536 ^ r.length)]; omega
theorem bv_snoc (a : List Nat) (d : Nat) : bv (a ++ [d]) = bv a + 65536 ^ a.length * d := by rw [bv_append]; simp [bv]
theorem bv_lt {l : List Nat} (h : Digs l) : bv l < 65536 ^ l.length := by
  induction l with
  | nil => simp [bv]
  | cons d r ih =>
    have h1 := ih (fun x hx => h x (List.mem_cons_of_mem _ hx))
    have h2 := h d (List.mem_cons_self ..)
    simp only [bv, List.length_cons, Nat.pow_succ]
    omega
theorem digs_snoc {l : List Nat} {d : Nat} (h : Digs l) (hd : d < 65536) : Digs (l ++ [d]) := by
  intro x hx
  rcases List.mem_append.1 hx with h1 | h1
  · exact h x h1
  · simp at h1; omega
theorem digs_take {l : List Nat} (h : Digs l) (k : Nat) : Digs (l.take k) := fun x hx => h x (List.mem_of_mem_take hx)
theorem digs_drop {l : List Nat} (h : Digs l) (k : Nat) : Digs (l.drop k) := fun x hx => h x (List.mem_of_mem_drop hx)
theorem digs_get {l : List Nat} (h : Digs l) (k : Nat) : l.getD k 0 < 65536 := by
  rw [List.getD_eq_getElem?_getD]
  cases e : l[k]? with
  | none => simp
  | some v => simpa using h v (List.mem_of_getElem? e)
theorem trim_tail {d : Nat} {r : List Nat} (h : Trim (d :: r)) : Trim r := by
  refine ⟨fun x hx => h.1 x (List.mem_cons_of_mem _ hx), ?_⟩
  rcases h.2 with h2 | h2
  · cases h2
  · cases r with
    | nil => exact .inl rfl
    | cons e s => right; simpa using h2
/-- Trimmed digits that are worth nothing are none. -/
theorem trim_zero {l : List Nat} (h : Trim l) (h0 : bv l = 0) : l = [] := by
  induction l with
  | nil => rfl
  | cons d r ih =>
    simp only [bv] at h0
    have hr := ih (trim_tail h) (by omega)
    subst hr
    have hd : d = 0 := by omega
    subst hd
    rcases h.2 with h2 | h2
    · cases h2
    · exact absurd rfl h2
/-- There is but one way to write a number. -/
theorem trim_eq : ∀ {a b : List Nat}, Trim a → Trim b → bv a = bv b → a = b
  | [], b, _, hb, h => (trim_zero hb (by rw [← h]; rfl)).symm
  | d :: r, [], ha, _, h => trim_zero ha h
  | d :: r, e :: s, ha, hb, h => by
    simp only [bv] at h
    have h1 := ha.1 d (List.mem_cons_self ..)
    have h2 := hb.1 e (List.mem_cons_self ..)
    have e1 : d = e := by omega
    have e2 := trim_eq (trim_tail ha) (trim_tail hb) (by omega)
    rw [e1, e2]
/-- The digits of a number. -/
def dgF : Nat → Nat → List Nat
  | 0, _ => []
  | f + 1, n => if n = 0 then [] else n % 65536 :: dgF f (n / 65536)
def dg (n : Nat) : List Nat := dgF (n + 1) n
theorem dgF_eq : ∀ (f g n : Nat), n < f → n < g → dgF f n = dgF g n
  | 0, _, n, h, _ => by omega
  | _ + 1, 0, n, _, h => by omega
  | f + 1, g + 1, n, h1, h2 => by
    simp only [dgF]
    split
    · rfl
    · rw [dgF_eq f g (n / 65536) (by omega) (by omega)]
theorem dg_zero : dg 0 = [] := rfl
theorem dg_pos {n : Nat} (h : 0 < n) : dg n = n % 65536 :: dg (n / 65536) := by
  unfold dg
  rw [dgF, if_neg (by omega), dgF_eq n (n / 65536 + 1) (n / 65536) (by omega) (by omega)]
theorem dg_bv (n : Nat) : bv (dg n) = n := by
  induction n using Nat.strongRecOn with
  | ind n ih =>
    rcases Nat.eq_zero_or_pos n with rfl | h
    · rfl
    · rw [dg_pos h, bv, ih (n / 65536) (by omega)]; omega
theorem dg_trim (n : Nat) : Trim (dg n) := by
  induction n using Nat.strongRecOn with
  | ind n ih =>
    rcases Nat.eq_zero_or_pos n with rfl | h
    · exact ⟨fun d hd => (by cases hd), .inl rfl⟩
    · have h1 := ih (n / 65536) (by omega)
      rw [dg_pos h]
      refine ⟨fun d hd => ?_, .inr ?_⟩
      · rcases List.mem_cons.1 hd with rfl | hd
        · omega
        · exact h1.1 d hd
      · rcases Nat.eq_zero_or_pos (n / 65536) with h2 | h2
        · rw [h2, dg_zero]; simp; omega
        · have h3 := h1.2
          rw [dg_pos h2] at h3 ⊢
          rcases h3 with h3 | h3
          · cases h3
          · simpa using h3
theorem dg_of {l : List Nat} (h : Trim l) : dg (bv l) = l := trim_eq (dg_trim _) h (dg_bv _)
theorem dg_len_le {n k : Nat} (h : n < 65536 ^ k) : (dg n).length ≤ k := by
  induction k generalizing n with
  | zero => have : n = 0 := by simpa using h
            subst this; simp [dg_zero]
  | succ k ih =>
    rcases Nat.eq_zero_or_pos n with rfl | h0
    · simp [dg_zero]
    · rw [dg_pos h0]
      have := ih (n := n / 65536) (by rw [Nat.pow_succ] at h; omega)
      simp; omega
theorem bv_take_drop (l : List Nat) (k : Nat) (h : k ≤ l.length) : bv l = bv (l.take k) + 65536 ^ k * bv (l.drop k) := by
  have := bv_append (l.take k) (l.drop k)
  rw [List.take_append_drop, List.length_take, Nat.min_eq_left h] at this
  exact this
theorem bv_drop (l : List Nat) (k : Nat) : bv (l.drop k) = l.getD k 0 + 65536 * bv (l.drop (k + 1)) := by
  rcases Nat.lt_or_ge k l.length with h | h
  · rw [List.drop_eq_getElem_cons h, bv]; simp [h]
  · rw [List.drop_eq_nil_of_le h, List.drop_eq_nil_of_le (by omega)]; simp [bv, h]
/-- Digits cut at the last one that isn't nought. -/
theorem take_last {l : List Nat} {k : Nat} (hk : k < l.length) (h0 : l.getD k 0 = 0) : bv (l.take (k + 1)) = bv (l.take k) := by
  have e : l.take (k + 1) = l.take k ++ [l.getD k 0] := by rw [List.take_succ_eq_append_getElem hk]; simp [hk]
  rw [e, bv_snoc, h0]; omega
theorem trim_take {l : List Nat} {k : Nat} (hd : Digs l) (hk : k ≤ l.length) (h : k = 0 ∨ l.getD (k - 1) 0 ≠ 0) : Trim (l.take k) := by
  refine ⟨digs_take hd k, ?_⟩
  rcases Nat.eq_zero_or_pos k with rfl | h0
  · left; simp
  · right
    rcases h with h | h
    · omega
    · rw [List.getLast?_eq_getElem?, List.length_take, Nat.min_eq_left hk, List.getElem?_take_of_lt (by omega)]
      rw [List.getD_eq_getElem?_getD] at h
      intro e
      rw [e] at h
      exact h rfl
/-! The sum, the difference, the comparison, the product: one round. -/
theorem plus_step {O P c x y A B A' B' V : Nat} (h : O + P * (c + A + B) = V) (hA : A = x + 65536 * A') (hB : B = y + 65536 * B') : O + P * ((c + x + y) % 65536) + P * 65536 * ((c + x + y) / 65536 + A' + B') = V := by
  have e : c + A + B = (c + x + y) % 65536 + 65536 * ((c + x + y) / 65536 + A' + B') := by omega
  rw [e, Nat.mul_add, ← Nat.mul_assoc] at h
  omega
/-- The digits of a sum, as far as reckoned. -/
def PlusAt (a b o : List Nat) (i c : Nat) : Prop := o.length = i ∧ Digs o ∧ c ≤ 1 ∧ bv o + 65536 ^ i * (c + bv (a.drop i) + bv (b.drop i)) = bv a + bv b
theorem plus_zero (a b : List Nat) : PlusAt a b [] 0 0 := ⟨rfl, fun d hd => (by cases hd), by omega, by simp [bv]⟩
theorem plus_next {a b o : List Nat} {i c : Nat} (ha : Digs a) (hb : Digs b) (h : PlusAt a b o i c) : PlusAt a b (o ++ [(c + a.getD i 0 + b.getD i 0) % 65536]) (i + 1) ((c + a.getD i 0 + b.getD i 0) / 65536) := by
  obtain ⟨h1, h2, h3, h4⟩ := h
  have := digs_get ha i; have := digs_get hb i
  refine ⟨by simp [h1], digs_snoc h2 (by omega), by omega, ?_⟩
  rw [bv_snoc, h1, Nat.pow_succ]
  exact plus_step h4 (bv_drop a i) (bv_drop b i)
theorem plus_end {a b o : List Nat} {i c : Nat} (h : PlusAt a b o i c) (ha : a.length ≤ i) (hb : b.length ≤ i) (hc : c = 0) : bv o = bv a + bv b := by
  obtain ⟨h1, h2, h3, h4⟩ := h
  rw [List.drop_eq_nil_of_le ha, List.drop_eq_nil_of_le hb, hc] at h4
  simpa [bv] using h4
theorem minus_step {O P c x y A B A' B' V : Int} {d c' : Int} (h : O + P * (A - B - c) = V) (hA : A = x + 65536 * A') (hB : B = y + 65536 * B') (hd : d = x - (c + y) + 65536 * c') : O + P * d + P * 65536 * (A' - B' - c') = V := by
  have e : A - B - c = d + 65536 * (A' - B' - c') := by omega
  rw [e, Int.mul_add, ← Int.mul_assoc] at h
  omega
/-- The digits of a difference, as far as reckoned. -/
def MinusAt (a b o : List Nat) (i c : Nat) : Prop := o.length = i ∧ Digs o ∧ c ≤ 1 ∧ (bv o : Int) + 65536 ^ i * ((bv (a.drop i) : Int) - bv (b.drop i) - c) = bv a - bv b
theorem minus_zero (a b : List Nat) : MinusAt a b [] 0 0 := ⟨rfl, fun d hd => (by cases hd), by omega, by simp [bv]⟩
theorem minus_next {a b o : List Nat} {i c : Nat} (ha : Digs a) (hb : Digs b) (h : MinusAt a b o i c) :
    MinusAt a b (o ++ [if a.getD i 0 < c + b.getD i 0 then a.getD i 0 + 65536 - (c + b.getD i 0) else a.getD i 0 - (c + b.getD i 0)]) (i + 1) (if a.getD i 0 < c + b.getD i 0 then 1 else 0) := by
  obtain ⟨h1, h2, h3, h4⟩ := h
  have q1 := digs_get ha i; have q2 := digs_get hb i
  have hA : ((bv (a.drop i) : Nat) : Int) = (a.getD i 0 : Nat) + 65536 * ((bv (a.drop (i + 1)) : Nat) : Int) := by have := bv_drop a i; omega
  have hB : ((bv (b.drop i) : Nat) : Int) = (b.getD i 0 : Nat) + 65536 * ((bv (b.drop (i + 1)) : Nat) : Int) := by have := bv_drop b i; omega
  have hp : ((65536 : Int) ^ (i + 1)) = 65536 ^ i * 65536 := Int.pow_succ ..
  refine ⟨by simp [h1], digs_snoc h2 (by split <;> omega), by split <;> omega, ?_⟩
  rw [bv_snoc, h1, hp]
  generalize a.getD i 0 = x at *
  generalize b.getD i 0 = y at *
  have hpn : (((65536 : Nat) ^ i : Nat) : Int) = (65536 : Int) ^ i := by simp
  rw [Int.natCast_add, Int.natCast_mul, hpn]
  refine minus_step h4 hA hB ?_
  split <;> omega
theorem minus_end {a b o : List Nat} {i c : Nat} (h : MinusAt a b o i c) (ha : a.length ≤ i) (hb : b.length ≤ i) (hge : bv b ≤ bv a) : bv o = bv a - bv b := by
  obtain ⟨h1, h2, h3, h4⟩ := h
  rw [List.drop_eq_nil_of_le ha, List.drop_eq_nil_of_le hb] at h4
  have h5 := bv_lt h2
  rw [h1] at h5
  have hpn : (((65536 : Nat) ^ i : Nat) : Int) = (65536 : Int) ^ i := by simp
  rw [← hpn] at h4
  simp only [bv] at h4
  have hc : c = 0 ∨ c = 1 := by omega
  rcases hc with rfl | rfl
  · simp at h4; omega
  · simp at h4; omega
/-- One number against another. -/
def cmpN (a b : Nat) : Int := if a < b then -1 else if b < a then 1 else 0
theorem trim_ge {l : List Nat} (h : Trim l) (h0 : 0 < l.length) : 65536 ^ (l.length - 1) ≤ bv l := by
  induction l with
  | nil => simp at h0
  | cons d r ih =>
    rcases Nat.eq_zero_or_pos r.length with hr | hr
    · obtain rfl : r = [] := List.eq_nil_of_length_eq_zero hr
      rcases h.2 with h2 | h2
      · cases h2
      · simp at h2; simp [bv]; omega
    · have := ih (trim_tail h) hr
      simp only [List.length_cons, Nat.add_sub_cancel, bv]
      have e : r.length = r.length - 1 + 1 := by omega
      rw [e, Nat.pow_succ]
      omega
theorem cmp_len {a b : List Nat} (ha : Trim a) (hb : Trim b) (h : a.length < b.length) : bv a < bv b := by
  have h1 := bv_lt ha.1
  have h2 := trim_ge hb (by omega)
  have h3 : 65536 ^ a.length ≤ 65536 ^ (b.length - 1) := Nat.pow_le_pow_right (by omega) (by omega)
  omega
theorem cmp_digit {a b : List Nat} {k : Nat} (ha : Digs a) (hk : k < a.length) (hl : a.length = b.length) (he : bv (a.drop (k + 1)) = bv (b.drop (k + 1))) (h : a.getD k 0 < b.getD k 0) : bv a < bv b := by
  have e1 := bv_take_drop a k (by omega)
  have e2 := bv_take_drop b k (by omega)
  have h1 := bv_lt (digs_take ha k)
  rw [List.length_take, Nat.min_eq_left (by omega)] at h1
  rw [bv_drop a k] at e1
  rw [bv_drop b k, ← he] at e2
  generalize bv (a.drop (k + 1)) = D at *
  have h2 : a.getD k 0 + 65536 * D + 1 ≤ b.getD k 0 + 65536 * D := by omega
  have h3 := Nat.mul_le_mul_left (65536 ^ k) h2
  rw [Nat.mul_add, Nat.mul_one] at h3
  omega
theorem cmp_next {a b : List Nat} {k : Nat} (he : bv (a.drop (k + 1)) = bv (b.drop (k + 1))) (h : a.getD k 0 = b.getD k 0) : bv (a.drop k) = bv (b.drop k) := by
  rw [bv_drop a k, bv_drop b k, he, h]
/-- A digit put into its place. -/
theorem bv_set : ∀ (l : List Nat) (j v : Nat), j < l.length → bv (l.set j v) + 65536 ^ j * l.getD j 0 = bv l + 65536 ^ j * v
  | [], j, v, h => by simp at h
  | d :: r, 0, v, _ => by simp [bv]; omega
  | d :: r, j + 1, v, h => by
    have := bv_set r j v (by simpa using h)
    simp only [List.set_cons_succ, bv, List.getD_cons_succ, Nat.pow_succ]
    rw [Nat.mul_comm (65536 ^ j) 65536, Nat.mul_assoc, Nat.mul_assoc]
    omega
theorem digs_set {l : List Nat} {j v : Nat} (h : Digs l) (hv : v < 65536) : Digs (l.set j v) := by
  intro x hx
  rcases List.mem_or_eq_of_mem_set hx with h1 | h1
  · exact h x h1
  · omega
theorem getD_set (l : List Nat) (i j v : Nat) (h : i < l.length) : (l.set i v).getD j 0 = if i = j then v else l.getD j 0 := by
  rw [List.getD_eq_getElem?_getD, List.getD_eq_getElem?_getD, List.getElem?_set]
  split
  · subst_vars; simp [h]
  · rfl
theorem bv_take_succ {l : List Nat} {k : Nat} (h : k < l.length) : bv (l.take (k + 1)) = bv (l.take k) + 65536 ^ k * l.getD k 0 := by
  have e : l.take (k + 1) = l.take k ++ [l.getD k 0] := by rw [List.take_succ_eq_append_getElem h]; simp [h]
  rw [e, bv_snoc, List.length_take, Nat.min_eq_left (by omega)]
/-- A product, as far as reckoned: of i digits of a by b, and of the next one by k digits of b. -/
def TimesAt (a b o : List Nat) (i k c : Nat) : Prop := o.length = a.length + b.length ∧ Digs o ∧ c < 65536 ∧ (∀ j, i + b.length ≤ j → o.getD j 0 = 0) ∧ bv o + 65536 ^ (i + k) * c = bv (a.take i) * bv b + 65536 ^ i * (a.getD i 0 * bv (b.take k))
theorem times_zero (a b : List Nat) : TimesAt a b (List.replicate (a.length + b.length) 0) 0 0 0 := by
  refine ⟨by simp, fun d hd => (by have := (List.mem_replicate.1 hd).2; omega), by omega, fun j _ => ?_, ?_⟩
  · rw [List.getD_eq_getElem?_getD, List.getElem?_replicate]; split <;> rfl
  · have : ∀ n, bv (List.replicate n 0) = 0 := fun n => by induction n with
      | zero => rfl
      | succ n ih => simp [List.replicate_succ, bv, ih]
    simp [this, bv]
theorem times_next {a b o : List Nat} {i k c : Nat} (ha : Digs a) (hb : Digs b) (hi : i < a.length) (hk : k < b.length) (h : TimesAt a b o i k c) :
    TimesAt a b (o.set (i + k) ((o.getD (i + k) 0 + a.getD i 0 * b.getD k 0 + c) % 65536)) i (k + 1) ((o.getD (i + k) 0 + a.getD i 0 * b.getD k 0 + c) / 65536) := by
  obtain ⟨h1, h2, h3, h4, h5⟩ := h
  have q1 := digs_get ha i; have q2 := digs_get hb k; have q3 := digs_get h2 (i + k)
  have q4 : a.getD i 0 * b.getD k 0 ≤ 65535 * 65535 := Nat.mul_le_mul (by omega) (by omega)
  refine ⟨by simp [h1], digs_set h2 (by omega), by omega, fun j hj => ?_, ?_⟩
  · rw [getD_set o (i + k) j _ (by omega), if_neg (by omega)]; exact h4 j hj
  · have e := bv_set o (i + k) ((o.getD (i + k) 0 + a.getD i 0 * b.getD k 0 + c) % 65536) (by omega)
    have e3 : ∀ B y : Nat, 65536 ^ i * (a.getD i 0 * (B + 65536 ^ k * y)) = 65536 ^ i * (a.getD i 0 * B) + 65536 ^ (i + k) * (a.getD i 0 * y) := fun B y => by rw [Nat.mul_add, Nat.mul_add, Nat.pow_add]; congr 1; ac_rfl
    rw [bv_take_succ hk, e3, ← Nat.add_assoc (bv (a.take i) * bv b), ← h5, ← Nat.add_assoc i k 1, Nat.pow_succ]
    generalize a.getD i 0 * b.getD k 0 = x at *
    generalize o.getD (i + k) 0 = y at *
    generalize 65536 ^ (i + k) = P at *
    have e2 : P * (y + x + c) = P * ((y + x + c) % 65536) + P * (65536 * ((y + x + c) / 65536)) := by rw [← Nat.mul_add]; congr 1; omega
    rw [Nat.mul_add, Nat.mul_add] at e2
    rw [Nat.mul_assoc P]
    omega
theorem times_row {a b o : List Nat} {i c : Nat} (hi : i < a.length) (hb : 0 < b.length ∨ c = 0) (h : TimesAt a b o i b.length c) : TimesAt a b (o.set (i + b.length) (o.getD (i + b.length) 0 + c)) (i + 1) 0 0 := by
  obtain ⟨h1, h2, h3, h4, h5⟩ := h
  rw [h4 (i + b.length) (Nat.le_refl _), Nat.zero_add]
  refine ⟨by simp [h1], digs_set h2 h3, by omega, fun j hj => ?_, ?_⟩
  · rw [getD_set o (i + b.length) j _ (by omega), if_neg (by omega)]; exact h4 j (by omega)
  · have e := bv_set o (i + b.length) c (by omega)
    rw [h4 (i + b.length) (Nat.le_refl _)] at e
    rw [List.take_length] at h5
    rw [bv_take_succ hi, Nat.add_mul, Nat.mul_assoc (65536 ^ i)]
    simp only [List.take_zero, bv, Nat.mul_zero, Nat.add_zero] at e ⊢
    omega
theorem times_end {a b o : List Nat} {i : Nat} (h : TimesAt a b o i 0 0) (hi : a.length ≤ i) : bv o = bv a * bv b := by
  obtain ⟨_, _, _, _, h5⟩ := h
  rw [List.take_of_length_le hi] at h5
  simpa [bv] using h5
end Go.Proofs.Ytjcbphhemmdnjaa
