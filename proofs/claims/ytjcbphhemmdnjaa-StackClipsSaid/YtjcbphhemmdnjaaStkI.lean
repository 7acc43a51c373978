/- law26 (stack), plain: inserting one after the other gives the painter's order; the boxes that clip. -/
import Derived.Test.YtjcbphhemmdnjaaStkSTU
namespace Go.Proofs.Ytjcbphhemmdnjaa
open Go Go.RowKit
set_option linter.unusedSimpArgs false
set_option linter.unusedVariables false
/-- Those of the first few. -/
def amongN (P xs : List Nat) : List Nat := P.filter fun k => decide (k ∈ xs)
theorem amongN_nil (P : List Nat) : amongN P [] = [] := by simp [amongN]
theorem amongN_all {P xs : List Nat} (h : P.Perm xs) : amongN P xs = P := by
  unfold amongN
  rw [List.filter_eq_self]
  intro a ha
  simpa using h.mem_iff.1 ha
theorem among_split {ah : Nat → Nat → Bool} {P : List Nat} (hpw : P.Pairwise (fun a b => ah a b = true)) (hnd : P.Nodup) {xs : List Nat} {x : Nat} (hx : x ∈ P) (hn : x ∉ xs) :
    ∃ A B, amongN P xs = A ++ B ∧ amongN P (xs ++ [x]) = A ++ x :: B ∧ (∀ a ∈ A, ah a x = true) ∧ ∀ b ∈ B, ah x b = true := by
  obtain ⟨L, R, rfl⟩ := List.append_of_mem hx
  rw [List.pairwise_append] at hpw
  obtain ⟨_, h2, h3⟩ := hpw
  rw [List.pairwise_cons] at h2
  rw [List.nodup_append] at hnd
  obtain ⟨_, n2, n3⟩ := hnd
  rw [List.nodup_cons] at n2
  have hL : ∀ a ∈ L, a ≠ x := fun a ha => n3 a ha x (by simp)
  have hR : ∀ a ∈ R, a ≠ x := fun a ha e => n2.1 (e ▸ ha)
  refine ⟨L.filter fun k => decide (k ∈ xs), R.filter fun k => decide (k ∈ xs), ?_, ?_, fun a ha => h3 a (List.mem_filter.1 ha).1 x (by simp), fun b hb => h2.1 b (List.mem_filter.1 hb).1⟩
  · unfold amongN
    rw [List.filter_append, List.filter_cons_of_neg (by simpa using hn)]
  · unfold amongN
    rw [List.filter_append, List.filter_cons_of_pos (by simp)]
    congr 1
    · apply List.filter_congr
      intro a ha
      simp [hL a ha]
    · congr 1
      apply List.filter_congr
      intro a ha
      simp [hR a ha]
/-- Where the loop of an insertion stands: all behind it are behind x. -/
theorem among_end {ah : Nat → Nat → Bool} (has : ∀ a b, ah a b = true → ah b a = false) {A B : List Nat} {x k : Nat} (hA : ∀ a ∈ A, ah a x = true) (hk : A.length ≤ k) (hk2 : k ≤ (A ++ B).length) (h : k = 0 ∨ 0 < k ∧ ah x ((A ++ B).getD (k - 1) 0) = false)
    (hB : ∀ b ∈ B, ah x b = true) : k = A.length := by
  rcases Nat.lt_or_ge A.length k with c | c
  · rcases h with h | ⟨h0, h⟩
    · omega
    · exfalso
      rw [List.length_append] at hk2
      have hm : (A ++ B).getD (k - 1) 0 ∈ B := by
        rw [List.getD_eq_getElem?_getD, List.getElem?_append_right (by omega), List.getElem?_eq_getElem (by omega)]
        simp
      rw [hB _ hm] at h
      cases h
  · omega
theorem among_more {ah : Nat → Nat → Bool} (has : ∀ a b, ah a b = true → ah b a = false) {A B : List Nat} {x k : Nat} (hA : ∀ a ∈ A, ah a x = true) (hk2 : k ≤ (A ++ B).length) (h0 : 0 < k) (h : ah x ((A ++ B).getD (k - 1) 0) = true) : A.length ≤ k - 1 := by
  rcases Nat.lt_or_ge (k - 1) A.length with c | c
  · exfalso
    have hm : (A ++ B).getD (k - 1) 0 ∈ A := by
      rw [List.getD_eq_getElem?_getD, List.getElem?_append_left (by omega), List.getElem?_eq_getElem (by omega)]
      simp
    rw [has _ _ (hA _ hm)] at h
    cases h
  · exact c
theorem among_len {P xs : List Nat} : (amongN P xs).length ≤ P.length := List.length_filter_le _ _
section
variable (pa : Nat → Nat) (N : Nat) (clp : Nat → Bool)
/-- The boxes above a node that clip it, from the node upwards. -/
def upsF : Nat → Nat → List Nat
  | 0, _ => []
  | f + 1, n => if n = 0 then [] else (if clp (pa n) then [pa n] else []) ++ upsF f (pa n)
def upsN (n : Nat) : List Nat := upsF pa clp n n
variable {pa N clp}
theorem upsF_fuel (hp : ∀ i, 0 < i → pa i < i) : ∀ f g n, n ≤ f → n ≤ g → upsF pa clp f n = upsF pa clp g n
  | 0, 0, n, _, _ => rfl
  | 0, g + 1, n, h, _ => by
    have : n = 0 := by omega
    subst this; simp [upsF]
  | f + 1, 0, n, _, h => by
    have : n = 0 := by omega
    subst this; simp [upsF]
  | f + 1, g + 1, n, h1, h2 => by
    unfold upsF
    by_cases c : n = 0
    · rw [if_pos c, if_pos c]
    · have := hp n (by omega)
      rw [if_neg c, if_neg c, upsF_fuel hp f g (pa n) (by omega) (by omega)]
theorem upsN_zero : upsN pa clp 0 = [] := rfl
theorem upsN_pos (hp : ∀ i, 0 < i → pa i < i) {n : Nat} (h : 0 < n) : upsN pa clp n = (if clp (pa n) then [pa n] else []) ++ upsN pa clp (pa n) := by
  have := hp n h
  obtain ⟨m, rfl⟩ : ∃ m, n = m + 1 := ⟨n - 1, by omega⟩
  unfold upsN
  conv => lhs; unfold upsF
  rw [if_neg (by omega), upsF_fuel hp m (pa (m + 1)) (pa (m + 1)) (by omega) (by omega)]
theorem upsN_len (hp : ∀ i, 0 < i → pa i < i) : ∀ n, (upsN pa clp n).length ≤ n := by
  intro n
  induction n using Nat.strongRecOn with
  | _ n ih =>
    rcases Nat.eq_zero_or_pos n with c | c
    · subst c; simp [upsN_zero]
    · have hlt := hp n c
      rw [upsN_pos hp c, List.length_append]
      have := ih _ hlt
      split <;> simp <;> omega
end
/-- Does a box clip? -/
def clip26 (l : List N26) (n : Nat) : Bool := decide ((nd26 l n).ov % 3 ≠ 0)
end Go.Proofs.Ytjcbphhemmdnjaa
