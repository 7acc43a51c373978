/- Sorted by insertion, plain; two sorted lists of the same items are the same. -/
import Derived.Test.YtgelkmpmificpaaSortE
namespace Go.Proofs.Ytgelkmpmificpaa
set_option linter.unusedSimpArgs false
set_option linter.unusedVariables false

theorem getD_set_self {ys : List Nat} {j v : Nat} (h : j < ys.length) : (ys.set j v).getD j 0 = v := by
  simp only [List.getD_eq_getElem?_getD, List.getElem?_set_self h, Option.getD_some]
theorem getD_set_other {ys : List Nat} {j v p : Nat} (h : p ≠ j) : (ys.set j v).getD p 0 = ys.getD p 0 := by
  simp only [List.getD_eq_getElem?_getD, List.getElem?_set_ne (Ne.symm h)]
/-- All sorted but the item at j, which is ahead of all right of it. -/
def SinkP (os : List Int) (ys : List Nat) (a j i : Nat) : Prop :=
  (∀ p q, a ≤ p → p < q → q ≤ i → p ≠ j → q ≠ j → LTo os (ys.getD p 0) (ys.getD q 0)) ∧ (∀ q, j < q → q ≤ i → LTo os (ys.getD j 0) (ys.getD q 0)) ∧ (∀ p, a ≤ p → p < j → ys.getD p 0 < ys.getD j 0)
theorem swap2_at {ys : List Nat} {j : Nat} (h : j + 1 < ys.length) (p : Nat) : ((ys.set (j + 1) (ys.getD j 0)).set j (ys.getD (j + 1) 0)).getD p 0 = if p = j then ys.getD (j + 1) 0 else if p = j + 1 then ys.getD j 0 else ys.getD p 0 := by
  by_cases h1 : p = j
  · subst h1; rw [if_pos rfl, getD_set_self (by simp; omega)]
  · rw [if_neg h1, getD_set_other h1]
    by_cases h2 : p = j + 1
    · subst h2; rw [if_pos rfl, getD_set_self h]
    · rw [if_neg h2, getD_set_other h2]
theorem swap2_same {ys : List Nat} {j a b : Nat} (h : j + 1 < ys.length) (ha : a ≤ j) (hb : j + 1 < b) : SameT ys ((ys.set (j + 1) (ys.getD j 0)).set j (ys.getD (j + 1) 0)) a b := by
  refine ⟨fun p hp => ?_, fun p p1 p2 => ?_, fun q q1 q2 => ?_⟩
  · rw [swap2_at h, if_neg (by omega), if_neg (by omega)]
  · by_cases h1 : p = j
    · exact ⟨j + 1, by omega, hb, by rw [swap2_at h, if_pos h1]⟩
    · by_cases h2 : p = j + 1
      · exact ⟨j, ha, by omega, by rw [swap2_at h, if_neg h1, if_pos h2]⟩
      · exact ⟨p, p1, p2, by rw [swap2_at h, if_neg h1, if_neg h2]⟩
  · by_cases h1 : q = j
    · exact ⟨j + 1, by omega, hb, by rw [swap2_at h, if_neg (by omega), if_pos rfl, h1]⟩
    · by_cases h2 : q = j + 1
      · exact ⟨j, ha, by omega, by rw [swap2_at h, if_pos rfl, h2]⟩
      · exact ⟨q, q1, q2, by rw [swap2_at h, if_neg h1, if_neg h2]⟩
theorem sink_up (os : List Int) (a i : Nat) : ∀ (j : Nat) (ys : List Nat), j ≤ i → a ≤ j → i < ys.length → SinkP os ys a j i → SameT ys (sinkF os a j ys) a (i + 1) ∧ UpT os (sinkF os a j ys) a (i + 1)
  | 0, ys, hj, ha, hi, h => by
    refine ⟨SameT.refl _ _ _, fun p q p1 pq q1 => ?_⟩
    show LTo os (ys.getD p 0) (ys.getD q 0)
    by_cases c : p = 0
    · subst c; exact h.2.1 q pq (by omega)
    · exact h.1 p q p1 pq (by omega) c (by omega)
  | j + 1, ys, hj, ha, hi, h => by
    by_cases c : a < j + 1 ∧ os.getD (ys.getD (j + 1) 0) 0 < os.getD (ys.getD j 0) 0
    · rw [sinkF_swap os ys c.1 c.2]
      have hat := swap2_at (ys := ys) (j := j) (by omega)
      have hsm := swap2_same (ys := ys) (j := j) (a := a) (b := i + 1) (by omega) (by omega) (by omega)
      have hln : i < ((ys.set (j + 1) (ys.getD j 0)).set j (ys.getD (j + 1) 0)).length := by simp; omega
      have hP : SinkP os ((ys.set (j + 1) (ys.getD j 0)).set j (ys.getD (j + 1) 0)) a j i := by
        refine ⟨fun p q p1 pq q1 pj qj => ?_, fun q q1 q2 => ?_, fun p p1 p2 => ?_⟩
        · rw [hat, hat, if_neg pj, if_neg qj]
          by_cases c1 : p = j + 1
          · subst c1; rw [if_pos rfl, if_neg (by omega)]
            exact h.1 j q (by omega) (by omega) q1 (by omega) (by omega)
          · rw [if_neg c1]
            by_cases c2 : q = j + 1
            · subst c2; rw [if_pos rfl]; exact h.1 p j p1 (by omega) (by omega) c1 (by omega)
            · rw [if_neg c2]; exact h.1 p q p1 pq q1 c1 c2
        · rw [hat, hat, if_pos rfl, if_neg (by omega)]
          by_cases c2 : q = j + 1
          · subst c2; rw [if_pos rfl]; exact .of_lt c.2
          · rw [if_neg c2]; exact h.2.1 q (by omega) q2
        · rw [hat, hat, if_pos rfl, if_neg (by omega), if_neg (by omega)]
          exact h.2.2 p p1 (by omega)
      obtain ⟨k1, k2⟩ := sink_up os a i j _ (by omega) (by omega) hln hP
      exact ⟨hsm.trans k1, k2⟩
    · have e : sinkF os a (j + 1) ys = ys := by rw [sinkF, if_neg c]
      rw [e]
      refine ⟨SameT.refl _ _ _, fun p q p1 pq q1 => ?_⟩
      by_cases c1 : p = j + 1
      · subst c1; exact h.2.1 q pq (by omega)
      · by_cases c2 : q = j + 1
        · subst c2
          have g : LTo os (ys.getD j 0) (ys.getD (j + 1) 0) := .of_le (fun hq => c ⟨by omega, hq⟩) (h.2.2 j (by omega) (by omega))
          by_cases c3 : p = j
          · rw [c3]; exact g
          · exact (h.1 p j p1 (by omega) (by omega) c1 (by omega)).trans g
        · exact h.1 p q p1 pq (by omega) c1 c2
theorem sinks_up (os : List Int) (a hi : Nat) : ∀ (k i : Nat) (ys : List Nat), i + k = hi → a < i → hi ≤ ys.length → UpT os ys a i → (∀ p q, a ≤ p → p < q → i ≤ q → q < hi → ys.getD p 0 < ys.getD q 0) → SameT ys (sinksF os a i k ys) a hi ∧ UpT os (sinksF os a i k ys) a hi
  | 0, i, ys, hk, ha, hl, hu, hp => by
    obtain rfl : i = hi := by omega
    exact ⟨SameT.refl _ _ _, hu⟩
  | k + 1, i, ys, hk, ha, hl, hu, hp => by
    obtain ⟨s1, u1⟩ := sink_up os a i i ys (Nat.le_refl _) (by omega) (by omega) ⟨fun p q p1 pq q1 pi qi => hu p q p1 pq (by omega), fun q q1 q2 => by omega, fun p p1 p2 => hp p i p1 p2 (Nat.le_refl _) (by omega)⟩
    obtain ⟨s2, u2⟩ := sinks_up os a hi k (i + 1) (sinkF os a i ys) (by omega) (by omega) (by rw [sinkF_length]; exact hl) u1 (fun p q p1 pq q1 q2 => by
      rw [s1.1 q (by omega)]
      by_cases c : p < i + 1
      · obtain ⟨r, r1, r2, e⟩ := s1.2.1 p p1 c
        rw [e]; exact hp r q r1 (by omega) (by omega) q2
      · rw [s1.1 p (by omega)]; exact hp p q p1 pq (by omega) q2)
    exact ⟨(s1.wide (Nat.le_refl _) (by omega)).trans s2, u2⟩
theorem sinksF_length (os : List Int) (a : Nat) : ∀ (k i : Nat) (ys : List Nat), (sinksF os a i k ys).length = ys.length
  | 0, _, _ => rfl
  | k + 1, i, ys => by rw [sinksF, sinksF_length os a k, sinkF_length]
/-- n places hold at least n items. -/
theorem hold_all : ∀ (n : Nat) (zs : List Nat), (∀ i, i < n → i ∈ zs) → n ≤ zs.length
  | 0, _, _ => Nat.zero_le _
  | n + 1, zs, h => by
    have hm := h n (by omega)
    have ih := hold_all n (zs.erase n) (fun i hi => (List.mem_erase_of_ne (by omega)).2 (h i (by omega)))
    rw [List.length_erase_of_mem hm] at ih
    have : 0 < zs.length := List.length_pos_of_mem hm
    omega
/-- Different numbers below n are at most n. -/
theorem few_all : ∀ (n : Nat) (zs : List Nat), zs.Nodup → (∀ z ∈ zs, z < n) → zs.length ≤ n
  | 0, [], _, _ => Nat.le_refl _
  | 0, z :: zs, _, h => absurd (h z (by simp)) (by omega)
  | n + 1, zs, hd, h => by
    by_cases c : n ∈ zs
    · have ih := few_all n (zs.erase n) (hd.erase n) (fun z hz => by
        have g := (List.Nodup.mem_erase_iff hd).1 hz
        have := h z g.2
        have := g.1
        omega)
      rw [List.length_erase_of_mem c] at ih
      omega
    · have ih := few_all n zs hd (fun z hz => by
        have := h z hz
        have : z ≠ n := fun e => c (e ▸ hz)
        omega)
      omega
theorem one_free {n : Nat} {zs : List Nat} (h : zs.length < n) : ∃ i, i < n ∧ i ∉ zs := by
  apply Classical.byContradiction
  intro k
  have := hold_all n zs (fun i hi => Classical.byContradiction fun hq => k ⟨i, hi, hq⟩)
  omega
theorem LTo.irrefl {os : List Int} {x : Nat} (h : LTo os x x) : False := by unfold LTo at h; omega
theorem LTo.asymm {os : List Int} {x y : Nat} (h : LTo os x y) (k : LTo os y x) : False := (h.trans k).irrefl
/-- Two sorted rows of the same items are the same. -/
theorem up_same {os : List Int} {xs ys : List Nat} {n : Nat} (h1 : UpT os xs 0 n) (h2 : UpT os ys 0 n) (hx : ∀ p, p < n → ∃ q, q < n ∧ xs.getD p 0 = ys.getD q 0) (hy : ∀ p, p < n → ∃ q, q < n ∧ ys.getD p 0 = xs.getD q 0) : ∀ m p, p < m → p < n → xs.getD p 0 = ys.getD p 0
  | 0, p, h, _ => by omega
  | m + 1, p, hm, hp => by
    have ih := up_same h1 h2 hx hy m
    obtain ⟨q, q1, e⟩ := hx p hp
    obtain ⟨r, r1, f⟩ := hy p hp
    have hq : p ≤ q := by
      apply Classical.byContradiction; intro c
      have e2 := ih q (by omega) q1
      have := h1 q p (Nat.zero_le _) (by omega) hp
      rw [e2, ← e] at this
      exact this.irrefl
    have hr : p ≤ r := by
      apply Classical.byContradiction; intro c
      have e2 := ih r (by omega) r1
      have := h2 r p (Nat.zero_le _) (by omega) hp
      rw [← e2, ← f] at this
      exact this.irrefl
    by_cases c : q = p
    · rw [e, c]
    · have k := h2 p q (Nat.zero_le _) (by omega) q1
      rw [← e, f] at k
      by_cases c2 : r = p
      · rw [f, c2]
      · exact (k.asymm (h1 p r (Nat.zero_le _) (by omega) r1)).elim
/-- A sorted row of n items below n holds each of them. -/
theorem up_all {os : List Int} {zs : List Nat} {n : Nat} (h : UpT os zs 0 n) (hl : zs.length = n) (hin : ∀ z ∈ zs, z < n) {i : Nat} (hi : i < n) : ∃ q, q < n ∧ zs.getD q 0 = i := by
  apply Classical.byContradiction
  intro k
  have hn : i ∉ zs := fun hm => by
    obtain ⟨q, hq, e⟩ := List.getElem_of_mem hm
    exact k ⟨q, by omega, by simp only [List.getD_eq_getElem?_getD, List.getElem?_eq_getElem hq, Option.getD_some, e]⟩
  have hnd : zs.Nodup := by
    rw [List.nodup_iff_pairwise_ne, List.pairwise_iff_getElem]
    intro p q hp hq hpq e
    have := h p q (Nat.zero_le _) hpq (by omega)
    simp only [List.getD_eq_getElem?_getD, List.getElem?_eq_getElem hp, List.getElem?_eq_getElem hq, Option.getD_some, e] at this
    exact this.irrefl
  have hlen := few_all n (i :: zs) (List.nodup_cons.2 ⟨hn, hnd⟩) (fun x hx => by
    rcases List.mem_cons.1 hx with rfl | hx
    · exact hi
    · exact hin x hx)
  simp at hlen; omega
end Go.Proofs.Ytgelkmpmificpaa
