/- law26 (stack), plain: what the second loop of paint gathers. -/
import Derived.Test.YtjcbphhemmdnjaaStkP
import Derived.Test.YtjcbphhemmdnjaaStkSTU
namespace Go.Proofs.Ytjcbphhemmdnjaa
set_option linter.unusedSimpArgs false
set_option linter.unusedVariables false
def flagB (z : Nat → Int) (s : List Nat) (i : Nat) : Bool := (s.take i).any fun k => !decide (z k < 0)
def outB (n : Nat) (ps s : List Nat) (z : Nat → Int) (P : Nat → List Nat) (i : Nat) : List Nat := n :: (((s.take i).filter fun k => decide (z k < 0)).flatMap P ++ ((if flagB z s i then ps else []) ++ ((s.take i).filter fun k => !decide (z k < 0)).flatMap P))
theorem filter_take' {p : Nat → Bool} {ks : List Nat} {i : Nat} (h : i < ks.length) : (ks.take (i + 1)).filter p = (ks.take i).filter p ++ if p (ks.getD i 0) then [ks.getD i 0] else [] := by
  rw [take_at h, List.filter_append]
  congr 1
  by_cases c : p (ks.getD i 0) = true
  · rw [if_pos c, List.filter_cons_of_pos c]; rfl
  · rw [if_neg c, List.filter_cons_of_neg c]; rfl
section
variable {z : Nat → Int} {at_ : Nat → Nat} {s ps : List Nat} {n i : Nat} {P : Nat → List Nat}
theorem flagB_no (h : flagB z s i = false) : (s.take i).filter (fun k => !decide (z k < 0)) = [] := by
  rw [List.filter_eq_nil_iff]
  intro k hk
  have := List.any_eq_false.1 h k hk
  simpa using this
theorem flagB_next (h : i < s.length) : flagB z s (i + 1) = (flagB z s i || !decide (z (s.getD i 0) < 0)) := by
  unfold flagB
  rw [take_at h, List.any_append]
  simp
theorem sorted_le (hs : s.Pairwise (fun a b => z a < z b ∨ z a = z b ∧ at_ a < at_ b)) (h : i < s.length) {k : Nat} (hk : k ∈ s.take i) : z k ≤ z (s.getD i 0) := by
  obtain ⟨j, hj, e⟩ := List.getElem_of_mem hk
  simp at hj
  have e2 : s[j]'(by omega) = k := by rw [← e]; simp
  have := (List.pairwise_iff_getElem.1 hs) j i (by omega) h (by omega)
  rw [e2] at this
  have e3 : s.getD i 0 = s[i] := by simp [List.getD_eq_getElem?_getD, h]
  rw [e3]; omega
theorem outB_neg (hs : s.Pairwise (fun a b => z a < z b ∨ z a = z b ∧ at_ a < at_ b)) (h : i < s.length) (hz : z (s.getD i 0) < 0) : flagB z s i = false ∧ flagB z s (i + 1) = false ∧ outB n ps s z P (i + 1) = outB n ps s z P i ++ P (s.getD i 0) := by
  have hf : flagB z s i = false := by
    unfold flagB
    rw [List.any_eq_false]
    intro k hk
    have := sorted_le hs h hk
    simp; omega
  have hf2 : flagB z s (i + 1) = false := by rw [flagB_next h, hf]; simpa using hz
  refine ⟨hf, hf2, ?_⟩
  unfold outB
  rw [hf, hf2, flagB_no hf, flagB_no hf2, filter_take' h, if_pos (by simpa using hz), List.flatMap_append]
  simp
theorem outB_first (h : i < s.length) (hz : ¬ z (s.getD i 0) < 0) (hf : flagB z s i = false) : flagB z s (i + 1) = true ∧ outB n ps s z P (i + 1) = (outB n ps s z P i ++ ps) ++ P (s.getD i 0) ∧ (0 < i → z (s.getD (i - 1) 0) < 0) := by
  have hf2 : flagB z s (i + 1) = true := by rw [flagB_next h, hf]; simpa using hz
  refine ⟨hf2, ?_, fun h0 => ?_⟩
  · unfold outB
    rw [hf, hf2, filter_take' h, filter_take' h, flagB_no hf, if_neg (show ¬ (decide (z (s.getD i 0) < 0)) = true by simpa using hz), if_pos (show (!decide (z (s.getD i 0) < 0)) = true by simpa using hz)]
    simp
  · have hm : s.getD (i - 1) 0 ∈ s.take i := by
      rw [List.mem_iff_getElem]
      exact ⟨i - 1, by simp; omega, by simp [List.getD_eq_getElem?_getD, show i - 1 < s.length by omega]⟩
    have := List.any_eq_false.1 hf _ hm
    simpa using this
theorem outB_more (hs : s.Pairwise (fun a b => z a < z b ∨ z a = z b ∧ at_ a < at_ b)) (h : i < s.length) (hf : flagB z s i = true) : ¬ z (s.getD i 0) < 0 ∧ flagB z s (i + 1) = true ∧ outB n ps s z P (i + 1) = outB n ps s z P i ++ P (s.getD i 0) ∧ 0 < i ∧ ¬ z (s.getD (i - 1) 0) < 0 := by
  obtain ⟨k, hk, hk2⟩ := List.any_eq_true.1 hf
  have hk3 : ¬ z k < 0 := by simpa using hk2
  have hle := sorted_le hs h hk
  have hz : ¬ z (s.getD i 0) < 0 := by omega
  have hf2 : flagB z s (i + 1) = true := by rw [flagB_next h, hf]; rfl
  obtain ⟨j, hj, e⟩ := List.getElem_of_mem hk
  simp at hj
  refine ⟨hz, hf2, ?_, by omega, ?_⟩
  · unfold outB
    rw [hf, hf2, filter_take' h, filter_take' h, if_neg (show ¬ (decide (z (s.getD i 0) < 0)) = true by simpa using hz), if_pos (show (!decide (z (s.getD i 0) < 0)) = true by simpa using hz), List.flatMap_append]
    simp
  · have e2 : s[j]'(by omega) = k := by rw [← e]; simp
    have e3 : s.getD (i - 1) 0 = s[i - 1]'(by omega) := by simp [List.getD_eq_getElem?_getD, show i - 1 < s.length by omega]
    rcases Nat.lt_or_ge j (i - 1) with c | c
    · have := (List.pairwise_iff_getElem.1 hs) j (i - 1) (by omega) (by omega) c
      rw [e2] at this
      rw [e3]; omega
    · have : j = i - 1 := by omega
      subst this
      rw [e3, e2]; exact hk3
theorem outB_end {g : Nat → List Nat} (hg : ∀ k, k ∈ s → g k = P k) (hp : ∀ k, k ∈ ps → g k = [k]) : outB n ps s z P s.length ++ (if flagB z s s.length then [] else ps) = n :: (s.filter (fun k => decide (z k < 0)) ++ (ps ++ s.filter (fun k => !decide (z k < 0)))).flatMap g := by
  have e1 : ps.flatMap g = ps := by
    rw [fm_congr hp]; simp
  have e2 : ∀ q : Nat → Bool, (s.filter q).flatMap g = (s.filter q).flatMap P := fun q => fm_congr fun k hk => hg k (List.mem_filter.1 hk).1
  rw [List.flatMap_append, List.flatMap_append, e1, e2, e2]
  unfold outB
  rw [List.take_length]
  rcases hf : flagB z s s.length with _ | _
  · have := flagB_no hf
    rw [List.take_length] at this
    rw [this]; simp
  · simp
end
end Go.Proofs.Ytjcbphhemmdnjaa
