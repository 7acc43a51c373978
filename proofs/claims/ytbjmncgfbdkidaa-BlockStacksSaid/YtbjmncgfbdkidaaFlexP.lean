/- FlexlineGreedy, plain: the lines of small sizes. -/
import Derived.Test.YtbjmncgfbdkidaaFlex
namespace Go.Proofs.Ytbjmncgfbdkidaa
set_option linter.unusedSimpArgs false
set_option linter.unusedVariables false

/-- The size of d items from f on, with the gaps between them. -/
def smF (xs : List Int) (gap : Int) (f : Nat) : Nat → Int
  | 0 => 0
  | d + 1 => smF xs gap f d + xs.getD (f + d) 0 + (if 0 < d then gap else 0)
/-- A line that the law takes. -/
def LineOk (xs : List Int) (av gap : Int) (p : Nat × Nat) : Prop :=
  (p.1 + 1 < p.2 → smF xs gap p.1 (p.2 - p.1) ≤ av) ∧ (p.2 < xs.length → av < smF xs gap p.1 (p.2 - p.1) + gap + xs.getD p.2 0)
def ChainL (xs : List Int) (av gap : Int) : Nat → List (Nat × Nat) → Prop
  | at_, [] => at_ = xs.length
  | at_, p :: r => p.1 = at_ ∧ p.1 < p.2 ∧ p.2 ≤ xs.length ∧ LineOk xs av gap p ∧ ChainL xs av gap p.2 r
theorem smF_in {xs : List Int} {gap : Int} (hx : ∀ x ∈ xs, 0 ≤ x ∧ x ≤ 65535) (hg : 0 ≤ gap ∧ gap ≤ 65535) (f : Nat) : ∀ d, 0 ≤ smF xs gap f d ∧ smF xs gap f d ≤ 131070 * (d : Int)
  | 0 => by simp [smF]
  | d + 1 => by
    have ih := smF_in hx hg f d
    have h : 0 ≤ xs.getD (f + d) 0 ∧ xs.getD (f + d) 0 ≤ 65535 := by
      rcases Nat.lt_or_ge (f + d) xs.length with h | h
      · have := hx _ (List.getElem_mem h)
        simpa [List.getD_eq_getElem?_getD, h] using this
      · simp [List.getD_eq_getElem?_getD, List.getElem?_eq_none h]
    simp only [smF]
    split <;> omega
theorem addF_three {s g n : Int} (h1 : 0 ≤ s) (h2 : s ≤ 1000000000) (h3 : 0 ≤ g ∧ g ≤ 65535) (h4 : 0 ≤ n ∧ n ≤ 65535) : addF 0 [s, g, n] = some (s + g + n) := by
  have c1 : clip s = s := by unfold clip; omega
  have c2 : clip g = g := by unfold clip; omega
  have c3 : clip n = n := by unfold clip; omega
  simp only [addF, c1, c2, c3]
  rw [if_pos (by omega), if_pos (by omega), if_pos (by omega)]
  congr 1; omega
theorem lines_props {xs : List Int} {av gap : Int} (hx : ∀ x ∈ xs, 0 ≤ x ∧ x ≤ 65535) (hg : 0 ≤ gap ∧ gap ≤ 65535) (hn : xs.length ≤ 60) :
    ∀ (rest : List Int) (fr : Nat) (s : Int) (i : Nat), xs.drop i = rest → i ≤ xs.length → fr ≤ i → (fr < i → s = smF xs gap fr (i - fr) ∧ (fr + 1 < i → s ≤ av)) → (fr = i → i < xs.length) →
      ∃ L, linesF av gap fr s i rest = some L ∧ ChainL xs av gap fr L ∧ 0 < L.length ∧ L.length ≤ xs.length - fr
  | [], fr, s, i, hd, hi, hf, hs, he => by
    have hil : i = xs.length := by
      rcases Nat.lt_or_ge i xs.length with h | h
      · have := List.drop_eq_getElem_cons h; rw [hd] at this; cases this
      · omega
    have hlt : fr < i := by omega
    obtain ⟨h1, h2⟩ := hs hlt
    refine ⟨[(fr, i)], rfl, ⟨rfl, hlt, hi, ⟨fun h => ?_, fun h => by simp only at h; omega⟩, hil⟩, by simp, by simp; omega⟩
    simp only at h ⊢
    rw [← h1]; exact h2 h
  | n :: r, fr, s, i, hd, hi, hf, hs, he => by
    have hil : i < xs.length := by
      rcases Nat.lt_or_ge i xs.length with h | h
      · exact h
      · rw [List.drop_eq_nil_of_le h] at hd; cases hd
    have hd2 := List.drop_eq_getElem_cons hil
    rw [hd] at hd2
    obtain ⟨hn1, hr⟩ := List.cons.inj hd2
    have hnx : xs.getD i 0 = n := by rw [hn1]; simp [List.getD_eq_getElem?_getD, hil]
    have hnb : 0 ≤ n ∧ n ≤ 65535 := by rw [hn1]; exact hx _ (List.getElem_mem hil)
    have hof : ofF n = some n := ofF_small (by omega) (by omega)
    by_cases hfi : i = fr
    · subst hfi
      obtain ⟨L, h1, h2, h3, h4⟩ := lines_props hx hg hn r i n (i + 1) hr.symm (by omega) (by omega) (fun _ => ⟨by rw [show i + 1 - i = 0 + 1 by omega]; simp [smF, ← hnx], fun h => by omega⟩) (fun h => by omega)
      refine ⟨L, ?_, h2, h3, by omega⟩
      rw [linesF, if_pos rfl, hof]; exact h1
    · have hlt : fr < i := by omega
      obtain ⟨h1, h2⟩ := hs hlt
      have hsb := smF_in hx hg fr (i - fr)
      rw [← h1] at hsb
      have hadd : addF 0 [s, gap, n] = some (s + gap + n) := addF_three hsb.1 (by omega) hg hnb
      have hstep : smF xs gap fr (i + 1 - fr) = s + gap + n := by
        rw [show i + 1 - fr = (i - fr) + 1 by omega, smF, if_pos (by omega), show fr + (i - fr) = i by omega, hnx, ← h1]; omega
      by_cases hc : av < s + gap + n
      · obtain ⟨L, g1, g2, g3, g4⟩ := lines_props hx hg hn r i n (i + 1) hr.symm (by omega) (by omega) (fun _ => ⟨by rw [show i + 1 - i = 0 + 1 by omega]; simp [smF, ← hnx], fun h => by omega⟩) (fun h => by omega)
        refine ⟨(fr, i) :: L, ?_, ⟨rfl, hlt, hi, ⟨fun h => ?_, fun h => ?_⟩, g2⟩, by simp, by simp; omega⟩
        · rw [linesF, if_neg hfi, hadd]; dsimp only; rw [if_pos hc, hof]; dsimp only; rw [g1]; rfl
        · simp only at h ⊢; rw [← h1]; exact h2 h
        · simp only; rw [← h1, hnx]; exact hc
      · obtain ⟨L, g1, g2, g3, g4⟩ := lines_props hx hg hn r fr (s + gap + n) (i + 1) hr.symm (by omega) (by omega) (fun _ => ⟨hstep.symm, fun _ => Int.not_lt.1 hc⟩) (fun h => by omega)
        refine ⟨L, ?_, g2, g3, g4⟩
        rw [linesF, if_neg hfi, hadd]; dsimp only; rw [if_neg hc]; exact g1
theorem lines_greedy {xs : List Int} {av gap : Int} (hx : ∀ x ∈ xs, 0 ≤ x ∧ x ≤ 65535) (hg : 0 ≤ gap ∧ gap ≤ 65535) (hn : xs.length ≤ 60) (h0 : 0 < xs.length) :
    ∃ L, linesF av gap 0 0 0 xs = some L ∧ ChainL xs av gap 0 L ∧ 0 < L.length ∧ L.length ≤ 60 := by
  obtain ⟨L, h1, h2, h3, h4⟩ := lines_props (av := av) hx hg hn xs 0 0 0 rfl (by omega) (by omega) (fun h => by omega) (fun _ => h0)
  exact ⟨L, h1, h2, h3, by omega⟩
end Go.Proofs.Ytbjmncgfbdkidaa
