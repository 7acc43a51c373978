/- Sorted and made compact: each once. Plain. -/
import Derived.Test.YtkpamofamcndnaaRegS
import Derived.Lib.SlicesCompact
namespace Go.Proofs.Ytkpamofamcndnaa
open Go
set_option linter.unusedSimpArgs false
set_option linter.unusedVariables false

theorem up_snoc {m y : Int} : ∀ {l : List Int}, Up m l → (∀ x ∈ l, x < y) → m < y → Up m (l ++ [y])
  | [], _, _, h => ⟨h, trivial⟩
  | e :: es, h, hx, hm => ⟨h.1, up_snoc h.2 (fun x q => hx x (.tail _ q)) (hx e (.head _))⟩
theorem compact_inv {lo : Int} {zs : List Int} (hs : zs.Pairwise (· ≤ ·)) (hlo : ∀ x ∈ zs, lo < x) : ∀ k, k ≤ zs.length →
    Up lo (Lib.compactUpTo zs.toArray k) ∧ (∀ e, e ∈ Lib.compactUpTo zs.toArray k ↔ e ∈ zs.take k)
  | 0, _ => ⟨trivial, fun e => by simp [Lib.compactUpTo]⟩
  | k + 1, hk => by
    obtain ⟨h1, h2⟩ := compact_inv hs hlo k (by omega)
    have hkl : k < zs.length := by omega
    have hget : zs.toArray[k]! = zs[k] := by simp [hkl]
    have htk : zs.take (k + 1) = zs.take k ++ [zs[k]] := by rw [List.take_add_one, List.getElem?_eq_getElem hkl]; rfl
    have hle : ∀ x ∈ zs.take k, x ≤ zs[k] := fun x hx => by
      obtain ⟨i, hi, rfl⟩ := List.getElem_of_mem hx
      rw [List.getElem_take]
      have hi2 : i < k := by simp at hi; omega
      exact List.pairwise_iff_getElem.1 hs i k (by omega) hkl hi2
    rw [Lib.compactUpTo_succ, htk]
    by_cases c : Lib.keeps zs.toArray k = true
    · rw [if_pos c, hget]
      have hlt : ∀ x ∈ Lib.compactUpTo zs.toArray k, x < zs[k] := fun x hx => by
        have hx2 := (h2 x).1 hx
        have := hle x hx2
        rcases Nat.eq_zero_or_pos k with h0 | h0
        · subst h0; simp at hx2
        · have hne : zs.toArray[k]! ≠ zs.toArray[k - 1]! := by
            have := of_decide_eq_true c
            rcases this with q | q
            · omega
            · exact q
          have hg1 : zs.toArray[k - 1]! = zs[k - 1] := by simp [show k - 1 < zs.length by omega]
          rw [hget, hg1] at hne
          obtain ⟨i, hi, rfl⟩ := List.getElem_of_mem hx2
          rw [List.getElem_take] at *
          have hi2 : i < k := by simp at hi; omega
          have q1 : zs[i] ≤ zs[k - 1] := by
            by_cases e : i = k - 1
            · subst e; exact Int.le_refl _
            · exact List.pairwise_iff_getElem.1 hs i (k - 1) (by omega) (by omega) (by omega)
          have q2 : zs[k - 1] ≤ zs[k] := List.pairwise_iff_getElem.1 hs (k - 1) k (by omega) hkl (by omega)
          omega
      refine ⟨up_snoc h1 hlt (hlo _ (List.getElem_mem hkl)), fun e => ?_⟩
      rw [List.mem_append, List.mem_append, h2]
    · rw [if_neg c]
      refine ⟨by rw [List.append_nil]; exact h1, fun e => ?_⟩
      rw [List.append_nil, h2, List.mem_append, List.mem_singleton]
      have c' : k ≠ 0 ∧ zs.toArray[k]! = zs.toArray[k - 1]! := by
        have q : ¬ (k = 0 ∨ zs.toArray[k]! ≠ zs.toArray[k - 1]!) := fun q => c (decide_eq_true q)
        exact ⟨fun h => q (.inl h), Classical.byContradiction fun h => q (.inr h)⟩
      have hg1 : zs.toArray[k - 1]! = zs[k - 1] := by simp [show k - 1 < zs.length by omega]
      have hmem : zs[k] ∈ zs.take k := by
        rw [← hget, c'.2, hg1]
        have : zs[k - 1] = (zs.take k)[k - 1]'(by simp; omega) := by rw [List.getElem_take]
        rw [this]; exact List.getElem_mem _
      exact ⟨fun h => .inl h, fun h => h.elim id (fun h => by rw [h]; exact hmem)⟩
/-- Sorted by the library, made compact by it. -/
theorem compact_sort (l : List Int) : Lib.compact (l.mergeSort fun x y => decide (x ≤ y)) = sortD l := by
  obtain ⟨lo, hlo⟩ := min_below l
  have hp := List.mergeSort_perm l (fun x y => decide (x ≤ y))
  have hs : (l.mergeSort fun x y => decide (x ≤ y)).Pairwise (· ≤ ·) := by
    have := List.pairwise_mergeSort (le := fun x y : Int => decide (x ≤ y)) (fun a b c h1 h2 => by simp at *; omega) (fun a b => by simp; omega) l
    exact this.imp (fun h => by simpa using h)
  obtain ⟨h1, h2⟩ := compact_inv hs (fun x hx => hlo x (hp.mem_iff.1 hx)) _ (Nat.le_refl _)
  refine sortD_of (m := lo) h1 (fun e => ?_)
  rw [show Lib.compact (l.mergeSort fun x y => decide (x ≤ y)) = Lib.compactUpTo (l.mergeSort fun x y => decide (x ≤ y)).toArray (l.mergeSort fun x y => decide (x ≤ y)).length from rfl, h2 e, List.take_length]
  exact hp.mem_iff
end Go.Proofs.Ytkpamofamcndnaa
