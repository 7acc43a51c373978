/- XRegion's order of a region, with longer ways of waiting (depth 8). -/
import Derived.Test.YtjcbphhemmdnjaaRegion
namespace Go.Proofs.Ytjcbphhemmdnjaa
open Go Go.RowKit

section
variable {P : Program} {ops : Array Oper} {Q : Exit → Act → World → Prop} {md : Region.Mode} {S : World → Prop} {late : Nat → Bool}
theorem wpAnyD_first {i : Nat} {oi : Oper} {v : Value} (hi : ops[i]? = some oi) (hsel : ∀ (j : Nat) (o : Oper) cs b, ops[j]? = some o → o.op ≠ .select cs b)
    (hQ : ∀ c a w, Q (.panic c) (a.put oi.dst v) w → Q (.panic c) a w) (hlate : ∀ j, late j = true → j ≠ i → reach md ops 8 j i = true) :
    ∀ (fuel : Nat) (listed : Array Bool) (a : Act) (w : World),
      (∀ j oj, ops[j]? = some oj → j ≠ i → listed.getD j true = false → (∀ e ∈ oj.after, Region.binds md e = true → e.on ≠ i) → oi.apart ops oj = true) →
      Closed md ops listed → i ∈ Region.ready md ops listed → YieldsIf P ops S oi v a → S w →
      wpAnyG P md ops Q S late fuel (listed.setIfInBounds i true) (a.put oi.dst v) w → wpAnyG P md ops Q S late (fuel + 1) listed a w := by
  intro fuel
  induction fuel with
  | zero =>
    intro listed a w _ _ hr hy hS H
    refine ⟨fun h => (by rw [h] at hr; cases hr), fun j hj => ?_⟩
    by_cases hji : j = i
    · subst hji; exact hy.wpOp hi hS ⟨fun _ => hS, H⟩
    · have := ready_mono hj hji
      rw [H.1] at this
      cases this
  | succ fuel ih =>
    intro listed a w hfree hcl hr hy hS H
    refine ⟨fun h => (by rw [h] at hr; cases hr), fun j hj => ?_⟩
    by_cases hji : j = i
    · subst hji; exact hy.wpOp hi hS ⟨fun _ => hS, H⟩
    · have h1 := H.2 j (ready_mono hj hji)
      obtain ⟨hjun, oj, hoj, hall⟩ := mem_ready.1 hj
      have hnot : ∀ e ∈ oj.after, Region.binds md e = true → e.on ≠ i := fun e he hb heq => by
        have h1 := hall e he hb
        have h0 := (mem_ready.1 hr).1
        rw [heq] at h1
        rcases Nat.lt_or_ge i listed.size with h' | h'
        · simp [h'] at h0 h1; rw [h0] at h1; cases h1
        · simp [Array.getElem?_eq_none h'] at h1
      have hlj : late j = false := by
        cases e : late j with
        | false => rfl
        | true =>
          have h0 := (mem_ready.1 hr).1
          have h1 := ready_reach hcl hj (hlate j e hji)
          rw [getD_both h0] at h1
          cases h1
      have h2 := wpOp_putIf hoj (hfree j oj hoj hji hjun hnot) (fun cs b => hsel i oi cs b hi) (fun cs b => hsel j oj cs b hoj) hQ hy h1
      have hfree' : ∀ k ok, ops[k]? = some ok → k ≠ i → (listed.setIfInBounds j true).getD k true = false →
          (∀ e ∈ ok.after, Region.binds md e = true → e.on ≠ i) → oi.apart ops ok = true := fun k ok hk hki hun hno => by
        refine hfree k ok hk hki ?_ hno
        by_cases hjk : j = k
        · subst hjk; exact hjun
        · rw [getD_set_ne true hjk] at hun; exact hun
      refine wpOp_mono (fun a' w' h3 => ⟨fun _ => h3.2.1 hlj, ih (listed.setIfInBounds j true) a' w' hfree' (hcl.set hj) (ready_mono hr (Ne.symm hji)) h3.1 (h3.2.1 hlj) ?_⟩) h2
      rw [Array.setIfInBounds_comm _ _ hji]
      exact h3.2.2

def ordD (md : Region.Mode) (ops : Array Oper) (late : Nat → Bool) : List (Nat × Nat) → Array Bool → Bool
  | [], listed => (Region.ready md ops listed).isEmpty
  | (i, 0) :: rest, listed => (Region.ready md ops listed).contains i && Region.free md ops listed i && (List.range ops.size).all (fun j => !late j || j == i || reach md ops 8 j i) && !late i && ordD md ops late rest (listed.setIfInBounds i true)
  | (i, 1) :: rest, listed => (Region.ready md ops listed == [i]) && !late i && ordD md ops late rest (listed.setIfInBounds i true)
  | (i, _ + 2) :: rest, listed => (Region.ready md ops listed == [i]) && late i && !readsLeft rest && ordD md ops late rest (listed.setIfInBounds i true)

theorem wpAnyG_of_D (hsel : Region.noSelect ops = true) (hQ : ∀ c a d v w, Q (.panic c) (a.put d v) w → Q (.panic c) a w) (hin : ∀ j, late j = true → j < ops.size) :
    ∀ (ord : List (Nat × Nat)) (listed : Array Bool) (a : Act) (w : World), Closed md ops listed → (readsLeft ord = true → S w) → ordD md ops late ord listed = true → wpG P ops Q S ord a w → wpAnyG P md ops Q S late ord.length listed a w
  | [], listed, a, w, _, _, hB, h => ⟨by simpa [ordD] using hB, h⟩
  | (i, 0) :: rest, listed, a, w, hcl, hS, hB, h => by
    obtain ⟨oi, v, hi, hy, hr⟩ := h
    simp only [ordD, Bool.and_eq_true] at hB
    obtain ⟨⟨⟨⟨h1, h2⟩, h3⟩, h4⟩, h5⟩ := hB
    have hSw : S w := hS (by simp [readsLeft])
    refine wpAnyD_first hi (Region.noSelect_spec hsel) (fun c a w => hQ c a _ _ w) (fun j hj hne => ?_) rest.length listed a w (Region.free_spec hi h2) hcl (by simpa using h1) hy hSw
      (wpAnyG_of_D hsel hQ hin rest _ _ _ (hcl.set (by simpa using h1)) (fun _ => hSw) h5 hr)
    have := List.all_eq_true.1 h3 j (List.mem_range.2 (hin j hj))
    simpa [hj, hne] using this
  | (i, 1) :: rest, listed, a, w, hcl, _, hB, h => by
    simp only [ordD, Bool.and_eq_true, beq_iff_eq] at hB
    obtain ⟨⟨h1, h2⟩, h3⟩ := hB
    refine ⟨fun h0 => (by rw [h1] at h0; cases h0), fun j hj => ?_⟩
    rw [h1] at hj
    obtain rfl : j = i := by simpa using hj
    exact wpOp_mono (fun a' w' h' => ⟨fun _ => h'.1, wpAnyG_of_D hsel hQ hin rest _ a' w' (hcl.set (by rw [h1]; simp)) (fun _ => h'.1) h3 h'.2⟩) h
  | (i, _ + 2) :: rest, listed, a, w, hcl, _, hB, h => by
    simp only [ordD, Bool.and_eq_true, beq_iff_eq, Bool.not_eq_true'] at hB
    obtain ⟨⟨⟨h1, h2⟩, h4⟩, h3⟩ := hB
    refine ⟨fun h0 => (by rw [h1] at h0; cases h0), fun j hj => ?_⟩
    rw [h1] at hj
    obtain rfl : j = i := by simpa using hj
    exact wpOp_mono (fun a' w' h' => ⟨fun hl => (by rw [h2] at hl; cases hl), wpAnyG_of_D hsel hQ hin rest _ a' w' (hcl.set (by rw [h1]; simp)) (fun hl => (by rw [h4] at hl; cases hl)) h3 h'⟩) h

def regD (ops : Array Oper) (ord : List (Nat × Nat)) : Bool :=
  Region.noSelect ops && (ord.length == ops.size) && ord.all (fun p => decide (p.1 < ops.size)) && ordD .any ops (lateOf ord) ord (Array.replicate ops.size false)

/-- THE BEGINNING, where an order is bound over longer ways. -/
theorem region_ordD {id : Nat} {a : Act} {w : World} {l : List Oper} (ord : List (Nat × Nat)) (hm : P.follows .mixedOrders = true) (hB : regD l.toArray ord = true)
    (hQ : ∀ c a d v w, Q (.panic c) (a.put d v) w → Q (.panic c) a w) (h : Below w.drew.heap.size w.drew w.drew → wpG P l.toArray Q (Below w.drew.heap.size w.drew) ord a w.drew) : (Code.region id l.toArray true).wp P Q a w := by
  have h := h (Below.refl _ _)
  simp only [regD, Bool.and_eq_true, beq_iff_eq] at hB
  obtain ⟨⟨⟨h1, h2⟩, h3⟩, h4⟩ := hB
  refine wp_region_any hm ?_
  rw [← h2]
  refine wpAny_of_G _ _ _ _ (wpAnyG_of_D (S := Below w.drew.heap.size w.drew) (late := lateOf ord) h1 hQ (fun j hj => ?_) ord _ a _ (fun j oj _ hl => (by rw [getD_replicate_false] at hl; cases hl)) (fun _ => Below.refl _ _) (by rw [h2]; exact h4) h)
  obtain ⟨p, hp, hpj⟩ := List.any_eq_true.1 hj
  have := List.all_eq_true.1 h3 p hp
  simp only [Bool.and_eq_true, beq_iff_eq, decide_eq_true_eq] at hpj this
  omega

end
end Go.Proofs.Ytjcbphhemmdnjaa
