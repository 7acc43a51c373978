/- A region that draws its order, where a store may come ahead of readers of other cells: what holds of the world is told in phases; a reader of phase p reads the same in every world of phase p, and what ends phase p waits for it. -/
import Derived.Test.YtjcbphhemmdnjaaBut
namespace Go.Proofs.Ytjcbphhemmdnjaa
open Go Go.RowKit

section
variable {P : Program} {ops : Array Oper} {Q : Exit → Act → World → Prop} {md : Region.Mode} {S : Nat → World → Prop} {late : Nat → Nat → Bool}

def wpAnyP (P : Program) (md : Region.Mode) (ops : Array Oper) (Q : Exit → Act → World → Prop) (S : Nat → World → Prop) (late : Nat → Nat → Bool) : Nat → Array Bool → Act → World → Prop
  | 0, listed, a, w => Region.ready md ops listed = [] ∧ Q .normal a w
  | fuel + 1, listed, a, w =>
    (Region.ready md ops listed = [] → Q .normal a w) ∧
    ∀ i ∈ Region.ready md ops listed, wpOp P ops Q i (fun a' w' => (∀ q, late q i = false → S q w → S q w') ∧ wpAnyP P md ops Q S late fuel (listed.setIfInBounds i true) a' w') a w

theorem wpAny_of_P : ∀ (fuel : Nat) (listed : Array Bool) (a : Act) (w : World), wpAnyP P md ops Q S late fuel listed a w → wpAny P md ops Q fuel listed a w
  | 0, _, _, _, h => h
  | fuel + 1, _, _, _, h => ⟨h.1, fun i hi => wpOp_mono (fun a' w' h' => wpAny_of_P fuel _ a' w' h'.2) (h.2 i hi)⟩

theorem wpAnyP_first {i p : Nat} {oi : Oper} {v : Value} (hi : ops[i]? = some oi) (hsel : ∀ (j : Nat) (o : Oper) cs b, ops[j]? = some o → o.op ≠ .select cs b)
    (hQ : ∀ c a w, Q (.panic c) (a.put oi.dst v) w → Q (.panic c) a w) (hlate : ∀ j, late p j = true → j ≠ i → reach md ops 4 j i = true) :
    ∀ (fuel : Nat) (listed : Array Bool) (a : Act) (w : World),
      (∀ j oj, ops[j]? = some oj → j ≠ i → listed.getD j true = false → (∀ e ∈ oj.after, Region.binds md e = true → e.on ≠ i) → oi.apart ops oj = true) →
      Closed md ops listed → i ∈ Region.ready md ops listed → YieldsIf P ops (S p) oi v a → S p w →
      wpAnyP P md ops Q S late fuel (listed.setIfInBounds i true) (a.put oi.dst v) w → wpAnyP P md ops Q S late (fuel + 1) listed a w := by
  intro fuel
  induction fuel with
  | zero =>
    intro listed a w _ _ hr hy hS H
    refine ⟨fun h => (by rw [h] at hr; cases hr), fun j hj => ?_⟩
    by_cases hji : j = i
    · subst hji; exact hy.wpOp hi hS ⟨fun _ _ h => h, H⟩
    · have := ready_mono hj hji
      rw [H.1] at this
      cases this
  | succ fuel ih =>
    intro listed a w hfree hcl hr hy hS H
    refine ⟨fun h => (by rw [h] at hr; cases hr), fun j hj => ?_⟩
    by_cases hji : j = i
    · subst hji; exact hy.wpOp hi hS ⟨fun _ _ h => h, H⟩
    · have h1 := H.2 j (ready_mono hj hji)
      obtain ⟨hjun, oj, hoj, hall⟩ := mem_ready.1 hj
      have hnot : ∀ e ∈ oj.after, Region.binds md e = true → e.on ≠ i := fun e he hb heq => by
        have h1 := hall e he hb
        have h0 := (mem_ready.1 hr).1
        rw [heq] at h1
        rcases Nat.lt_or_ge i listed.size with h' | h'
        · simp [h'] at h0 h1; rw [h0] at h1; cases h1
        · simp [Array.getElem?_eq_none h'] at h1
      have hlj : late p j = false := by
        cases e : late p j with
        | false => rfl
        | true =>
          have h0 := (mem_ready.1 hr).1
          have h1 := ready_reach hcl hj (hlate j e hji)
          rw [getD_both h0] at h1
          cases h1
      have h2 := wpOp_putIf hoj (hfree j oj hoj hji hjun hnot) (fun cs b => hsel i oi cs b hi) (fun cs b => hsel j oj cs b hoj) hQ hy h1
      have hfree' : ∀ k ok, ops[k]? = some ok → k ≠ i → (listed.setIfInBounds j true).getD k true = false →
          (∀ e ∈ ok.after, Region.binds md e = true → e.on ≠ i) → oi.apart ops ok = true := fun k ok hk hki hun hno => by
        refine hfree k ok hk hki ?_ hno
        by_cases hjk : j = k
        · subst hjk; exact hjun
        · rw [getD_set_ne true hjk] at hun; exact hun
      refine wpOp_mono (fun a' w' h3 => ⟨h3.2.1, ih (listed.setIfInBounds j true) a' w' hfree' (hcl.set hj) (ready_mono hr (Ne.symm hji)) h3.1 (h3.2.1 p hlj hS) ?_⟩) h2
      rw [Array.setIfInBounds_comm _ _ hji]
      exact h3.2.2

/-- THE WALK IN ONE ORDER: number, kind (0 it only reads, else it may write), phase: of a reader: in which phase it reads; of another: the first phase that holds behind it. -/
def wpGP (P : Program) (ops : Array Oper) (Q : Exit → Act → World → Prop) (S : Nat → World → Prop) : List (Nat × Nat × Nat) → Act → World → Prop
  | [], a, w => Q .normal a w
  | (i, 0, p) :: rest, a, w => ∃ oi v, ops[i]? = some oi ∧ YieldsIf P ops (S p) oi v a ∧ wpGP P ops Q S rest (a.put oi.dst v) w
  | (i, _ + 1, p) :: rest, a, w => wpOp P ops Q i (fun a' w' => (∀ q, p ≤ q → S q w') ∧ wpGP P ops Q S rest a' w') a w

def latesOf (ord : List (Nat × Nat × Nat)) (q j : Nat) : Bool := ord.any fun x => x.1 == j && x.2.1 != 0 && decide (q < x.2.2)

def ordP (md : Region.Mode) (ops : Array Oper) (late : Nat → Nat → Bool) : Nat → List (Nat × Nat × Nat) → Array Bool → Bool
  | _, [], listed => (Region.ready md ops listed).isEmpty
  | c, (i, 0, p) :: rest, listed => decide (c ≤ p) && (Region.ready md ops listed).contains i && Region.free md ops listed i && (List.range ops.size).all (fun j => !late p j || j == i || reach md ops 4 j i) && ordP md ops late c rest (listed.setIfInBounds i true)
  | _, (i, _ + 1, p) :: rest, listed => (Region.ready md ops listed == [i]) && (List.range p).all (fun q => late q i) && ordP md ops late p rest (listed.setIfInBounds i true)

theorem wpAnyP_of_G (hsel : Region.noSelect ops = true) (hQ : ∀ c a d v w, Q (.panic c) (a.put d v) w → Q (.panic c) a w) (hin : ∀ q j, late q j = true → j < ops.size) :
    ∀ (ord : List (Nat × Nat × Nat)) (c : Nat) (listed : Array Bool) (a : Act) (w : World), Closed md ops listed → (∀ q, c ≤ q → S q w) → ordP md ops late c ord listed = true → wpGP P ops Q S ord a w → wpAnyP P md ops Q S late ord.length listed a w
  | [], _, listed, a, w, _, _, hB, h => ⟨by simpa [ordP] using hB, h⟩
  | (i, 0, p) :: rest, c, listed, a, w, hcl, hS, hB, h => by
    obtain ⟨oi, v, hi, hy, hr⟩ := h
    simp only [ordP, Bool.and_eq_true, decide_eq_true_eq] at hB
    obtain ⟨⟨⟨⟨h0, h1⟩, h2⟩, h3⟩, h5⟩ := hB
    refine wpAnyP_first hi (Region.noSelect_spec hsel) (fun c a w => hQ c a _ _ w) (fun j hj hne => ?_) rest.length listed a w (Region.free_spec hi h2) hcl (by simpa using h1) hy (hS p h0)
      (wpAnyP_of_G hsel hQ hin rest c _ _ _ (hcl.set (by simpa using h1)) hS h5 hr)
    have := List.all_eq_true.1 h3 j (List.mem_range.2 (hin p j hj))
    simpa [hj, hne] using this
  | (i, k + 1, p) :: rest, c, listed, a, w, hcl, _, hB, h => by
    simp only [ordP, Bool.and_eq_true, beq_iff_eq] at hB
    obtain ⟨⟨h1, h2⟩, h3⟩ := hB
    refine ⟨fun h0 => (by rw [h1] at h0; cases h0), fun j hj => ?_⟩
    rw [h1] at hj
    obtain rfl : j = i := by simpa using hj
    refine wpOp_mono (fun a' w' h' => ⟨fun q hq _ => h'.1 q ?_, wpAnyP_of_G hsel hQ hin rest p _ a' w' (hcl.set (by rw [h1]; simp)) h'.1 h3 h'.2⟩) h
    rcases Nat.lt_or_ge q p with hlt | hge
    · have := List.all_eq_true.1 h2 q (List.mem_range.2 hlt)
      rw [hq] at this; cases this
    · exact hge

def regP (ops : Array Oper) (ord : List (Nat × Nat × Nat)) : Bool :=
  Region.noSelect ops && (ord.length == ops.size) && ord.all (fun p => decide (p.1 < ops.size)) && ordP .any ops (latesOf ord) 0 ord (Array.replicate ops.size false)

/-- THE BEGINNING. -/
theorem region_phases {id : Nat} {a : Act} {w : World} {l : List Oper} (S : Nat → World → Prop) (ord : List (Nat × Nat × Nat)) (hS : ∀ q, S q w.drew) (hm : P.follows .mixedOrders = true) (hB : regP l.toArray ord = true)
    (hQ : ∀ c a d v w, Q (.panic c) (a.put d v) w → Q (.panic c) a w) (h : wpGP P l.toArray Q S ord a w.drew) : (Code.region id l.toArray true).wp P Q a w := by
  simp only [regP, Bool.and_eq_true, beq_iff_eq] at hB
  obtain ⟨⟨⟨h1, h2⟩, h3⟩, h4⟩ := hB
  refine wp_region_any hm ?_
  rw [← h2]
  refine wpAny_of_P _ _ _ _ (wpAnyP_of_G (S := S) (late := latesOf ord) h1 hQ (fun q j hj => ?_) ord 0 _ a _ (fun j oj _ hl => (by rw [getD_replicate_false] at hl; cases hl)) (fun q _ => hS q) (by rw [h2]; exact h4) h)
  obtain ⟨p, hp, hpj⟩ := List.any_eq_true.1 hj
  have := List.all_eq_true.1 h3 p hp
  simp only [Bool.and_eq_true, beq_iff_eq, decide_eq_true_eq] at hpj this
  omega

theorem wpP_nil {a : Act} {w : World} (h : Q .normal a w) : wpGP P ops Q S [] a w := h
/-- What only reads. -/
theorem wpP_read {i p : Nat} {d : Option Tmp} {o : Op} {ty : TypeId} {po : String} {af : Array Edge} {g : Option (Nat × Bool)} {v : Value} {rest : List (Nat × Nat × Nat)} {a : Act} {w : World} (hi : ops[i]? = some ⟨d, o, ty, po, af, g⟩) (hy : YieldsIf P ops (S p) ⟨d, o, ty, po, af, g⟩ v a) (h : wpGP P ops Q S rest (a.put d v) w) : wpGP P ops Q S ((i, 0, p) :: rest) a w := ⟨_, v, hi, hy, h⟩
theorem wpP_pass {i p : Nat} {d : Option Tmp} {o : Op} {ty : TypeId} {po : String} {af : Array Edge} {g : Option (Nat × Bool)} {rest : List (Nat × Nat × Nat)} {a : Act} {w : World} (hi : ops[i]? = some ⟨d, o, ty, po, af, g⟩) (hw : Region.wanted ⟨d, o, ty, po, af, g⟩ (yielded ops a.tmps) = false) (h : wpGP P ops Q S rest (a.put d undef) w) : wpGP P ops Q S ((i, 0, p) :: rest) a w := ⟨_, undef, hi, .inr ⟨hw, rfl⟩, h⟩
/-- What may write. -/
theorem wpP_make {i k p : Nat} {d : Option Tmp} {o : Op} {ty : TypeId} {po : String} {af : Array Edge} {g : Option (Nat × Bool)} {rest : List (Nat × Nat × Nat)} {a : Act} {w : World} (hi : ops[i]? = some ⟨d, o, ty, po, af, g⟩)
    (h : ∀ K : Act → World → Prop, (∀ a w, (∀ q, p ≤ q → S q w) → wpGP P ops Q S rest a w → K a w) → if Region.wanted ⟨d, o, ty, po, af, g⟩ (yielded ops a.tmps) = true then Oper.wp P ⟨d, o, ty, po, af, g⟩ a w K Q else K (a.put d undef) w) : wpGP P ops Q S ((i, k + 1, p) :: rest) a w := by
  have h' := h (fun a' w' => (∀ q, p ≤ q → S q w') ∧ wpGP P ops Q S rest a' w') (fun a w hs hg => ⟨hs, hg⟩)
  unfold wpGP wpOp
  simp only [hi]
  split
  · rename_i hw; rw [if_pos hw] at h'; exact .inl h'
  · rename_i hw; rw [if_neg hw] at h'; exact h'
end
end Go.Proofs.Ytjcbphhemmdnjaa
