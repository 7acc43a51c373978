/- A region that draws its order, walked in ONE order: what only reads is taken as early as it may come up; what makes memory comes in its chained order; stores come last. -/
import Derived.Orders
import Derived.OrdersHeld
import Derived.StillTail
import Derived.Below
namespace Go.Proofs.Ytjcbphhemmdnjaa
open Go Go.RowKit

section
variable {P : Program} {ops : Array Oper} {Q : Exit → Act → World → Prop} {md : Region.Mode} {S : World → Prop} {late : Nat → Bool}

/-- Whatever order is picked from here on, and S holds behind each operation that is not late. -/
def wpAnyG (P : Program) (md : Region.Mode) (ops : Array Oper) (Q : Exit → Act → World → Prop) (S : World → Prop) (late : Nat → Bool) : Nat → Array Bool → Act → World → Prop
  | 0, listed, a, w => Region.ready md ops listed = [] ∧ Q .normal a w
  | fuel + 1, listed, a, w =>
    (Region.ready md ops listed = [] → Q .normal a w) ∧
    ∀ i ∈ Region.ready md ops listed, wpOp P ops Q i (fun a' w' => (late i = false → S w') ∧ wpAnyG P md ops Q S late fuel (listed.setIfInBounds i true) a' w') a w

theorem wpAny_of_G : ∀ (fuel : Nat) (listed : Array Bool) (a : Act) (w : World), wpAnyG P md ops Q S late fuel listed a w → wpAny P md ops Q fuel listed a w
  | 0, _, _, _, h => h
  | fuel + 1, _, _, _, h => ⟨h.1, fun i hi => wpOp_mono (fun a' w' h' => wpAny_of_G fuel _ a' w' h'.2) (h.2 i hi)⟩

/-- Does j wait for i, by at most k + 1 steps? -/
def reach (md : Region.Mode) (ops : Array Oper) : Nat → Nat → Nat → Bool
  | 0, j, i => Region.waitsFor md ops j i
  | k + 1, j, i => Region.waitsFor md ops j i || (List.range ops.size).any fun m => Region.waitsFor md ops j m && reach md ops k m i

/-- Whoever is listed has all that it waits for listed. -/
def Closed (md : Region.Mode) (ops : Array Oper) (listed : Array Bool) : Prop :=
  ∀ j oj, ops[j]? = some oj → listed.getD j false = true → ∀ e ∈ oj.after, Region.binds md e = true → listed.getD e.on false = true

theorem Closed.set {listed : Array Bool} {i : Nat} (h : Closed md ops listed) (hi : i ∈ Region.ready md ops listed) : Closed md ops (listed.setIfInBounds i true) := by
  obtain ⟨_, oi, hoi, hall⟩ := mem_ready.1 hi
  intro j oj hj hl e he hb
  by_cases hij : i = j
  · subst hij
    have : oj = oi := Option.some.inj (hj.symm.trans hoi)
    subst this
    exact getD_set_true (hall e he hb)
  · rw [getD_set_ne false hij] at hl
    exact getD_set_true (h j oj hj hl e he hb)

theorem Closed.reach {listed : Array Bool} (h : Closed md ops listed) : ∀ (k j i : Nat), Go.Proofs.Ytjcbphhemmdnjaa.reach md ops k j i = true → listed.getD j false = true → listed.getD i false = true
  | 0, j, i, hr, hl => by
    obtain ⟨oj, hoj, e, he, hb, hon⟩ := Region.waitsFor_spec hr
    have := h j oj hoj hl e he hb
    rwa [hon] at this
  | k + 1, j, i, hr, hl => by
    simp only [Go.Proofs.Ytjcbphhemmdnjaa.reach, Bool.or_eq_true, List.any_eq_true, Bool.and_eq_true] at hr
    rcases hr with hr | ⟨m, _, h1, h2⟩
    · obtain ⟨oj, hoj, e, he, hb, hon⟩ := Region.waitsFor_spec hr
      have := h j oj hoj hl e he hb
      rwa [hon] at this
    · obtain ⟨oj, hoj, e, he, hb, hon⟩ := Region.waitsFor_spec h1
      have := h j oj hoj hl e he hb
      rw [hon] at this
      exact Closed.reach h k m i h2 this

theorem ready_reach {listed : Array Bool} (h : Closed md ops listed) {k j i : Nat} (hj : j ∈ Region.ready md ops listed) (hr : reach md ops k j i = true) : listed.getD i false = true := by
  obtain ⟨_, oj, hoj, hall⟩ := mem_ready.1 hj
  cases k with
  | zero =>
    obtain ⟨oj', hoj', e, he, hb, hon⟩ := Region.waitsFor_spec hr
    have : oj' = oj := Option.some.inj (hoj'.symm.trans hoj)
    subst this
    have := hall e he hb
    rwa [hon] at this
  | succ k =>
    simp only [reach, Bool.or_eq_true, List.any_eq_true, Bool.and_eq_true] at hr
    rcases hr with hr | ⟨m, _, h1, h2⟩
    · obtain ⟨oj', hoj', e, he, hb, hon⟩ := Region.waitsFor_spec hr
      have : oj' = oj := Option.some.inj (hoj'.symm.trans hoj)
      subst this
      have := hall e he hb
      rwa [hon] at this
    · obtain ⟨oj', hoj', e, he, hb, hon⟩ := Region.waitsFor_spec h1
      have : oj' = oj := Option.some.inj (hoj'.symm.trans hoj)
      subst this
      have := hall e he hb
      rw [hon] at this
      exact h.reach k m i h2 this

theorem wpAnyG_first {i : Nat} {oi : Oper} {v : Value} (hi : ops[i]? = some oi) (hsel : ∀ (j : Nat) (o : Oper) cs b, ops[j]? = some o → o.op ≠ .select cs b)
    (hQ : ∀ c a w, Q (.panic c) (a.put oi.dst v) w → Q (.panic c) a w) (hlate : ∀ j, late j = true → j ≠ i → reach md ops 2 j i = true) :
    ∀ (fuel : Nat) (listed : Array Bool) (a : Act) (w : World),
      (∀ j oj, ops[j]? = some oj → j ≠ i → listed.getD j true = false → (∀ e ∈ oj.after, Region.binds md e = true → e.on ≠ i) → oi.apart ops oj = true) →
      Closed md ops listed → i ∈ Region.ready md ops listed → YieldsIf P ops S oi v a → S w →
      wpAnyG P md ops Q S late fuel (listed.setIfInBounds i true) (a.put oi.dst v) w → wpAnyG P md ops Q S late (fuel + 1) listed a w := by
  intro fuel
  induction fuel with
  | zero =>
    intro listed a w _ _ hr hy hS H
    refine ⟨fun h => (by rw [h] at hr; cases hr), fun j hj => ?_⟩
    by_cases hji : j = i
    · subst hji; exact hy.wpOp hi hS ⟨fun _ => hS, H⟩
    · have := ready_mono hj hji
      rw [H.1] at this
      cases this
  | succ fuel ih =>
    intro listed a w hfree hcl hr hy hS H
    refine ⟨fun h => (by rw [h] at hr; cases hr), fun j hj => ?_⟩
    by_cases hji : j = i
    · subst hji; exact hy.wpOp hi hS ⟨fun _ => hS, H⟩
    · have h1 := H.2 j (ready_mono hj hji)
      obtain ⟨hjun, oj, hoj, hall⟩ := mem_ready.1 hj
      have hnot : ∀ e ∈ oj.after, Region.binds md e = true → e.on ≠ i := fun e he hb heq => by
        have h1 := hall e he hb
        have h0 := (mem_ready.1 hr).1
        rw [heq] at h1
        rcases Nat.lt_or_ge i listed.size with h' | h'
        · simp [h'] at h0 h1; rw [h0] at h1; cases h1
        · simp [Array.getElem?_eq_none h'] at h1
      have hlj : late j = false := by
        cases e : late j with
        | false => rfl
        | true =>
          have h0 := (mem_ready.1 hr).1
          have h1 := ready_reach hcl hj (hlate j e hji)
          rw [getD_both h0] at h1
          cases h1
      have h2 := wpOp_putIf hoj (hfree j oj hoj hji hjun hnot) (fun cs b => hsel i oi cs b hi) (fun cs b => hsel j oj cs b hoj) hQ hy h1
      have hfree' : ∀ k ok, ops[k]? = some ok → k ≠ i → (listed.setIfInBounds j true).getD k true = false →
          (∀ e ∈ ok.after, Region.binds md e = true → e.on ≠ i) → oi.apart ops ok = true := fun k ok hk hki hun hno => by
        refine hfree k ok hk hki ?_ hno
        by_cases hjk : j = k
        · subst hjk; exact hjun
        · rw [getD_set_ne true hjk] at hun; exact hun
      refine wpOp_mono (fun a' w' h3 => ⟨fun _ => h3.2.1 hlj, ih (listed.setIfInBounds j true) a' w' hfree' (hcl.set hj) (ready_mono hr (Ne.symm hji)) h3.1 (h3.2.1 hlj) ?_⟩) h2
      rw [Array.setIfInBounds_comm _ _ hji]
      exact h3.2.2

/-- THE WALK IN ONE ORDER: each operation's number and its kind: 0 it only reads; 1 it may make memory; 2 it comes when all reading is done. -/
def wpG (P : Program) (ops : Array Oper) (Q : Exit → Act → World → Prop) (S : World → Prop) : List (Nat × Nat) → Act → World → Prop
  | [], a, w => Q .normal a w
  | (i, 0) :: rest, a, w => ∃ oi v, ops[i]? = some oi ∧ YieldsIf P ops S oi v a ∧ wpG P ops Q S rest (a.put oi.dst v) w
  | (i, 1) :: rest, a, w => wpOp P ops Q i (fun a' w' => S w' ∧ wpG P ops Q S rest a' w') a w
  | (i, _ + 2) :: rest, a, w => wpOp P ops Q i (fun a' w' => wpG P ops Q S rest a' w') a w

def lateOf (ord : List (Nat × Nat)) (j : Nat) : Bool := ord.any fun p => p.1 == j && decide (2 ≤ p.2)
def readsLeft (ord : List (Nat × Nat)) : Bool := ord.any fun p => p.2 == 0

/-- Is it an order as asked? -/
def ordB (md : Region.Mode) (ops : Array Oper) (late : Nat → Bool) : List (Nat × Nat) → Array Bool → Bool
  | [], listed => (Region.ready md ops listed).isEmpty
  | (i, 0) :: rest, listed => (Region.ready md ops listed).contains i && Region.free md ops listed i && (List.range ops.size).all (fun j => !late j || j == i || reach md ops 2 j i) && !late i && ordB md ops late rest (listed.setIfInBounds i true)
  | (i, 1) :: rest, listed => (Region.ready md ops listed == [i]) && !late i && ordB md ops late rest (listed.setIfInBounds i true)
  | (i, _ + 2) :: rest, listed => (Region.ready md ops listed == [i]) && late i && !readsLeft rest && ordB md ops late rest (listed.setIfInBounds i true)

theorem wpAnyG_of_G (hsel : Region.noSelect ops = true) (hQ : ∀ c a d v w, Q (.panic c) (a.put d v) w → Q (.panic c) a w) (hin : ∀ j, late j = true → j < ops.size) :
    ∀ (ord : List (Nat × Nat)) (listed : Array Bool) (a : Act) (w : World), Closed md ops listed → (readsLeft ord = true → S w) → ordB md ops late ord listed = true → wpG P ops Q S ord a w → wpAnyG P md ops Q S late ord.length listed a w
  | [], listed, a, w, _, _, hB, h => ⟨by simpa [ordB] using hB, h⟩
  | (i, 0) :: rest, listed, a, w, hcl, hS, hB, h => by
    obtain ⟨oi, v, hi, hy, hr⟩ := h
    simp only [ordB, Bool.and_eq_true] at hB
    obtain ⟨⟨⟨⟨h1, h2⟩, h3⟩, h4⟩, h5⟩ := hB
    have hSw : S w := hS (by simp [readsLeft])
    refine wpAnyG_first hi (Region.noSelect_spec hsel) (fun c a w => hQ c a _ _ w) (fun j hj hne => ?_) rest.length listed a w (Region.free_spec hi h2) hcl (by simpa using h1) hy hSw
      (wpAnyG_of_G hsel hQ hin rest _ _ _ (hcl.set (by simpa using h1)) (fun _ => hSw) h5 hr)
    have := List.all_eq_true.1 h3 j (List.mem_range.2 (hin j hj))
    simpa [hj, hne] using this
  | (i, 1) :: rest, listed, a, w, hcl, _, hB, h => by
    simp only [ordB, Bool.and_eq_true, beq_iff_eq] at hB
    obtain ⟨⟨h1, h2⟩, h3⟩ := hB
    refine ⟨fun h0 => (by rw [h1] at h0; cases h0), fun j hj => ?_⟩
    rw [h1] at hj
    obtain rfl : j = i := by simpa using hj
    exact wpOp_mono (fun a' w' h' => ⟨fun _ => h'.1, wpAnyG_of_G hsel hQ hin rest _ a' w' (hcl.set (by rw [h1]; simp)) (fun _ => h'.1) h3 h'.2⟩) h
  | (i, _ + 2) :: rest, listed, a, w, hcl, _, hB, h => by
    simp only [ordB, Bool.and_eq_true, beq_iff_eq, Bool.not_eq_true'] at hB
    obtain ⟨⟨⟨h1, h2⟩, h4⟩, h3⟩ := hB
    refine ⟨fun h0 => (by rw [h1] at h0; cases h0), fun j hj => ?_⟩
    rw [h1] at hj
    obtain rfl : j = i := by simpa using hj
    exact wpOp_mono (fun a' w' h' => ⟨fun hl => (by rw [h2] at hl; cases hl), wpAnyG_of_G hsel hQ hin rest _ a' w' (hcl.set (by rw [h1]; simp)) (fun hl => (by rw [h4] at hl; cases hl)) h3 h'⟩) h

def regB (ops : Array Oper) (ord : List (Nat × Nat)) : Bool :=
  Region.noSelect ops && (ord.length == ops.size) && ord.all (fun p => decide (p.1 < ops.size)) && ordB .any ops (lateOf ord) ord (Array.replicate ops.size false)

/-- THE BEGINNING. -/
theorem region_ord {id : Nat} {a : Act} {w : World} {l : List Oper} (ord : List (Nat × Nat)) (hm : P.follows .mixedOrders = true) (hB : regB l.toArray ord = true)
    (hQ : ∀ c a d v w, Q (.panic c) (a.put d v) w → Q (.panic c) a w) (h : Below w.drew.heap.size w.drew w.drew → wpG P l.toArray Q (Below w.drew.heap.size w.drew) ord a w.drew) : (Code.region id l.toArray true).wp P Q a w := by
  have h := h (Below.refl _ _)
  simp only [regB, Bool.and_eq_true, beq_iff_eq] at hB
  obtain ⟨⟨⟨h1, h2⟩, h3⟩, h4⟩ := hB
  refine wp_region_any hm ?_
  rw [← h2]
  refine wpAny_of_G _ _ _ _ (wpAnyG_of_G (S := Below w.drew.heap.size w.drew) (late := lateOf ord) h1 hQ (fun j hj => ?_) ord _ a _ (fun j oj _ hl => (by rw [getD_replicate_false] at hl; cases hl)) (fun _ => Below.refl _ _) (by rw [h2]; exact h4) h)
  obtain ⟨p, hp, hpj⟩ := List.any_eq_true.1 hj
  have := List.all_eq_true.1 h3 p hp
  simp only [Bool.and_eq_true, beq_iff_eq, decide_eq_true_eq] at hpj this
  omega

theorem wpG_nil {a : Act} {w : World} (h : Q .normal a w) : wpG P ops Q S [] a w := h
/-- What only reads. -/
theorem wpG_read {i : Nat} {d : Option Tmp} {o : Op} {ty : TypeId} {po : String} {af : Array Edge} {g : Option (Nat × Bool)} {v : Value} {rest : List (Nat × Nat)} {a : Act} {w : World} (hi : ops[i]? = some ⟨d, o, ty, po, af, g⟩) (hy : YieldsIf P ops S ⟨d, o, ty, po, af, g⟩ v a) (h : wpG P ops Q S rest (a.put d v) w) : wpG P ops Q S ((i, 0) :: rest) a w := ⟨_, v, hi, hy, h⟩
/-- What its guard passes over. -/
theorem wpG_pass {i : Nat} {d : Option Tmp} {o : Op} {ty : TypeId} {po : String} {af : Array Edge} {g : Option (Nat × Bool)} {rest : List (Nat × Nat)} {a : Act} {w : World} (hi : ops[i]? = some ⟨d, o, ty, po, af, g⟩) (hw : Region.wanted ⟨d, o, ty, po, af, g⟩ (yielded ops a.tmps) = false) (h : wpG P ops Q S rest (a.put d undef) w) : wpG P ops Q S ((i, 0) :: rest) a w := ⟨_, undef, hi, .inr ⟨hw, rfl⟩, h⟩
/-- What may make memory. -/
theorem wpG_make {i : Nat} {d : Option Tmp} {o : Op} {ty : TypeId} {po : String} {af : Array Edge} {g : Option (Nat × Bool)} {rest : List (Nat × Nat)} {a : Act} {w : World} (hi : ops[i]? = some ⟨d, o, ty, po, af, g⟩)
    (h : ∀ K : Act → World → Prop, (∀ a w, S w → (S w → wpG P ops Q S rest a w) → K a w) → if Region.wanted ⟨d, o, ty, po, af, g⟩ (yielded ops a.tmps) = true then Oper.wp P ⟨d, o, ty, po, af, g⟩ a w K Q else K (a.put d undef) w) : wpG P ops Q S ((i, 1) :: rest) a w := by
  have h' := h (fun a' w' => S w' ∧ wpG P ops Q S rest a' w') (fun a w hs hg => ⟨hs, hg hs⟩)
  unfold wpG wpOp
  simp only [hi]
  split
  · rename_i hw; rw [if_pos hw] at h'; exact .inl h'
  · rename_i hw; rw [if_neg hw] at h'; exact h'
/-- What comes when all reading is done. -/
theorem wpG_late {i k : Nat} {d : Option Tmp} {o : Op} {ty : TypeId} {po : String} {af : Array Edge} {g : Option (Nat × Bool)} {rest : List (Nat × Nat)} {a : Act} {w : World} (hi : ops[i]? = some ⟨d, o, ty, po, af, g⟩)
    (h : ∀ K : Act → World → Prop, (∀ a w, wpG P ops Q S rest a w → K a w) → if Region.wanted ⟨d, o, ty, po, af, g⟩ (yielded ops a.tmps) = true then Oper.wp P ⟨d, o, ty, po, af, g⟩ a w K Q else K (a.put d undef) w) : wpG P ops Q S ((i, k + 2) :: rest) a w := by
  have h' := h (wpG P ops Q S rest) (fun a w hg => hg)
  unfold wpG wpOp
  simp only [hi]
  split
  · rename_i hw; rw [if_pos hw] at h'; exact .inl h'
  · rename_i hw; rw [if_neg hw] at h'; exact h'
end
end Go.Proofs.Ytjcbphhemmdnjaa
