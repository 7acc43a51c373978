/- A region that draws its order, walked by a tree: as XRegion, but that where several operations that make memory may come next each of them is walked. -/
import Derived.Test.YtjcbphhemmdnjaaRegion
namespace Go.Proofs.Ytjcbphhemmdnjaa
open Go Go.RowKit

/-- 'rd i t': operation i only reads: it is taken here. 'mk i t': only i may come next. 'br i ti t': i may come next, and then ti; the others that may come next are those of t ('mk' or 'br'). 'lt i t': i comes when all reading is done. -/
inductive OT where
  | nl : OT
  | rd (i : Nat) (t : OT) : OT
  | mk (i : Nat) (t : OT) : OT
  | br (i : Nat) (ti t : OT) : OT
  | lt (i : Nat) (t : OT) : OT

namespace OT
def alts : OT → List Nat
  | mk i _ => [i]
  | br i _ t => i :: alts t
  | _ => []
def height : OT → Nat
  | nl => 0
  | rd _ t => t.height + 1
  | mk _ t => t.height + 1
  | br _ ti t => max (ti.height + 1) t.height
  | lt _ t => t.height + 1
/-- Does a reader come in it? -/
def reads : OT → Bool
  | nl => false
  | rd _ _ => true
  | mk _ t => t.reads
  | br _ ti t => ti.reads || t.reads
  | lt _ t => t.reads
def lates : OT → List Nat
  | nl => []
  | rd _ t => t.lates
  | mk _ t => t.lates
  | br _ ti t => ti.lates ++ t.lates
  | lt i t => i :: t.lates
end OT

section
variable {P : Program} {ops : Array Oper} {Q : Exit → Act → World → Prop} {md : Region.Mode} {S : World → Prop} {late : Nat → Bool}

def wpT (P : Program) (ops : Array Oper) (Q : Exit → Act → World → Prop) (S : World → Prop) : OT → Act → World → Prop
  | .nl, a, w => Q .normal a w
  | .rd i t, a, w => ∃ oi v, ops[i]? = some oi ∧ YieldsIf P ops S oi v a ∧ wpT P ops Q S t (a.put oi.dst v) w
  | .mk i t, a, w => wpOp P ops Q i (fun a' w' => S w' ∧ wpT P ops Q S t a' w') a w
  | .br i ti t, a, w => wpOp P ops Q i (fun a' w' => S w' ∧ wpT P ops Q S ti a' w') a w ∧ wpT P ops Q S t a w
  | .lt i t, a, w => wpOp P ops Q i (fun a' w' => wpT P ops Q S t a' w') a w

/-- Is it a tree as asked? 'top': the alternatives here have not been looked at. -/
def treeB (md : Region.Mode) (ops : Array Oper) (late : Nat → Bool) : Bool → OT → Array Bool → Bool
  | _, .nl, listed => (Region.ready md ops listed).isEmpty
  | _, .rd i t, listed => (Region.ready md ops listed).contains i && Region.free md ops listed i && (List.range ops.size).all (fun j => !late j || j == i || reach md ops 2 j i) && !late i && treeB md ops late true t (listed.setIfInBounds i true)
  | top, .mk i t, listed => (!top || Region.ready md ops listed == [i]) && !late i && treeB md ops late true t (listed.setIfInBounds i true)
  | top, .br i ti t, listed => (!top || Region.ready md ops listed == i :: t.alts) && !late i && treeB md ops late true ti (listed.setIfInBounds i true) && !t.alts.isEmpty && treeB md ops late false t listed
  | _, .lt i t, listed => (Region.ready md ops listed == [i]) && late i && !t.reads && treeB md ops late true t (listed.setIfInBounds i true)

/-- wpAnyG may be given more steps. -/
theorem wpAnyG_more : ∀ (n m : Nat) (listed : Array Bool) (a : Act) (w : World), n ≤ m → wpAnyG P md ops Q S late n listed a w → wpAnyG P md ops Q S late m listed a w
  | 0, 0, _, _, _, _, h => h
  | 0, m + 1, listed, a, w, _, h => ⟨fun _ => h.2, fun i hi => by rw [h.1] at hi; cases hi⟩
  | n + 1, m + 1, listed, a, w, hle, h => ⟨h.1, fun i hi => wpOp_mono (fun a' w' h' => ⟨h'.1, wpAnyG_more n m _ a' w' (by omega) h'.2⟩) (h.2 i hi)⟩


mutual
theorem wpAnyG_of_T (hsel : Region.noSelect ops = true) (hQ : ∀ c a d v w, Q (.panic c) (a.put d v) w → Q (.panic c) a w) (hin : ∀ j, late j = true → j < ops.size) :
    ∀ (t : OT) (listed : Array Bool) (a : Act) (w : World), Closed md ops listed → (t.reads = true → S w) → treeB md ops late true t listed = true → wpT P ops Q S t a w → wpAnyG P md ops Q S late t.height listed a w
  | .nl, listed, a, w, _, _, hB, h => ⟨by simpa [treeB] using hB, h⟩
  | .rd i t, listed, a, w, hcl, hS, hB, h => by
    obtain ⟨oi, v, hi, hy, hr⟩ := h
    simp only [treeB, Bool.and_eq_true] at hB
    obtain ⟨⟨⟨⟨h1, h2⟩, h3⟩, h4⟩, h5⟩ := hB
    have hSw : S w := hS rfl
    refine wpAnyG_first hi (Region.noSelect_spec hsel) (fun c a w => hQ c a _ _ w) (fun j hj hne => ?_) t.height listed a w (Region.free_spec hi h2) hcl (by simpa using h1) hy hSw
      (wpAnyG_of_T hsel hQ hin t _ _ _ (hcl.set (by simpa using h1)) (fun _ => hSw) h5 hr)
    have := List.all_eq_true.1 h3 j (List.mem_range.2 (hin j hj))
    simpa [hj, hne] using this
  | .mk i t, listed, a, w, hcl, _, hB, h => by
    simp only [treeB, Bool.and_eq_true, Bool.not_true, Bool.false_or, beq_iff_eq] at hB
    obtain ⟨⟨h1, h2⟩, h3⟩ := hB
    refine ⟨fun h0 => (by rw [h1] at h0; cases h0), fun j hj => ?_⟩
    rw [h1] at hj
    obtain rfl : j = i := by simpa using hj
    exact wpOp_mono (fun a' w' h' => ⟨fun _ => h'.1, wpAnyG_of_T hsel hQ hin t _ a' w' (hcl.set (by rw [h1]; simp)) (fun _ => h'.1) h3 h'.2⟩) h
  | .br i ti t, listed, a, w, hcl, _, hB, h => by
    have hB' := hB
    simp only [treeB, Bool.and_eq_true, Bool.not_true, Bool.false_or, beq_iff_eq] at hB
    obtain ⟨⟨⟨⟨h1, h2⟩, h3⟩, h4⟩, h5⟩ := hB
    obtain ⟨n, hn, k1, k2⟩ : ∃ n, (OT.br i ti t).height = n + 1 ∧ ti.height ≤ n ∧ t.height - 1 ≤ n := ⟨max (ti.height + 1) t.height - 1, by simp only [OT.height]; omega, by omega, by omega⟩
    rw [hn]
    refine ⟨fun h0 => (by rw [h1] at h0; cases h0), fun j hj => ?_⟩
    rw [h1] at hj
    rcases List.mem_cons.1 hj with rfl | hj'
    · exact wpOp_mono (fun a' w' h' => ⟨fun _ => h'.1, wpAnyG_more _ _ _ _ _ k1 (wpAnyG_of_T hsel hQ hin ti _ a' w' (hcl.set (by rw [h1]; simp)) (fun _ => h'.1) h3 h'.2)⟩) h.1
    · have := wpAnyG_alts hsel hQ hin t listed a w hcl (fun j hj => by rw [h1]; exact List.mem_cons_of_mem _ hj) h5 h.2 j hj'
      exact wpOp_mono (fun a' w' h' => ⟨h'.1, wpAnyG_more _ _ _ _ _ k2 h'.2⟩) this
  | .lt i t, listed, a, w, hcl, _, hB, h => by
    simp only [treeB, Bool.and_eq_true, beq_iff_eq, Bool.not_eq_true'] at hB
    obtain ⟨⟨⟨h1, h2⟩, h4⟩, h3⟩ := hB
    refine ⟨fun h0 => (by rw [h1] at h0; cases h0), fun j hj => ?_⟩
    rw [h1] at hj
    obtain rfl : j = i := by simpa using hj
    exact wpOp_mono (fun a' w' h' => ⟨fun hl => (by rw [h2] at hl; cases hl), wpAnyG_of_T hsel hQ hin t _ a' w' (hcl.set (by rw [h1]; simp)) (fun hl => (by rw [h4] at hl; cases hl)) h3 h'⟩) h
theorem wpAnyG_alts (hsel : Region.noSelect ops = true) (hQ : ∀ c a d v w, Q (.panic c) (a.put d v) w → Q (.panic c) a w) (hin : ∀ j, late j = true → j < ops.size) :
    ∀ (t : OT) (listed : Array Bool) (a : Act) (w : World), Closed md ops listed → (∀ j ∈ t.alts, j ∈ Region.ready md ops listed) → treeB md ops late false t listed = true → wpT P ops Q S t a w → ∀ j ∈ t.alts, wpOp P ops Q j (fun a' w' => (late j = false → S w') ∧ wpAnyG P md ops Q S late (t.height - 1) (listed.setIfInBounds j true) a' w') a w
  | .nl, listed, a, w, _, _, _, _ => fun j hj => by cases hj
  | .rd _ _, listed, a, w, _, _, _, _ => fun j hj => by cases hj
  | .lt _ _, listed, a, w, _, _, _, _ => fun j hj => by cases hj
  | .mk i t, listed, a, w, hcl, hr, hB, h => fun j hj => by
    simp only [treeB, Bool.and_eq_true, Bool.not_false, Bool.true_or, true_and] at hB
    obtain ⟨h2, h3⟩ := hB
    obtain rfl : j = i := by simpa [OT.alts] using hj
    exact wpOp_mono (fun a' w' h' => ⟨fun _ => h'.1, wpAnyG_of_T hsel hQ hin t _ a' w' (hcl.set (hr j hj)) (fun _ => h'.1) h3 h'.2⟩) h
  | .br i ti t, listed, a, w, hcl, hr, hB, h => fun j hj => by
    simp only [treeB, Bool.and_eq_true, Bool.not_false, Bool.true_or, true_and] at hB
    obtain ⟨⟨⟨h2, h3⟩, h4⟩, h5⟩ := hB
    rcases List.mem_cons.1 hj with rfl | hj'
    · exact wpOp_mono (fun a' w' h' => ⟨fun _ => h'.1, wpAnyG_more _ _ _ _ _ (by simp only [OT.height]; omega) (wpAnyG_of_T hsel hQ hin ti _ a' w' (hcl.set (hr _ hj)) (fun _ => h'.1) h3 h'.2)⟩) h.1
    · have := wpAnyG_alts hsel hQ hin t listed a w hcl (fun j hj => hr j (List.mem_cons_of_mem _ hj)) h5 h.2 j hj'
      exact wpOp_mono (fun a' w' h' => ⟨h'.1, wpAnyG_more _ _ _ _ _ (by simp only [OT.height]; omega) h'.2⟩) this
end

def lateT (t : OT) (j : Nat) : Bool := t.lates.contains j
def regT (ops : Array Oper) (t : OT) : Bool :=
  Region.noSelect ops && decide (t.height ≤ ops.size) && t.lates.all (fun i => decide (i < ops.size)) && treeB .any ops (lateT t) true t (Array.replicate ops.size false)

/-- THE BEGINNING. -/
theorem region_tree {id : Nat} {a : Act} {w : World} {l : List Oper} (t : OT) (hm : P.follows .mixedOrders = true) (hB : regT l.toArray t = true)
    (hQ : ∀ c a d v w, Q (.panic c) (a.put d v) w → Q (.panic c) a w) (h : Below w.drew.heap.size w.drew w.drew → wpT P l.toArray Q (Below w.drew.heap.size w.drew) t a w.drew) : (Code.region id l.toArray true).wp P Q a w := by
  have h := h (Below.refl _ _)
  simp only [regT, Bool.and_eq_true, decide_eq_true_eq] at hB
  obtain ⟨⟨⟨h1, h2⟩, h3⟩, h4⟩ := hB
  refine wp_region_any hm ?_
  refine wpAny_of_G _ _ _ _ (wpAnyG_more _ _ _ _ _ h2 (wpAnyG_of_T (S := Below w.drew.heap.size w.drew) (late := lateT t) h1 hQ (fun j hj => ?_) t _ a _ (fun j oj _ hl => (by rw [getD_replicate_false] at hl; cases hl)) (fun _ => Below.refl _ _) h4 h))
  have := List.all_eq_true.1 h3 j (by simpa [lateT] using hj)
  simpa using this

/-- .. with any relation to the world at its beginning that each step keeps. -/
theorem region_treeS {id : Nat} {a : Act} {w : World} {l : List Oper} {S : World → Prop} (h0 : S w.drew) (t : OT) (hm : P.follows .mixedOrders = true) (hB : regT l.toArray t = true)
    (hQ : ∀ c a d v w, Q (.panic c) (a.put d v) w → Q (.panic c) a w) (h : S w.drew → wpT P l.toArray Q S t a w.drew) : (Code.region id l.toArray true).wp P Q a w := by
  have h := h h0
  simp only [regT, Bool.and_eq_true, decide_eq_true_eq] at hB
  obtain ⟨⟨⟨h1, h2⟩, h3⟩, h4⟩ := hB
  refine wp_region_any hm ?_
  refine wpAny_of_G _ _ _ _ (wpAnyG_more _ _ _ _ _ h2 (wpAnyG_of_T (S := S) (late := lateT t) h1 hQ (fun j hj => ?_) t _ a _ (fun j oj _ hl => (by rw [getD_replicate_false] at hl; cases hl)) (fun _ => h0) h4 h))
  have := List.all_eq_true.1 h3 j (by simpa [lateT] using hj)
  simpa using this
theorem wpT_nil {a : Act} {w : World} (h : Q .normal a w) : wpT P ops Q S .nl a w := h
/-- What only reads. -/
theorem wpT_read {i : Nat} {d : Option Tmp} {o : Op} {ty : TypeId} {po : String} {af : Array Edge} {g : Option (Nat × Bool)} {v : Value} {t : OT} {a : Act} {w : World} (hi : ops[i]? = some ⟨d, o, ty, po, af, g⟩) (hy : YieldsIf P ops S ⟨d, o, ty, po, af, g⟩ v a) (h : wpT P ops Q S t (a.put d v) w) : wpT P ops Q S (.rd i t) a w := ⟨_, v, hi, hy, h⟩
/-- What its guard passes over. -/
theorem wpT_pass {i : Nat} {d : Option Tmp} {o : Op} {ty : TypeId} {po : String} {af : Array Edge} {g : Option (Nat × Bool)} {t : OT} {a : Act} {w : World} (hi : ops[i]? = some ⟨d, o, ty, po, af, g⟩) (hw : Region.wanted ⟨d, o, ty, po, af, g⟩ (yielded ops a.tmps) = false) (h : wpT P ops Q S t (a.put d undef) w) : wpT P ops Q S (.rd i t) a w := ⟨_, undef, hi, .inr ⟨hw, rfl⟩, h⟩
/-- What may make memory. -/
theorem wpT_make {i : Nat} {d : Option Tmp} {o : Op} {ty : TypeId} {po : String} {af : Array Edge} {g : Option (Nat × Bool)} {t : OT} {a : Act} {w : World} (hi : ops[i]? = some ⟨d, o, ty, po, af, g⟩)
    (h : ∀ K : Act → World → Prop, (∀ a w, S w → (S w → wpT P ops Q S t a w) → K a w) → if Region.wanted ⟨d, o, ty, po, af, g⟩ (yielded ops a.tmps) = true then Oper.wp P ⟨d, o, ty, po, af, g⟩ a w K Q else K (a.put d undef) w) : wpT P ops Q S (.mk i t) a w := by
  have h' := h (fun a' w' => S w' ∧ wpT P ops Q S t a' w') (fun a w hs hg => ⟨hs, hg hs⟩)
  unfold wpT wpOp
  simp only [hi]
  split
  · rename_i hw; rw [if_pos hw] at h'; exact .inl h'
  · rename_i hw; rw [if_neg hw] at h'; exact h'
/-- What may make memory, and others may come ahead of it. -/
theorem wpT_both {i : Nat} {d : Option Tmp} {o : Op} {ty : TypeId} {po : String} {af : Array Edge} {g : Option (Nat × Bool)} {ti t : OT} {a : Act} {w : World} (hi : ops[i]? = some ⟨d, o, ty, po, af, g⟩)
    (h : ∀ K : Act → World → Prop, (∀ a w, S w → (S w → wpT P ops Q S ti a w) → K a w) → if Region.wanted ⟨d, o, ty, po, af, g⟩ (yielded ops a.tmps) = true then Oper.wp P ⟨d, o, ty, po, af, g⟩ a w K Q else K (a.put d undef) w) (ht : wpT P ops Q S t a w) : wpT P ops Q S (.br i ti t) a w := by
  refine ⟨?_, ht⟩
  have h' := h (fun a' w' => S w' ∧ wpT P ops Q S ti a' w') (fun a w hs hg => ⟨hs, hg hs⟩)
  unfold wpOp
  simp only [hi]
  split
  · rename_i hw; rw [if_pos hw] at h'; exact .inl h'
  · rename_i hw; rw [if_neg hw] at h'; exact h'
/-- What comes when all reading is done. -/
theorem wpT_late {i : Nat} {d : Option Tmp} {o : Op} {ty : TypeId} {po : String} {af : Array Edge} {g : Option (Nat × Bool)} {t : OT} {a : Act} {w : World} (hi : ops[i]? = some ⟨d, o, ty, po, af, g⟩)
    (h : ∀ K : Act → World → Prop, (∀ a w, wpT P ops Q S t a w → K a w) → if Region.wanted ⟨d, o, ty, po, af, g⟩ (yielded ops a.tmps) = true then Oper.wp P ⟨d, o, ty, po, af, g⟩ a w K Q else K (a.put d undef) w) : wpT P ops Q S (.lt i t) a w := by
  have h' := h (wpT P ops Q S t) (fun a w hg => hg)
  unfold wpT wpOp
  simp only [hi]
  split
  · rename_i hw; rw [if_pos hw] at h'; exact .inl h'
  · rename_i hw; rw [if_neg hw] at h'; exact h'
end
end Go.Proofs.Ytjcbphhemmdnjaa
