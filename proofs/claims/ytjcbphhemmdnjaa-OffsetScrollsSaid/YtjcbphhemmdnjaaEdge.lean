/- A region that draws its order, with one wait more: a cell of a tuple taken out may as well be taken ahead of a store. -/
import Derived.Test.YtjcbphhemmdnjaaNoise
namespace Go.Proofs.Ytjcbphhemmdnjaa
open Go Go.RowKit
set_option linter.unusedSimpArgs false
set_option linter.unusedVariables false

section
variable {P : Program} {Q : Exit → Act → World → Prop}

/-- The same operations, but for what they wait for. -/
def SameOps (ops ops' : Array Oper) : Prop := ∀ j : Nat, (ops[j]?).map (fun o : Oper => (o.dst, o.op, o.type, o.pos, o.guard)) = (ops'[j]?).map (fun o : Oper => (o.dst, o.op, o.type, o.pos, o.guard))
theorem SameOps.some {ops ops' : Array Oper} (h : SameOps ops ops') {j : Nat} {o' : Oper} (hj : ops'[j]? = some o') : ∃ af, ops[j]? = some { o' with after := af } := by
  have := h j
  rw [hj] at this
  cases e : ops[j]? with
  | none => rw [e] at this; cases this
  | some o =>
    rw [e] at this
    simp only [Option.map_some, Option.some.injEq, Prod.mk.injEq] at this
    obtain ⟨h1, h2, h3, h4, h5⟩ := this
    refine ⟨o.after, ?_⟩
    cases o; cases o'
    simp only at h1 h2 h3 h4 h5
    subst h1 h2 h3 h4 h5
    rfl
theorem SameOps.none {ops ops' : Array Oper} (h : SameOps ops ops') {j : Nat} (hj : ops'[j]? = none) : ops[j]? = none := by
  have := h j
  rw [hj] at this
  cases e : ops[j]? with
  | none => rfl
  | some o => rw [e] at this; cases this
theorem SameOps.yielded {ops ops' : Array Oper} (h : SameOps ops ops') (t : Array Value) : yielded ops' t = yielded ops t := by
  funext g
  unfold Go.yielded
  have e : (ops'[g]?).bind (·.dst) = (ops[g]?).bind (·.dst) := by
    cases e : ops'[g]? with
    | none => rw [h.none e]
    | some o' => obtain ⟨af, e2⟩ := h.some e; rw [e2]; rfl
  rw [e]
theorem SameOps.wpOp {ops ops' : Array Oper} (h : SameOps ops ops') {i : Nat} {K : Act → World → Prop} {a : Act} {w : World} (hw : wpOp P ops' Q i K a w) : wpOp P ops Q i K a w := by
  unfold Go.wpOp at *
  cases e : ops'[i]? with
  | none => rw [h.none e]; rw [e] at hw; exact hw
  | some o' =>
    obtain ⟨af, e2⟩ := h.some e
    rw [e2]
    rw [e] at hw
    simp only at hw ⊢
    rw [h.yielded] at hw
    exact hw
theorem extract_out {ops : Array Oper} {i : Nat} {d : Option Tmp} {t : Operand} {k : Nat} {ty : TypeId} {po : String} {af : Array Edge} {K : Act → World → Prop} {a : Act} {w : World} (hi : ops[i]? = some ⟨d, .extract t k, ty, po, af, none⟩) (h : Go.wpOp P ops Q i K a w) :
    ∃ v, (∀ ops' : Array Oper, Yields P ops' ⟨d, .extract t k, ty, po, af, none⟩ v a) ∧ K (a.put d v) w := by
  unfold Go.wpOp at h
  rw [hi] at h
  simp only [Region.wanted, if_true] at h
  have key : (∃ v, ∀ w, (execOp a.eval ⟨d, .extract t k, ty, po, af, none⟩).run P w = .ok (.value v) w) ∨ (∀ w, ∃ x, (execOp a.eval ⟨d, .extract t k, ty, po, af, none⟩).run P w = .halt x w ∧ ∀ v, x ≠ .panic v) := by
    cases hx : a.eval t
    case tuple vs =>
      cases hv : vs[k]? with
      | some v => exact .inl ⟨v, fun w => by simp [execOp, Instr.extract, hx, hv]⟩
      | none => exact .inr fun w => ⟨.stuck "Extract: no such component", by simp [execOp, Instr.extract, hx, hv, stuck], by simp⟩
    all_goals exact .inr fun w => ⟨.stuck "Extract: tuple expected", by simp [execOp, Instr.extract, hx, stuck], by simp⟩
  have noask : noRoomEvent ∉ (Sem.runT P (execOp a.eval ⟨d, .extract t k, ty, po, af, none⟩) w #[]).2 := by
    have e : (Sem.runT P (execOp a.eval ⟨d, .extract t k, ty, po, af, none⟩) w #[]).2 = #[] := by
      show (Sem.runT P (Next.value <$> Instr.extract (a.eval t) k) w #[]).2 = #[]
      cases hx : a.eval t
      case tuple vs =>
        cases hv : vs[k]? with
        | some v => simp only [Instr.extract, hv]; rfl
        | none => simp only [Instr.extract, hv]; rfl
      all_goals rfl
    rw [e]; simp
  rcases key with ⟨v, hv⟩ | hv
  · refine ⟨v, fun ops' => .inl ⟨rfl, hv⟩, ?_⟩
    rcases h with h | ⟨h, _⟩
    · unfold Oper.wp at h; rw [hv w] at h; exact h
    · exfalso
      unfold Oper.asks at h
      exact noask h.1
  · exfalso
    obtain ⟨x, hx, hp⟩ := hv w
    rcases h with h | ⟨h, _⟩
    · unfold Oper.wp at h
      rw [hx] at h
      cases x <;> first | exact h | exact absurd rfl (hp _)
    · unfold Oper.asks at h
      exact noask h.1
theorem wpAny_edge {ops ops' : Array Oper} {i0 j0 : Nat} {d : Option Tmp} {t : Operand} {k : Nat} {ty : TypeId} {po : String} {af : Array Edge} {oj : Oper} (hS : SameOps ops ops')
    (hi : ops[i0]? = some ⟨d, .extract t k, ty, po, af, none⟩) (hi' : ops'[i0]? = some ⟨d, .extract t k, ty, po, af, none⟩) (hj : ops[j0]? = some oj) (hne : i0 ≠ j0)
    (hr : ∀ (listed : Array Bool) j, listed.size = ops.size → j ∈ Region.ready .any ops listed → j ∉ Region.ready .any ops' listed → j = j0 ∧ i0 ∈ Region.ready .any ops' listed)
    (hr' : ∀ listed j, j ∈ Region.ready .any ops' listed → j ∈ Region.ready .any ops listed)
    (hja : ∀ (listed : Array Bool), listed.size = ops.size → j0 ∈ Region.ready .any ops listed → j0 ∈ Region.ready .any ops' (listed.setIfInBounds i0 true))
    (hsel : Region.noSelect ops = true) (hfree : ∀ (listed : Array Bool) (x : Nat) (ox : Oper), i0 ∈ Region.ready .any ops listed → ops[x]? = some ox → x ≠ i0 → listed.getD x true = false → (∀ e ∈ ox.after, Region.binds .any e = true → e.on ≠ i0) → (⟨d, .extract t k, ty, po, af, none⟩ : Oper).apart ops ox = true) (hap : (⟨d, .extract t k, ty, po, af, none⟩ : Oper).apart ops oj = true)
    (hQ : ∀ c a d v w, Q (.panic c) (a.put d v) w → Q (.panic c) a w) :
    ∀ (n : Nat) (listed : Array Bool) (a : Act) (w : World), listed.size = ops.size → wpAny P .any ops' Q n listed a w → wpAny P .any ops Q n listed a w := by
  have hnil : ∀ (listed : Array Bool), listed.size = ops.size → Region.ready .any ops' listed = [] → Region.ready .any ops listed = [] := fun listed hsz h => by
    cases e : Region.ready .any ops listed with
    | nil => rfl
    | cons j r =>
      have hm : j ∈ Region.ready .any ops listed := by rw [e]; exact List.mem_cons_self ..
      have := (hr listed j hsz hm (by rw [h]; simp)).2
      rw [h] at this; cases this
  have hnil' : ∀ listed, Region.ready .any ops listed = [] → Region.ready .any ops' listed = [] := fun listed h => by
    cases e : Region.ready .any ops' listed with
    | nil => rfl
    | cons j r =>
      have := hr' listed j (by rw [e]; exact List.mem_cons_self ..)
      rw [h] at this; cases this
  intro n
  induction n using Nat.strongRecOn with
  | ind n ih =>
    intro listed a w hsz H
    cases n with
    | zero => exact ⟨hnil _ hsz H.1, H.2⟩
    | succ n =>
      refine ⟨fun h0 => H.1 (hnil' _ h0), fun j hjr => ?_⟩
      by_cases hj' : j ∈ Region.ready .any ops' listed
      · exact wpOp_mono (fun a' w' h' => ih n (by omega) _ a' w' (by simpa using hsz) h') (hS.wpOp (H.2 j hj'))
      · obtain ⟨rfl, h0⟩ := hr listed j hsz hjr hj'
        obtain ⟨v, hy, h1⟩ := extract_out hi' (H.2 i0 h0)
        have h2 := hja listed hsz hjr
        cases n with
        | zero =>
          have := h1.1
          rw [this] at h2; cases h2
        | succ m =>
          have h3 := hS.wpOp (h1.2 j h2)
          have h4 := wpOp_put hj hap (fun cs b => Region.noSelect_spec hsel i0 _ cs b hi) (fun cs b => Region.noSelect_spec hsel j oj cs b hj) (fun c a w => hQ c a _ _ w) (hy ops) h3
          refine wpOp_mono (fun a' w' h5 => ?_) h4
          have hrd := ready_mono (hr' listed i0 h0) hne
          refine wpAny_first hi (Region.noSelect_spec hsel) (fun c a w => hQ c a _ _ w) m _ a' w' (fun x ox hx hxi hun hno => hfree _ x ox hrd hx hxi hun hno) hrd h5.1 ?_
          · rw [Array.setIfInBounds_comm _ _ hne.symm]
            exact ih m (by omega) _ _ _ (by simpa using hsz) h5.2

/-- Operation j waits for i, too. -/
def addE : List Oper → Nat → Nat → List Oper
  | [], _, _ => []
  | o :: r, i, 0 => ⟨o.dst, o.op, o.type, o.pos, o.after.push ⟨i, .data⟩, o.guard⟩ :: r
  | o :: r, i, j + 1 => o :: addE r i j
theorem addE_get : ∀ (l : List Oper) (i j x : Nat), (addE l i j)[x]? = if x = j then (l[j]?).map (fun o : Oper => ⟨o.dst, o.op, o.type, o.pos, o.after.push ⟨i, .data⟩, o.guard⟩) else l[x]?
  | [], i, j, x => by simp [addE]
  | o :: r, i, 0, 0 => rfl
  | o :: r, i, 0, x + 1 => by simp [addE]
  | o :: r, i, j + 1, 0 => by simp [addE]
  | o :: r, i, j + 1, x + 1 => by
    simp only [addE, List.getElem?_cons_succ, addE_get r i j x, Nat.add_right_cancel_iff]
theorem addE_len : ∀ (l : List Oper) (i j : Nat), (addE l i j).length = l.length
  | [], _, _ => rfl
  | o :: r, _, 0 => rfl
  | o :: r, i, j + 1 => by simp [addE, addE_len r i j]
/-- i takes a cell out of a tuple; whatever it waits for, j waits for. -/
def edgeB (l : List Oper) (i0 j0 : Nat) : Bool :=
  i0 != j0 && Region.noSelect l.toArray &&
  match l[i0]?, l[j0]? with
  | some oi, some oj => (match oi.op with | .extract _ _ => true | _ => false) && oi.guard.isNone && oi.apart l.toArray oj && oi.after.all (fun e => !Region.binds .any e || oj.after.any (fun e' => Region.binds .any e' && e'.on == e.on)) && (List.range l.length).all (fun x => x == i0 || (oi.after.any fun e => Region.binds .any e && e.on == x) || match l[x]? with | some ox => ox.after.any (fun e => Region.binds .any e && e.on == i0) || oi.apart l.toArray ox | none => true)
  | _, _ => false
theorem wpAny_addE {l : List Oper} {i0 j0 : Nat} (hB : edgeB l i0 j0 = true) (hQ : ∀ c a d v w, Q (.panic c) (a.put d v) w → Q (.panic c) a w) {n : Nat} {listed : Array Bool} {a : Act} {w : World} (hsz : listed.size = l.length)
    (h : wpAny P .any (addE l i0 j0).toArray Q n listed a w) : wpAny P .any l.toArray Q n listed a w := by
  unfold edgeB at hB
  simp only [Bool.and_eq_true, bne_iff_ne] at hB
  obtain ⟨⟨hne, hsel⟩, hB⟩ := hB
  cases ei : l[i0]? with
  | none => simp [ei] at hB
  | some oi =>
  cases ej : l[j0]? with
  | none => simp [ei, ej] at hB
  | some oj =>
  simp only [ei, ej, Bool.and_eq_true] at hB
  obtain ⟨⟨⟨⟨hop, hgd⟩, hap⟩, hall⟩, hfr⟩ := hB
  obtain ⟨d, op, ty, po, af, g⟩ := oi
  cases op <;> simp at hop
  rename_i t k
  cases g <;> simp at hgd
  have hS : SameOps l.toArray (addE l i0 j0).toArray := fun x => by
    simp only [List.getElem?_toArray, addE_get]
    split
    · rename_i e; subst e; rw [ej]; rfl
    · rfl
  have get' : ∀ x o, l[x]? = some o → x ≠ j0 → (addE l i0 j0)[x]? = some o := fun x o h hx => by rw [addE_get, if_neg hx, h]
  have getj : (addE l i0 j0)[j0]? = some ⟨oj.dst, oj.op, oj.type, oj.pos, oj.after.push ⟨i0, .data⟩, oj.guard⟩ := by rw [addE_get, if_pos rfl, ej]; rfl
  have hpush : ∀ (e : Edge), e ∈ oj.after.push ⟨i0, .data⟩ ↔ e ∈ oj.after ∨ e = ⟨i0, .data⟩ := fun e => Array.mem_push
  have hready' : ∀ (listed : Array Bool) (j : Nat), j ∈ Region.ready .any (addE l i0 j0).toArray listed → j ∈ Region.ready .any l.toArray listed := fun listed j hj => by
    rw [mem_ready] at hj ⊢
    obtain ⟨h0, o, ho, hall⟩ := hj
    by_cases hx : j = j0
    · subst hx
      have e : o = ⟨oj.dst, oj.op, oj.type, oj.pos, oj.after.push ⟨i0, .data⟩, oj.guard⟩ := Option.some.inj ((by simpa using ho.symm : some o = _).trans getj)
      subst e
      exact ⟨h0, oj, by simpa using ej, fun e he hb => hall e ((hpush e).2 (.inl he)) hb⟩
    · refine ⟨h0, o, ?_, hall⟩
      have : (addE l i0 j0)[j]? = some o := by simpa using ho
      rw [addE_get, if_neg hx] at this
      simpa using this
  refine wpAny_edge (i0 := i0) (j0 := j0) hS (by simpa using ei) (by simpa using get' i0 _ ei hne) (by simpa using ej) hne (fun listed j hz hj hj' => ?_) hready' (fun listed hz hj => ?_) hsel (fun listed x ox hrd hx hxi hun hno => ?_) hap hQ n listed a w (by simpa using hsz) h
  · rw [mem_ready] at hj
    obtain ⟨h0, o, ho, hal⟩ := hj
    have ho2 : l[j]? = some o := by simpa using ho
    have hx : j = j0 := by
      by_cases hx : j = j0
      · exact hx
      · exact absurd (mem_ready.2 ⟨h0, o, by simpa using get' j o ho2 hx, hal⟩) hj'
    subst hx
    obtain rfl : o = oj := Option.some.inj (ho2.symm.trans ej)
    have hun : listed.getD i0 false = false := by
      cases e : listed.getD i0 false with
      | false => rfl
      | true =>
        refine absurd (mem_ready.2 ⟨h0, _, by simpa using getj, fun e he hb => ?_⟩) hj'
        rcases (hpush e).1 he with he | rfl
        · exact hal e he hb
        · assumption
    refine ⟨rfl, mem_ready.2 ⟨?_, _, by simpa using get' i0 _ ei hne, fun e he hb => ?_⟩⟩
    · have hlt : i0 < listed.size := by rw [hz]; simpa using (List.getElem?_eq_some_iff.1 ei).1
      simpa [Array.getD, hlt] using hun
    · have := Array.all_eq_true_iff_forall_mem.1 hall e he
      simp only [hb, Bool.not_true, Bool.false_or, Array.any_eq_true'] at this
      obtain ⟨e', he', hb'⟩ := this
      simp only [Bool.and_eq_true, beq_iff_eq] at hb'
      rw [← hb'.2]
      exact hal e' he' hb'.1
  · rw [mem_ready] at hj ⊢
    obtain ⟨h0, o, ho, hal⟩ := hj
    obtain rfl : o = oj := Option.some.inj ((by simpa using ho : l[j0]? = some o).symm.trans ej)
    refine ⟨by rw [getD_set_ne true hne]; exact h0, _, by simpa using getj, fun e he hb => ?_⟩
    rcases (hpush e).1 he with he | rfl
    · exact getD_set_true (hal e he hb)
    · have hlt : i0 < listed.size := by rw [hz]; simpa using (List.getElem?_eq_some_iff.1 ei).1
      simp [Array.getD, hlt]
  · have hx2 : l[x]? = some ox := by simpa using hx
    have h1 := List.all_eq_true.1 hfr x (List.mem_range.2 (List.getElem?_eq_some_iff.1 hx2).1)
    simp only [hx2, Bool.or_eq_true, beq_iff_eq, hxi, false_or] at h1
    obtain ⟨_, o, ho, hal⟩ := mem_ready.1 hrd
    have ho2 : l[i0]? = some o := by simpa using ho
    obtain rfl := Option.some.inj (ho2.symm.trans ei)
    rcases h1 with h1 | h1 | h1
    · obtain ⟨e, he, hb⟩ := Array.any_eq_true'.1 h1
      simp only [Bool.and_eq_true, beq_iff_eq] at hb
      have h2 := hal e he hb.1
      rw [hb.2] at h2
      exfalso
      rcases Nat.lt_or_ge x listed.size with h' | h'
      · simp [Array.getD, h'] at h2 hun; rw [h2] at hun; cases hun
      · simp [Array.getD, Nat.not_lt.2 h'] at h2
    · obtain ⟨e, he, hb⟩ := Array.any_eq_true'.1 h1
      simp only [Bool.and_eq_true, beq_iff_eq] at hb
      exact absurd hb.2 (hno e he hb.1)
    · exact h1
/-- THE BEGINNING, with one wait more. -/
theorem region_edge {id : Nat} {a : Act} {w : World} {l : List Oper} (i0 j0 : Nat) (hm : P.follows .mixedOrders = true) (hE : edgeB l i0 j0 = true) (hQ : ∀ c a d v w, Q (.panic c) (a.put d v) w → Q (.panic c) a w)
    (h : wpAny P .any (addE l i0 j0).toArray Q (addE l i0 j0).toArray.size (Array.replicate (addE l i0 j0).toArray.size false) a w.drew) : (Code.region id l.toArray true).wp P Q a w := by
  refine wp_region_any hm ?_
  refine wpAny_addE hE hQ (by simp) ?_
  simpa [addE_len] using h
end
end Go.Proofs.Ytjcbphhemmdnjaa
