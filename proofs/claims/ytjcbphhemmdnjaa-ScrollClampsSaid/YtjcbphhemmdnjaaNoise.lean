/- A region that draws its order, with allocations that may come at any time: what only reads and what makes memory is walked in one order, the allocations are taken for done in the end; stores come last. -/
import Derived.Test.YtjcbphhemmdnjaaRegion
import Derived.Test.YtjcbphhemmdnjaaOwn
namespace Go.Proofs.Ytjcbphhemmdnjaa
open Go Go.RowKit
set_option linter.unusedSimpArgs false
set_option linter.unusedVariables false

/-- An allocation of the region: its number, its slot, what it lays. -/
structure AS where
  i : Nat
  d : Tmp
  cs : Array Value
  T : TypeId

abbrev ptrTo (b : Nat) : Value := .pointer (some ⟨b, 0, none⟩)

section
variable {P : Program} {ops : Array Oper} {Q : Exit → Act → World → Prop}

/-- The slots of those that are done. -/
def putA (β : Nat → Option Nat) : List AS → Act → Act
  | [], a => a
  | s :: r, a => putA β r (match β s.i with | some b => a.put (some s.d) (ptrTo b) | none => a)

theorem put_put_comm (a : Act) {x y : Option Tmp} (v u : Value) (h : ∀ d, x = some d → y ≠ some d) : (a.put x v).put y u = (a.put y u).put x v := Act.put_comm a v u h

theorem putA_put (β : Nat → Option Nat) : ∀ (A : List AS) (a : Act) (y : Option Tmp) (u : Value), (∀ s ∈ A, y ≠ some s.d) → putA β A (a.put y u) = (putA β A a).put y u
  | [], _, _, _, _ => rfl
  | s :: r, a, y, u, h => by
    have h1 := h s (List.mem_cons_self ..)
    have h2 := fun s' hs' => h s' (List.mem_cons_of_mem _ hs')
    simp only [putA]
    cases hb : β s.i with
    | none => exact putA_put β r a y u h2
    | some b =>
      simp only
      rw [← putA_put β r _ y u h2, Act.put_comm a u (ptrTo b) (fun d hd he => h1 (hd.trans he.symm))]

theorem putA_defer (β : Nat → Option Nat) : ∀ (A : List AS) (a : Act) (d : Deferred), putA β A { a with defers := d :: a.defers } = { putA β A a with defers := d :: (putA β A a).defers }
  | [], _, _ => rfl
  | s :: r, a, d => by
    simp only [putA]
    cases β s.i with
    | none => exact putA_defer β r a d
    | some b =>
      simp only
      rw [← putA_defer β r _ d]
      rfl

theorem putA_eval (β : Nat → Option Nat) : ∀ (A : List AS) (a : Act) (x : Operand), (∀ s ∈ A, x ≠ .tmp s.d) → (putA β A a).eval x = a.eval x
  | [], _, _, _ => rfl
  | s :: r, a, x, h => by
    have h1 := h s (List.mem_cons_self ..)
    have h2 := fun s' hs' => h s' (List.mem_cons_of_mem _ hs')
    simp only [putA]
    cases β s.i with
    | none => exact putA_eval β r a x h2
    | some b =>
      simp only
      rw [putA_eval β r _ x h2]
      exact Act.eval_put (fun d hd hx => h1 (by cases hd; exact hx))

theorem putA_upd (β : Nat → Option Nat) (k b : Nat) : ∀ (A : List AS), (∀ s ∈ A, s.i ≠ k) → ∀ a, putA (fun j => if j = k then some b else β j) A a = putA β A a
  | [], _, _ => rfl
  | s :: r, h, a => by
    have h1 := h s (List.mem_cons_self ..)
    simp only [putA, if_neg h1]
    exact putA_upd β k b r (fun s' hs' => h s' (List.mem_cons_of_mem _ hs')) _

/-- One allocation more is done. -/
theorem putA_more (β : Nat → Option Nat) (b : Nat) : ∀ (A : List AS) (s : AS), s ∈ A → A.Pairwise (fun x y => x.i ≠ y.i ∧ x.d ≠ y.d) → β s.i = none →
    ∀ a, putA (fun j => if j = s.i then some b else β j) A a = (putA β A a).put (some s.d) (ptrTo b)
  | [], s, h, _, _, _ => by cases h
  | x :: r, s, h, hp, hn, a => by
    rw [List.pairwise_cons] at hp
    rcases List.mem_cons.1 h with rfl | h
    · simp only [putA, if_true, hn]
      rw [putA_upd β s.i b r (fun y hy e => (hp.1 y hy).1 e.symm)]
      exact putA_put β r a (some s.d) (ptrTo b) (fun y hy e => (hp.1 y hy).2 (Option.some.inj e))
    · have hxs := hp.1 s h
      simp only [putA, if_neg hxs.1]
      exact putA_more β b r s h hp.2 hn _

/-- The same operation, with other slots filled that it does not look at. -/
theorem wpOp_slots {j : Nat} {oj : Oper} (hj : ops[j]? = some oj) (A : List AS) (β : Nat → Option Nat) (hA : ∀ s ∈ A, s.d ∉ oj.looksAt ops ∧ oj.dst ≠ some s.d)
    (hsj : ∀ cs b, oj.op ≠ .select cs b) (hQ : ∀ c a w, Q (.panic c) a w → Q (.panic c) (putA β A a) w) {K K' : Act → World → Prop} {a : Act} {w : World}
    (hK : ∀ a w, K a w → K' (putA β A a) w) (h : wpOp P ops Q j K a w) : wpOp P ops Q j K' (putA β A a) w := by
  have he : execOp (putA β A a).eval oj = execOp a.eval oj := execOp_congr oj hsj fun x hx => putA_eval β A a x fun s hs e => (hA s hs).1 (by
    subst e
    exact List.mem_append_left _ (List.mem_filterMap.2 ⟨.tmp s.d, by simpa using hx, rfl⟩))
  have hw : Region.wanted oj (yielded ops (putA β A a).tmps) = Region.wanted oj (yielded ops a.tmps) := by
    clear h hK hQ he
    induction A generalizing a with
    | nil => rfl
    | cons s r ih =>
      simp only [putA]
      rw [ih (fun s' hs' => hA s' (List.mem_cons_of_mem _ hs'))]
      cases β s.i with
      | none => rfl
      | some b => exact wanted_put oj a (some s.d) (ptrTo b) (fun d hd => by cases hd; exact (hA s (List.mem_cons_self ..)).1)
  have hput : ∀ (a : Act) (u : Value), putA β A (a.put oj.dst u) = (putA β A a).put oj.dst u := fun a u => putA_put β A a oj.dst u fun s hs => (hA s hs).2
  unfold wpOp at *
  simp only [hj] at *
  rw [hw]
  split
  · rename_i hwt
    simp only [hwt, if_true] at h
    rcases h with h | ⟨hasks, hlets⟩
    case inr => exact .inr ⟨by unfold Oper.asks at *; rw [he]; exact hasks, hlets⟩
    refine .inl ?_
    unfold Oper.wp at *
    rw [he]
    generalize (execOp a.eval oj).run P w = r at *
    cases r with
    | ok n w' =>
      cases n <;> simp only [Oper.upon] at h ⊢
      case value u => rw [← hput]; exact hK _ _ h
      case skip => rw [← hput]; exact hK _ _ h
      case defer d => rw [← putA_defer, ← hput]; exact hK _ _ h
      case enter f args =>
        refine Calls.mono h fun e w'' he => ?_
        cases e with
        | returned u => show K' _ _; rw [← hput]; exact hK _ _ he
        | panicked c => exact hQ _ _ _ he
        | outgrown => exact he
      case row row args => exact Rows.mono h fun u w'' he => by rw [← hput]; exact hK _ _ he
    | halt x w' =>
      cases x <;> simp only [Oper.upon] at h ⊢
      case panic u => exact hQ _ _ _ h
  · rename_i hwt
    simp only [hwt] at h
    rw [← hput]; exact hK _ _ h

variable {late : Nat → Bool}

def rdy (ops : Array Oper) (late : Nat → Bool) (listed : Array Bool) : List Nat := (Region.ready .any ops listed).filter fun i => !late i

/-- Whatever order is picked of those that are not late; ahead of each the world may have grown. E: what is asked when all of them are listed. -/
def wpAnyN (P : Program) (ops : Array Oper) (Q : Exit → Act → World → Prop) (late : Nat → Bool) (lEnd : Array Bool) (E : Act → World → Prop) : Nat → Array Bool → Act → World → Prop
  | 0, listed, a, w => rdy ops late listed = [] ∧ listed = lEnd ∧ E a w
  | n + 1, listed, a, w => (rdy ops late listed = [] → listed = lEnd ∧ E a w) ∧
    ∀ i ∈ rdy ops late listed, ∀ w1, Below w.heap.size w w1 → wpOp P ops Q i (fun a' w' => Below w1.heap.size w1 w' ∧ wpAnyN P ops Q late lEnd E n (listed.setIfInBounds i true) a' w') a w1

theorem below_step {a b c : World} (h : Below a.heap.size a b) (k : Below b.heap.size b c) : Below a.heap.size a c := h.trans (k.mono h.size)

theorem wpAnyN_ext {lEnd : Array Bool} {E : Act → World → Prop} (hE : ∀ a w w1, Below w.heap.size w w1 → E a w → E a w1) : ∀ (n : Nat) (listed : Array Bool) (a : Act) (w w1 : World), Below w.heap.size w w1 → wpAnyN P ops Q late lEnd E n listed a w → wpAnyN P ops Q late lEnd E n listed a w1
  | 0, _, _, _, _, hb, h => ⟨h.1, h.2.1, hE _ _ _ hb h.2.2⟩
  | n + 1, _, _, _, _, hb, h => ⟨fun h0 => ⟨(h.1 h0).1, hE _ _ _ hb (h.1 h0).2⟩, fun i hi w2 hb2 => h.2 i hi w2 (below_step hb hb2)⟩

theorem wpAny_more : ∀ (n m : Nat) (listed : Array Bool) (a : Act) (w : World), n ≤ m → wpAny P .any ops Q n listed a w → wpAny P .any ops Q m listed a w
  | 0, 0, _, _, _, _, h => h
  | 0, m + 1, listed, a, w, _, h => ⟨fun _ => h.2, fun i hi => by rw [h.1] at hi; cases hi⟩
  | n + 1, m + 1, listed, a, w, hle, h => ⟨h.1, fun i hi => wpOp_mono (fun a' w' h' => wpAny_more n m _ a' w' (by omega) h') (h.2 i hi)⟩

/-- When all of the first part are listed: whatever blocks the allocations have got. -/
def Slots (B : Nat) (K : Act → World → Prop) : List AS → List Nat → Act → World → Prop
  | [], _, a, w => K a w
  | s :: r, prev, a, w => ∀ b, B ≤ b → Has w b s.cs s.T → b ∉ prev → Slots B K r (b :: prev) (a.put (some s.d) (ptrTo b)) w

/-- What is known of the blocks that are laid. -/
structure Laid (B : Nat) (A : List AS) (β : Nat → Option Nat) (w : World) : Prop where
  has : ∀ s ∈ A, ∀ b, β s.i = some b → B ≤ b ∧ Has w b s.cs s.T
  ne : ∀ s ∈ A, ∀ s' ∈ A, s.i ≠ s'.i → ∀ b, β s.i = some b → β s'.i ≠ some b

theorem Laid.tail {B : Nat} {s : AS} {A : List AS} {β : Nat → Option Nat} {w : World} (h : Laid B (s :: A) β w) : Laid B A β w :=
  ⟨fun x hx => h.has x (List.mem_cons_of_mem _ hx), fun x hx y hy => h.ne x (List.mem_cons_of_mem _ hx) y (List.mem_cons_of_mem _ hy)⟩

theorem slots_out {B : Nat} {K : Act → World → Prop} {β : Nat → Option Nat} {w : World} : ∀ (A : List AS) (prev : List Nat) (a : Act), A.Pairwise (fun x y => x.i ≠ y.i ∧ x.d ≠ y.d) → Laid B A β w → (∀ s ∈ A, ∃ b, β s.i = some b) →
    (∀ s ∈ A, ∀ b, β s.i = some b → b ∉ prev) → Slots B K A prev a w → K (putA β A a) w
  | [], _, _, _, _, _, _, h => h
  | s :: r, prev, a, hp, hl, hd, hne, h => by
    rw [List.pairwise_cons] at hp
    obtain ⟨b, hb⟩ := hd s (List.mem_cons_self ..)
    have h1 := hl.has s (List.mem_cons_self ..) b hb
    simp only [putA, hb]
    refine slots_out r (b :: prev) _ hp.2 hl.tail (fun x hx => hd x (List.mem_cons_of_mem _ hx)) (fun x hx c hc hm => ?_) (h b h1.1 h1.2 (hne s (List.mem_cons_self ..) b hb))
    rcases List.mem_cons.1 hm with rfl | hm
    · exact hl.ne s (List.mem_cons_self ..) x (List.mem_cons_of_mem _ hx) (hp.1 x hx).1 c hb hc
    · exact hne x (List.mem_cons_of_mem _ hx) c hc hm

/-- The checks: 'A' are allocations that wait for nobody and that nobody of the first part looks at; the late ones wait for all others. -/
def noiseB (ops : Array Oper) (A : List AS) (late : Nat → Bool) : Bool :=
  Region.noSelect ops &&
  A.all (fun s => match ops[s.i]? with | some o => o.after.all (fun e => !Region.binds .any e) && (o.dst == some s.d) && o.guard.isNone && !late s.i | none => false) &&
  (List.range ops.size).all (fun j => match ops[j]? with
    | some o => late j || A.any (fun s => s.i == j) || A.all (fun s => !(o.looksAt ops).contains s.d && (o.dst != some s.d) && o.after.all (fun e => !Region.binds .any e || e.on != s.i))
    | none => false) &&
  (List.range ops.size).all (fun j => !late j || (List.range ops.size).all (fun i => late i || reach .any ops 2 j i))

structure Noise (ops : Array Oper) (A : List AS) (late : Nat → Bool) : Prop where
  sel : ∀ (j : Nat) (o : Oper) cs b, ops[j]? = some o → o.op ≠ .select cs b
  al : ∀ s ∈ A, ∃ o, ops[s.i]? = some o ∧ (∀ e ∈ o.after, Region.binds .any e = false) ∧ o.dst = some s.d ∧ o.guard = none ∧ late s.i = false
  free : ∀ j o, ops[j]? = some o → late j = false → (∀ s ∈ A, s.i ≠ j) → ∀ s ∈ A, s.d ∉ o.looksAt ops ∧ o.dst ≠ some s.d ∧ ∀ e ∈ o.after, Region.binds .any e = true → e.on ≠ s.i
  last : ∀ j, j < ops.size → late j = true → ∀ i, i < ops.size → late i = false → reach .any ops 2 j i = true

theorem noise_spec {A : List AS} (h : noiseB ops A late = true) : Noise ops A late := by
  simp only [noiseB, Bool.and_eq_true] at h
  obtain ⟨⟨⟨h1, h2⟩, h3⟩, h4⟩ := h
  refine ⟨Region.noSelect_spec h1, fun s hs => ?_, fun j o ho hl hn s hs => ?_, fun j hj hl i hi hli => ?_⟩
  · have := List.all_eq_true.1 h2 s hs
    cases ho : ops[s.i]? with
    | none => simp [ho] at this
    | some o =>
      simp only [ho, Bool.and_eq_true, beq_iff_eq, Option.isNone_iff_eq_none, Bool.not_eq_true'] at this
      obtain ⟨⟨⟨k1, k2⟩, k3⟩, k4⟩ := this
      exact ⟨o, rfl, fun e he => by simpa using Array.all_eq_true_iff_forall_mem.1 k1 e he, k2, k3, k4⟩
  · have hj := (Array.getElem?_eq_some_iff.1 ho).1
    have := List.all_eq_true.1 h3 j (List.mem_range.2 hj)
    simp only [ho, hl, Bool.false_or, Bool.or_eq_true] at this
    rcases this with this | this
    · obtain ⟨x, hx, he⟩ := List.any_eq_true.1 this
      exact absurd (by simpa using he) (hn x hx)
    · have := List.all_eq_true.1 this s hs
      simp only [Bool.and_eq_true, Bool.not_eq_true', bne_iff_ne] at this
      obtain ⟨⟨k1, k2⟩, k3⟩ := this
      refine ⟨by simpa using k1, k2, fun e he hb => ?_⟩
      have := Array.all_eq_true_iff_forall_mem.1 k3 e he
      simpa [hb] using this
  · have := List.all_eq_true.1 h4 j (List.mem_range.2 hj)
    simp only [hl, Bool.not_true, Bool.false_or] at this
    have := List.all_eq_true.1 this i (List.mem_range.2 hi)
    simpa [hli] using this

/-- How the real state stands to the walked one. -/
structure Rel (ops : Array Oper) (A : List AS) (B : Nat) (β : Nat → Option Nat) (lR lN : Array Bool) (wN wR : World) : Prop where
  sz : lR.size = ops.size ∧ lN.size = ops.size
  same : ∀ k, (∀ s ∈ A, s.i ≠ k) → lR[k]? = lN[k]?
  inN : ∀ s ∈ A, lN[s.i]? = some true
  inR : ∀ s ∈ A, lR[s.i]? = some (β s.i).isSome
  laid : Laid B A β wR
  grew : Below wN.heap.size wN wR
  base : B ≤ wN.heap.size

def left (β : Nat → Option Nat) (A : List AS) : Nat := (A.filter fun s => (β s.i).isNone).length

theorem left_upd {β : Nat → Option Nat} {b : Nat} : ∀ (A : List AS) (s : AS), s ∈ A → A.Pairwise (fun x y => x.i ≠ y.i ∧ x.d ≠ y.d) → β s.i = none → left β A = left (fun j => if j = s.i then some b else β j) A + 1
  | [], s, h, _, _ => by cases h
  | x :: r, s, h, hp, hn => by
    rw [List.pairwise_cons] at hp
    have same : ∀ (l : List AS), (∀ y ∈ l, y.i ≠ s.i) → left β l = left (fun j => if j = s.i then some b else β j) l := by
      intro l hl
      unfold left
      congr 1
      apply List.filter_congr
      intro y hy
      simp only [if_neg (hl y hy)]
    rcases List.mem_cons.1 h with rfl | h
    · have := same r (fun y hy e => (hp.1 y hy).1 e.symm)
      unfold left at this ⊢
      simp [hn, this]
    · have ih := left_upd (b := b) r s h hp.2 hn
      have hx := (hp.1 s h).1
      unfold left at ih ⊢
      simp only [List.filter_cons, if_neg hx] at ih ⊢
      split
      · simp only [List.length_cons]; omega
      · exact ih

theorem has_ext {W w1 : World} {b : Nat} {cs : Array Value} {T : TypeId} (hb : Below W.heap.size W w1) (h : Has W b cs T) : Has w1 b cs T := has_below hb h

theorem all_done {β : Nat → Option Nat} {A : List AS} (h : left β A = 0) : ∀ s ∈ A, ∃ b, β s.i = some b := by
  intro s hs
  unfold left at h
  cases hb : β s.i with
  | some b => exact ⟨b, rfl⟩
  | none =>
    have : s ∈ A.filter fun s => (β s.i).isNone := List.mem_filter.2 ⟨hs, by simp [hb]⟩
    rw [List.eq_nil_of_length_eq_zero h] at this
    cases this

theorem not_done {β : Nat → Option Nat} {A : List AS} (h : left β A ≠ 0) : ∃ s ∈ A, β s.i = none := by
  unfold left at h
  cases hl : A.filter fun s => (β s.i).isNone with
  | nil => rw [hl] at h; exact absurd rfl h
  | cons s r =>
    have : s ∈ A.filter fun s => (β s.i).isNone := by rw [hl]; exact List.mem_cons_self ..
    obtain ⟨h1, h2⟩ := List.mem_filter.1 this
    exact ⟨s, h1, by simpa using h2⟩

/-- EVERY ORDER, OUT OF THE ORDERS WITHOUT THE ALLOCATIONS. -/
theorem wpAny_of_N {A : List AS} {B LF : Nat} {lEnd : Array Bool} {K : Act → World → Prop} (hN : Noise ops A late) (hp : A.Pairwise (fun x y => x.i ≠ y.i ∧ x.d ≠ y.d))
    (hal : ∀ s ∈ A, ∀ o, ops[s.i]? = some o → ∀ (a : Act) (w : World), (execOp a.eval o).run P w = .ok (.value (ptrTo w.heap.size)) (w.alloc (.cells s.cs s.T)))
    (hQ : ∀ c a d v w, Q (.panic c) a w → Q (.panic c) (a.put d v) w)
    (hK : ∀ a w, K a w → wpAny P .any ops Q LF lEnd a w) :
    ∀ (t n : Nat) (β : Nat → Option Nat) (lR lN : Array Bool) (a : Act) (wN wR : World), n + left β A = t → Closed .any ops lR → Rel ops A B β lR lN wN wR →
      wpAnyN P ops Q late lEnd (fun a w => ∀ w1, Below w.heap.size w w1 → Slots B K A [] a w1) n lN a wN → wpAny P .any ops Q (t + LF) lR (putA β A a) wR := by
  have hQA : ∀ (β : Nat → Option Nat) (A : List AS) c a w, Q (.panic c) a w → Q (.panic c) (putA β A a) w := by
    intro β A
    induction A with
    | nil => exact fun c a w h => h
    | cons s r ih =>
      intro c a w h
      simp only [putA]
      apply ih
      cases β s.i with
      | none => exact h
      | some b => exact hQ _ _ _ _ _ h
  -- all is listed that is not late
  have fin : ∀ (t n : Nat) (β : Nat → Option Nat) (lR lN : Array Bool) (a : Act) (wN wR : World), Rel ops A B β lR lN wN wR → left β A = 0 → rdy ops late lN = [] →
      wpAnyN P ops Q late lEnd (fun a w => ∀ w1, Below w.heap.size w w1 → Slots B K A [] a w1) n lN a wN → wpAny P .any ops Q (t + LF) lR (putA β A a) wR := by
    intro t n β lR lN a wN wR hrel h0 hr H
    have hd := all_done h0
    have hE : lN = lEnd ∧ ∀ w1, Below wN.heap.size wN w1 → Slots B K A [] a w1 := by
      cases n with
      | zero => exact H.2
      | succ n => exact H.1 hr
    have hl : lR = lEnd := by
      rw [← hE.1]
      apply Array.ext_getElem?
      intro k
      by_cases hk : ∃ s ∈ A, s.i = k
      · obtain ⟨s, hs, rfl⟩ := hk
        obtain ⟨b, hb⟩ := hd s hs
        rw [hrel.inN s hs, hrel.inR s hs, hb]; rfl
      · exact hrel.same k fun s hs e => hk ⟨s, hs, e⟩
    rw [hl]
    exact wpAny_more LF _ _ _ _ (by omega) (hK _ _ (slots_out A [] a hp hrel.laid hd (fun _ _ _ _ h => by cases h) (hE.2 wR hrel.grew)))
  intro t
  induction t with
  | zero =>
    intro n β lR lN a wN wR ht hcl hrel H
    obtain rfl : n = 0 := by omega
    exact fin 0 0 β lR lN a wN wR hrel (by omega) H.1 H
  | succ t ih =>
    intro n β lR lN a wN wR ht hcl hrel H
    by_cases hdone : left β A = 0 ∧ rdy ops late lN = []
    · exact fin (t + 1) n β lR lN a wN wR hrel hdone.1 hdone.2 H
    · rw [show t + 1 + LF = (t + LF) + 1 by omega]
      have szR := hrel.sz.1
      have szN := hrel.sz.2
      have toR : ∀ i, i ∈ rdy ops late lN → (∀ s ∈ A, s.i ≠ i) ∧ i ∈ Region.ready .any ops lR := by
        intro i hi
        obtain ⟨hi, hl⟩ := List.mem_filter.1 hi
        obtain ⟨h1, o, ho, h2⟩ := mem_ready.1 hi
        have hA : ∀ s ∈ A, s.i ≠ i := fun s hs e => by
          subst e
          simp [hrel.inN s hs] at h1
        refine ⟨hA, mem_ready.2 ⟨by rw [Array.getD_eq_getD_getElem?, hrel.same i hA, ← Array.getD_eq_getD_getElem?]; exact h1, o, ho, fun e he hb => ?_⟩⟩
        have hn := fun s hs => (hN.free i o ho (by simpa using hl) hA s hs).2.2 e he hb
        rw [Array.getD_eq_getD_getElem?, hrel.same e.on (fun s hs he => hn s hs he.symm), ← Array.getD_eq_getD_getElem?]
        exact h2 e he hb
      have alR : ∀ s ∈ A, β s.i = none → s.i ∈ Region.ready .any ops lR := by
        intro s hs hb
        obtain ⟨o, ho, h1, h2, h3, h4⟩ := hN.al s hs
        refine mem_ready.2 ⟨?_, o, ho, fun e he hbd => by rw [h1 e he] at hbd; cases hbd⟩
        rw [Array.getD_eq_getD_getElem?, hrel.inR s hs, hb]; rfl
      refine ⟨fun h0 => ?_, fun i hi => ?_⟩
      · exfalso
        apply hdone
        refine ⟨?_, ?_⟩
        · rcases Nat.eq_zero_or_pos (left β A) with h | h
          · exact h
          · obtain ⟨s, hs, hb⟩ := not_done (β := β) (A := A) (by omega)
            have := alR s hs hb
            rw [h0] at this; cases this
        · cases hr : rdy ops late lN with
          | nil => rfl
          | cons i r =>
            have := (toR i (by rw [hr]; exact List.mem_cons_self ..)).2
            rw [h0] at this; cases this
      · have hcl' := hcl.set hi
        obtain ⟨hiun, oi, hoi, hall⟩ := mem_ready.1 hi
        have hilt := (Array.getElem?_eq_some_iff.1 hoi).1
        by_cases hiA : ∃ s ∈ A, s.i = i
        · -- an allocation
          obtain ⟨s, hs, rfl⟩ := hiA
          have hb : β s.i = none := by
            rw [Array.getD_eq_getD_getElem?, hrel.inR s hs] at hiun
            cases h : β s.i with
            | none => rfl
            | some b => rw [h] at hiun; simp at hiun
          obtain ⟨o, ho, h1, h2, h3, h4⟩ := hN.al s hs
          have hL := left_upd (b := wR.heap.size) A s hs hp hb
          unfold wpOp
          simp only [ho, Region.wanted, h3, if_true, Oper.wp, hal s hs o ho, Oper.upon]
          refine .inl ?_
          rw [h2, ← putA_more β wR.heap.size A s hs hp hb]
          refine ih n (fun j => if j = s.i then some wR.heap.size else β j) _ lN a wN _ (by omega) hcl' ?_ H
          refine ⟨⟨by simp [szR], szN⟩, fun k hk => ?_, hrel.inN, fun x hx => ?_, ⟨fun x hx b hbx => ?_, fun x hx y hy hne b hbx => ?_⟩, hrel.grew.alloc hrel.grew.size _, hrel.base⟩
          · rw [Array.getElem?_setIfInBounds_ne (hk s hs)]; exact hrel.same k hk
          · by_cases e : x.i = s.i
            · rw [e]; simp [szR, hilt]
            · rw [Array.getElem?_setIfInBounds_ne (Ne.symm e), hrel.inR x hx, if_neg e]
          · by_cases e : x.i = s.i
            · simp only [e, if_true] at hbx
              obtain rfl := Option.some.inj hbx
              have : x = s := by
                by_cases hxs : x = s
                · exact hxs
                · exfalso
                  exact (List.Pairwise.forall_of_forall_of_flip (R := fun x y : AS => x = y ∨ x.i ≠ y.i) (fun a _ => .inl rfl) (hp.imp fun h => .inr h.1) (hp.imp fun h => .inr (Ne.symm h.1)) hx hs).elim hxs (fun h => h e)
              subst this
              exact ⟨Nat.le_trans hrel.base hrel.grew.size, has_new rfl⟩
            · simp only [if_neg e] at hbx
              have := hrel.laid.has x hx b hbx
              exact ⟨this.1, has_alloc this.2⟩
          · by_cases e : x.i = s.i
            · simp only [e, if_true] at hbx
              obtain rfl := Option.some.inj hbx
              rw [if_neg (fun h => hne (e.trans h.symm))]
              intro hy2
              have := (hrel.laid.has y hy _ hy2).2.lt
              omega
            · simp only [if_neg e] at hbx
              by_cases e' : y.i = s.i
              · simp only [e', if_true]
                intro h
                have h' := Option.some.inj h
                have := (hrel.laid.has x hx b hbx).2.lt
                omega
              · simp only [if_neg e']
                exact hrel.laid.ne x hx y hy hne b hbx
        · have hA : ∀ s ∈ A, s.i ≠ i := fun s hs e => hiA ⟨s, hs, e⟩
          cases hl : late i with
          | true =>
            exfalso
            apply hdone
            have hAll : ∀ j, j < ops.size → late j = false → lR.getD j false = true := fun j hj hlj => ready_reach hcl hi (hN.last i hilt hl j hj hlj)
            refine ⟨?_, ?_⟩
            · rcases Nat.eq_zero_or_pos (left β A) with h | h
              · exact h
              · obtain ⟨s, hs, hb⟩ := not_done (β := β) (A := A) (by omega)
                obtain ⟨o, ho, _, _, _, h4⟩ := hN.al s hs
                have := hAll s.i (Array.getElem?_eq_some_iff.1 ho).1 h4
                rw [Array.getD_eq_getD_getElem?, hrel.inR s hs, hb] at this
                cases this
            · cases hr : rdy ops late lN with
              | nil => rfl
              | cons j r =>
                have hj := (toR j (by rw [hr]; exact List.mem_cons_self ..)).2
                obtain ⟨hjl, hjlate⟩ := List.mem_filter.1 (show j ∈ rdy ops late lN by rw [hr]; exact List.mem_cons_self ..)
                obtain ⟨hjun, oj, hoj, _⟩ := mem_ready.1 hj
                have hjs := (Array.getElem?_eq_some_iff.1 hoj).1
                have := hAll j hjs (by simpa using hjlate)
                rw [Array.getD_eq_getD_getElem?, Array.getElem?_eq_getElem (by omega)] at this hjun
                simp only [Option.getD_some] at this hjun
                rw [this] at hjun; cases hjun
          | false =>
            have hiN : i ∈ rdy ops late lN := by
              refine List.mem_filter.2 ⟨mem_ready.2 ⟨by rw [Array.getD_eq_getD_getElem?, ← hrel.same i hA, ← Array.getD_eq_getD_getElem?]; exact hiun, oi, hoi, fun e he hb => ?_⟩, by simp [hl]⟩
              have := hall e he hb
              rw [Array.getD_eq_getD_getElem?] at this ⊢
              by_cases hk : ∃ s ∈ A, s.i = e.on
              · obtain ⟨s, hs, hse⟩ := hk
                rw [← hse, hrel.inN s hs]; rfl
              · rw [← hrel.same e.on (fun s hs h => hk ⟨s, hs, h⟩)]; exact this
            cases n with
            | zero => rw [H.1] at hiN; cases hiN
            | succ n =>
              have h1 := H.2 i hiN wR hrel.grew
              have hfr := hN.free i oi hoi hl hA
              refine wpOp_slots hoi A β (fun s hs => ⟨(hfr s hs).1, (hfr s hs).2.1⟩) (fun cs b => hN.sel i oi cs b hoi) (fun c a w h => hQA β A c a w h) ?_ h1
              rintro a' w' ⟨hb', H'⟩
              refine ih n β _ (lN.setIfInBounds i true) a' w' w' (by omega) hcl' ?_ H'
              refine ⟨⟨by simp [szR], by simp [szN]⟩, fun k hk => ?_, fun s hs => ?_, fun s hs => ?_, ⟨fun s hs b hb => ⟨(hrel.laid.has s hs b hb).1, has_below hb' (hrel.laid.has s hs b hb).2⟩, hrel.laid.ne⟩, Below.refl _ _, Nat.le_trans hrel.base (Nat.le_trans hrel.grew.size hb'.size)⟩
              · simp only [Array.getElem?_setIfInBounds, hrel.same k hk, szR, szN]
              · rw [Array.getElem?_setIfInBounds_ne (Ne.symm (hA s hs))]; exact hrel.inN s hs
              · rw [Array.getElem?_setIfInBounds_ne (Ne.symm (hA s hs))]; exact hrel.inR s hs

/-! ### One order of what reads and what makes memory -/
theorem wpAnyN_first {S : World → Prop} {lEnd : Array Bool} {E : Act → World → Prop} (hE : ∀ a w w1, Below w.heap.size w w1 → E a w → E a w1) (hSx : ∀ w w1, Below w.heap.size w w1 → S w → S w1) {i : Nat} {oi : Oper} {v : Value} (hi : ops[i]? = some oi) (hsel : ∀ (j : Nat) (o : Oper) cs b, ops[j]? = some o → o.op ≠ .select cs b)
    (hQ : ∀ c a w, Q (.panic c) (a.put oi.dst v) w → Q (.panic c) a w) :
    ∀ (fuel : Nat) (listed : Array Bool) (a : Act) (w : World),
      (∀ j oj, ops[j]? = some oj → j ≠ i → listed.getD j true = false → (∀ e ∈ oj.after, Region.binds .any e = true → e.on ≠ i) → oi.apart ops oj = true) →
      i ∈ rdy ops late listed → YieldsIf P ops S oi v a → S w →
      wpAnyN P ops Q late lEnd E fuel (listed.setIfInBounds i true) (a.put oi.dst v) w → wpAnyN P ops Q late lEnd E (fuel + 1) listed a w := by
  have mono : ∀ {j : Nat} {listed : Array Bool}, j ∈ rdy ops late listed → j ≠ i → j ∈ rdy ops late (listed.setIfInBounds i true) := fun hj hne =>
    List.mem_filter.2 ⟨ready_mono (List.mem_filter.1 hj).1 hne, (List.mem_filter.1 hj).2⟩
  intro fuel
  induction fuel with
  | zero =>
    intro listed a w _ hr hy hS H
    refine ⟨fun h => (by rw [h] at hr; cases hr), fun j hj w1 hb1 => ?_⟩
    by_cases hji : j = i
    · subst hji; exact hy.wpOp hi (hSx _ _ hb1 hS) ⟨Below.refl _ _, wpAnyN_ext hE _ _ _ _ _ hb1 H⟩
    · have := mono hj hji
      rw [H.1] at this
      cases this
  | succ fuel ih =>
    intro listed a w hfree hr hy hS H
    refine ⟨fun h => (by rw [h] at hr; cases hr), fun j hj w1 hb1 => ?_⟩
    by_cases hji : j = i
    · subst hji; exact hy.wpOp hi (hSx _ _ hb1 hS) ⟨Below.refl _ _, wpAnyN_ext hE _ _ _ _ _ hb1 H⟩
    · have h1 := H.2 j (mono hj hji) w1 hb1
      obtain ⟨hjun, oj, hoj, hall⟩ := mem_ready.1 (List.mem_filter.1 hj).1
      have hri := (List.mem_filter.1 hr).1
      have hnot : ∀ e ∈ oj.after, Region.binds .any e = true → e.on ≠ i := fun e he hb heq => by
        have h1 := hall e he hb
        have h0 := (mem_ready.1 hri).1
        rw [heq] at h1
        rcases Nat.lt_or_ge i listed.size with h' | h'
        · simp [h'] at h0 h1; rw [h0] at h1; cases h1
        · simp [Array.getElem?_eq_none h'] at h1
      have h2 := wpOp_putIf hoj (hfree j oj hoj hji hjun hnot) (fun cs b => hsel i oi cs b hi) (fun cs b => hsel j oj cs b hoj) hQ hy h1
      have hfree' : ∀ k ok, ops[k]? = some ok → k ≠ i → (listed.setIfInBounds j true).getD k true = false →
          (∀ e ∈ ok.after, Region.binds .any e = true → e.on ≠ i) → oi.apart ops ok = true := fun k ok hk hki hun hno => by
        refine hfree k ok hk hki ?_ hno
        by_cases hjk : j = k
        · subst hjk; exact hjun
        · rw [getD_set_ne true hjk] at hun; exact hun
      refine wpOp_mono (fun a' w' h3 => ⟨h3.2.1, ih (listed.setIfInBounds j true) a' w' hfree' (List.mem_filter.2 ⟨ready_mono hri (Ne.symm hji), (List.mem_filter.1 hr).2⟩) h3.1 (hSx _ _ h3.2.1 (hSx _ _ hb1 hS)) ?_⟩) h2
      rw [Array.setIfInBounds_comm _ _ hji]
      exact h3.2.2

/-- THE WALK IN ONE ORDER: 0: it only reads; else it makes memory, and the world may have grown ahead of it. -/
def wpGN (P : Program) (ops : Array Oper) (Q : Exit → Act → World → Prop) (S : World → Prop) (E : Act → World → Prop) : List (Nat × Nat) → Act → World → Prop
  | [], a, w => E a w
  | (i, 0) :: rest, a, w => ∃ oi v, ops[i]? = some oi ∧ YieldsIf P ops S oi v a ∧ wpGN P ops Q S E rest (a.put oi.dst v) w
  | (i, _ + 1) :: rest, a, w => ∀ w1, Below w.heap.size w w1 → wpOp P ops Q i (fun a' w' => Below w1.heap.size w1 w' ∧ wpGN P ops Q S E rest a' w') a w1

def endOf : List (Nat × Nat) → Array Bool → Array Bool
  | [], listed => listed
  | (i, _) :: rest, listed => endOf rest (listed.setIfInBounds i true)

def ordNB (ops : Array Oper) (late : Nat → Bool) : List (Nat × Nat) → Array Bool → Bool
  | [], listed => (rdy ops late listed).isEmpty
  | (i, 0) :: rest, listed => (rdy ops late listed).contains i && Region.free .any ops listed i && ordNB ops late rest (listed.setIfInBounds i true)
  | (i, _ + 1) :: rest, listed => (rdy ops late listed == [i]) && ordNB ops late rest (listed.setIfInBounds i true)

theorem wpAnyN_of_GN {S : World → Prop} {E : Act → World → Prop} (hE : ∀ a w w1, Below w.heap.size w w1 → E a w → E a w1) (hSx : ∀ w w1, Below w.heap.size w w1 → S w → S w1) (hsel : Region.noSelect ops = true)
    (hQ : ∀ c a d v w, Q (.panic c) (a.put d v) w → Q (.panic c) a w) :
    ∀ (ord : List (Nat × Nat)) (listed : Array Bool) (a : Act) (w : World), S w → ordNB ops late ord listed = true → wpGN P ops Q S E ord a w → wpAnyN P ops Q late (endOf ord listed) E ord.length listed a w
  | [], listed, a, w, _, hB, h => ⟨by simpa [ordNB] using hB, rfl, h⟩
  | (i, 0) :: rest, listed, a, w, hS, hB, h => by
    obtain ⟨oi, v, hi, hy, hr⟩ := h
    simp only [ordNB, Bool.and_eq_true] at hB
    obtain ⟨⟨h1, h2⟩, h3⟩ := hB
    exact wpAnyN_first hE hSx hi (Region.noSelect_spec hsel) (fun c a w => hQ c a _ _ w) rest.length listed a w (Region.free_spec hi h2) (by simpa using h1) hy hS (wpAnyN_of_GN hE hSx hsel hQ rest _ _ _ hS h3 hr)
  | (i, _ + 1) :: rest, listed, a, w, hS, hB, h => by
    simp only [ordNB, Bool.and_eq_true, beq_iff_eq] at hB
    obtain ⟨h1, h2⟩ := hB
    refine ⟨fun h0 => (by rw [h1] at h0; cases h0), fun j hj w1 hb1 => ?_⟩
    rw [h1] at hj
    obtain rfl : j = i := by simpa using hj
    exact wpOp_mono (fun a' w' h' => ⟨h'.1, wpAnyN_of_GN hE hSx hsel hQ rest _ a' w' (hSx _ _ h'.1 (hSx _ _ hb1 hS)) h2 h'.2⟩) (h w1 hb1)

/-- The late ones, one by one. -/
def wpL (P : Program) (ops : Array Oper) (Q : Exit → Act → World → Prop) : List Nat → Act → World → Prop
  | [], a, w => Q .normal a w
  | i :: rest, a, w => wpOp P ops Q i (fun a' w' => wpL P ops Q rest a' w') a w

def lateB (ops : Array Oper) : List Nat → Array Bool → Bool
  | [], listed => (Region.ready .any ops listed).isEmpty
  | i :: rest, listed => (Region.ready .any ops listed == [i]) && lateB ops rest (listed.setIfInBounds i true)

theorem wpAny_of_L : ∀ (l : List Nat) (listed : Array Bool) (a : Act) (w : World), lateB ops l listed = true → wpL P ops Q l a w → wpAny P .any ops Q l.length listed a w
  | [], listed, a, w, hB, h => ⟨by simpa [lateB] using hB, h⟩
  | i :: rest, listed, a, w, hB, h => by
    simp only [lateB, Bool.and_eq_true, beq_iff_eq] at hB
    refine ⟨fun h0 => (by rw [hB.1] at h0; cases h0), fun j hj => ?_⟩
    rw [hB.1] at hj
    obtain rfl : j = i := by simpa using hj
    exact wpOp_mono (fun a' w' h' => wpAny_of_L rest _ a' w' hB.2 h') h

def listA : List AS → Array Bool → Array Bool
  | [], l => l
  | s :: r, l => listA r (l.setIfInBounds s.i true)

def lateL (lates : List Nat) (j : Nat) : Bool := lates.contains j
def pairB : List AS → Bool
  | [] => true
  | s :: r => r.all (fun x => (s.i != x.i) && (s.d != x.d)) && pairB r
theorem pair_spec : ∀ (A : List AS), pairB A = true → A.Pairwise (fun x y => x.i ≠ y.i ∧ x.d ≠ y.d)
  | [], _ => List.Pairwise.nil
  | s :: r, h => by
    simp only [pairB, Bool.and_eq_true, List.all_eq_true, bne_iff_ne] at h
    exact List.Pairwise.cons (fun x hx => h.1 x hx) (pair_spec r h.2)
def noisyB (ops : Array Oper) (ord : List (Nat × Nat)) (A : List AS) (lates : List Nat) : Bool :=
  noiseB ops A (lateL lates) && pairB A && decide (ord.length + A.length + lates.length = ops.size) && ordNB ops (lateL lates) ord (listA A (Array.replicate ops.size false)) && lateB ops lates (endOf ord (listA A (Array.replicate ops.size false)))

theorem listA_size : ∀ (A : List AS) (l : Array Bool), (listA A l).size = l.size
  | [], _ => rfl
  | s :: r, l => by simp [listA, listA_size r]
theorem listA_other : ∀ (A : List AS) (l : Array Bool) (k : Nat), (∀ s ∈ A, s.i ≠ k) → (listA A l)[k]? = l[k]?
  | [], _, _, _ => rfl
  | s :: r, l, k, h => by
    simp only [listA]
    rw [listA_other r _ k (fun x hx => h x (List.mem_cons_of_mem _ hx)), Array.getElem?_setIfInBounds_ne (h s (List.mem_cons_self ..))]
theorem listA_keep : ∀ (A : List AS) (l : Array Bool) (k : Nat), l[k]? = some true → (listA A l)[k]? = some true
  | [], _, _, h => h
  | s :: r, l, k, h => by
    simp only [listA]
    refine listA_keep r _ k ?_
    by_cases e : s.i = k
    · subst e
      have := (Array.getElem?_eq_some_iff.1 h).1
      simp [this]
    · rw [Array.getElem?_setIfInBounds_ne e]; exact h
theorem listA_in : ∀ (A : List AS) (l : Array Bool) (s : AS), s ∈ A → s.i < l.size → (listA A l)[s.i]? = some true
  | [], _, _, h, _ => by cases h
  | x :: r, l, s, h, hl => by
    simp only [listA]
    rcases List.mem_cons.1 h with rfl | h
    · exact listA_keep r _ _ (by simp [hl])
    · exact listA_in r _ s h (by simpa using hl)

/-- All orders. -/
theorem wpAny_noise {a : Act} {w : World} {l : List Oper} (ord : List (Nat × Nat)) (A : List AS) (lates : List Nat) (hB : noisyB l.toArray ord A lates = true)
    (hal : ∀ s ∈ A, ∀ o, l.toArray[s.i]? = some o → ∀ (a : Act) (w : World), (execOp a.eval o).run P w = .ok (.value (ptrTo w.heap.size)) (w.alloc (.cells s.cs s.T)))
    (hQ : ∀ c a d v w, Q (.panic c) (a.put d v) w ↔ Q (.panic c) a w)
    (h : Below w.drew.heap.size w.drew w.drew → wpGN P l.toArray Q (Below w.drew.heap.size w.drew) (fun a w1 => ∀ w2, Below w1.heap.size w1 w2 → Slots w.drew.heap.size (wpL P l.toArray Q lates) A [] a w2) ord a w.drew) : wpAny P .any l.toArray Q l.toArray.size (Array.replicate l.toArray.size false) a w.drew := by
  have h := h (Below.refl _ _)
  simp only [noisyB, Bool.and_eq_true, decide_eq_true_eq] at hB
  obtain ⟨⟨⟨⟨h1, h2⟩, h3⟩, h4⟩, h5⟩ := hB
  have hN := noise_spec h1
  have hsel : Region.noSelect l.toArray = true := by
    simp only [noiseB, Bool.and_eq_true] at h1
    exact h1.1.1.1
  have hW := wpAnyN_of_GN (late := lateL lates) (E := fun a w1 => ∀ w2, Below w1.heap.size w1 w2 → Slots w.drew.heap.size (wpL P l.toArray Q lates) A [] a w2)
    (fun a x y hb hx z hz => hx z (below_step hb hz)) (fun x y hb hx => hx.trans (hb.mono hx.size)) hsel (fun c a d v w => (hQ c a d v w).1) ord _ a w.drew (Below.refl _ _) h4 h
  have e0 : ∀ A : List AS, left (fun _ => none) A = A.length := fun A => by unfold left; simp
  have eA : ∀ (A : List AS) (a : Act), putA (fun _ => none) A a = a := by
    intro A
    induction A with
    | nil => exact fun _ => rfl
    | cons s r ih => exact fun a => ih a
  have := wpAny_of_N (P := P) (Q := Q) (B := w.drew.heap.size) (LF := lates.length) (K := wpL P l.toArray Q lates) hN (pair_spec A h2) hal (fun c a d v w => (hQ c a d v w).2) (fun a w hk => wpAny_of_L lates _ a w h5 hk)
    (ord.length + A.length) ord.length (fun _ => none) (Array.replicate l.toArray.size false) (listA A (Array.replicate l.toArray.size false)) a w.drew w.drew (by rw [e0]) (fun j oj _ hl => (by rw [getD_replicate_false] at hl; cases hl))
    ⟨⟨by simp, by simp [listA_size]⟩, fun k hk => (listA_other A _ k hk).symm, fun s hs => by
      obtain ⟨o, ho, _⟩ := hN.al s hs
      exact listA_in A _ s hs (by simpa using (Array.getElem?_eq_some_iff.1 ho).1), fun s hs => by
      obtain ⟨o, ho, _⟩ := hN.al s hs
      have := (Array.getElem?_eq_some_iff.1 ho).1
      simp only [List.size_toArray] at this
      simp [this], ⟨fun _ _ _ h => (by cases h), fun _ _ _ _ _ _ h => (by cases h)⟩, Below.refl _ _, Nat.le_refl _⟩ hW
  rw [eA, h3] at this
  exact this

/-- THE BEGINNING. -/
theorem region_noise {id : Nat} {a : Act} {w : World} {l : List Oper} (ord : List (Nat × Nat)) (A : List AS) (lates : List Nat) (hm : P.follows .mixedOrders = true) (hB : noisyB l.toArray ord A lates = true)
    (hal : ∀ s ∈ A, ∀ o, l.toArray[s.i]? = some o → ∀ (a : Act) (w : World), (execOp a.eval o).run P w = .ok (.value (ptrTo w.heap.size)) (w.alloc (.cells s.cs s.T)))
    (hQ : ∀ c a d v w, Q (.panic c) (a.put d v) w ↔ Q (.panic c) a w)
    (h : Below w.drew.heap.size w.drew w.drew → wpGN P l.toArray Q (Below w.drew.heap.size w.drew) (fun a w1 => ∀ w2, Below w1.heap.size w1 w2 → Slots w.drew.heap.size (wpL P l.toArray Q lates) A [] a w2) ord a w.drew) : (Code.region id l.toArray true).wp P Q a w := wp_region_any hm (wpAny_noise ord A lates hB hal hQ h)

theorem wpGN_nil {S : World → Prop} {E : Act → World → Prop} {a : Act} {w : World} (h : E a w) : wpGN P ops Q S E [] a w := h
/-- What only reads. -/
theorem wpGN_read {S : World → Prop} {E : Act → World → Prop} {i : Nat} {d : Option Tmp} {o : Op} {ty : TypeId} {po : String} {af : Array Edge} {g : Option (Nat × Bool)} {v : Value} {rest : List (Nat × Nat)} {a : Act} {w : World} (hi : ops[i]? = some ⟨d, o, ty, po, af, g⟩) (hy : YieldsIf P ops S ⟨d, o, ty, po, af, g⟩ v a) (h : wpGN P ops Q S E rest (a.put d v) w) : wpGN P ops Q S E ((i, 0) :: rest) a w := ⟨_, v, hi, hy, h⟩
/-- What its guard passes over. -/
theorem wpGN_pass {S : World → Prop} {E : Act → World → Prop} {i : Nat} {d : Option Tmp} {o : Op} {ty : TypeId} {po : String} {af : Array Edge} {g : Option (Nat × Bool)} {rest : List (Nat × Nat)} {a : Act} {w : World} (hi : ops[i]? = some ⟨d, o, ty, po, af, g⟩) (hw : Region.wanted ⟨d, o, ty, po, af, g⟩ (yielded ops a.tmps) = false) (h : wpGN P ops Q S E rest (a.put d undef) w) : wpGN P ops Q S E ((i, 0) :: rest) a w := ⟨_, undef, hi, .inr ⟨hw, rfl⟩, h⟩
/-- What makes memory. -/
theorem wpGN_make {S : World → Prop} {E : Act → World → Prop} {i k : Nat} {d : Option Tmp} {o : Op} {ty : TypeId} {po : String} {af : Array Edge} {g : Option (Nat × Bool)} {rest : List (Nat × Nat)} {a : Act} {w : World} (hi : ops[i]? = some ⟨d, o, ty, po, af, g⟩)
    (h : ∀ w1, Below w.heap.size w w1 → ∀ K : Act → World → Prop, (∀ a w', Below w1.heap.size w1 w' → wpGN P ops Q S E rest a w' → K a w') → if Region.wanted ⟨d, o, ty, po, af, g⟩ (yielded ops a.tmps) = true then Oper.wp P ⟨d, o, ty, po, af, g⟩ a w1 K Q else K (a.put d undef) w1) : wpGN P ops Q S E ((i, k + 1) :: rest) a w := by
  intro w1 hb1
  have h' := h w1 hb1 (fun a' w' => Below w1.heap.size w1 w' ∧ wpGN P ops Q S E rest a' w') (fun a w hs hg => ⟨hs, hg⟩)
  unfold wpOp
  simp only [hi]
  split
  · rename_i hw; rw [if_pos hw] at h'; exact .inl h'
  · rename_i hw; rw [if_neg hw] at h'; exact h'
theorem wpL_nil {a : Act} {w : World} (h : Q .normal a w) : wpL P ops Q [] a w := h
/-- What comes when all reading is done. -/
theorem wpL_late {i : Nat} {d : Option Tmp} {o : Op} {ty : TypeId} {po : String} {af : Array Edge} {g : Option (Nat × Bool)} {rest : List Nat} {a : Act} {w : World} (hi : ops[i]? = some ⟨d, o, ty, po, af, g⟩)
    (h : ∀ K : Act → World → Prop, (∀ a w, wpL P ops Q rest a w → K a w) → if Region.wanted ⟨d, o, ty, po, af, g⟩ (yielded ops a.tmps) = true then Oper.wp P ⟨d, o, ty, po, af, g⟩ a w K Q else K (a.put d undef) w) : wpL P ops Q (i :: rest) a w := by
  have h' := h (wpL P ops Q rest) (fun a w hg => hg)
  unfold wpL wpOp
  simp only [hi]
  split
  · rename_i hw; rw [if_pos hw] at h'; exact .inl h'
  · rename_i hw; rw [if_neg hw] at h'; exact h'
end
end Go.Proofs.Ytjcbphhemmdnjaa
