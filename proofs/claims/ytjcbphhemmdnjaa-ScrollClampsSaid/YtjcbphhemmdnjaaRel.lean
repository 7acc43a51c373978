/- A region that draws its order, by what each operation leaves: a relation of its own value and the world, which no new memory disturbs. In whatever order they come, all relations hold in the end; stores come last. -/
import Derived.Test.YtjcbphhemmdnjaaNoise
namespace Go.Proofs.Ytjcbphhemmdnjaa
open Go Go.RowKit
set_option linter.unusedSimpArgs false
set_option linter.unusedVariables false

section
variable {P : Program} {ops : Array Oper} {Q : Exit → Act → World → Prop}

def dstOf (ops : Array Oper) (i : Nat) : Option Tmp := (ops[i]?).bind (·.dst)
/-- The state with the values of some operations in their slots. -/
def canon (ops : Array Oper) (β : Nat → Value) (L : List Nat) (a : Act) : Act := L.foldl (fun a i => a.put (dstOf ops i) (β i)) a
def setAll (L : List Nat) (l : Array Bool) : Array Bool := L.foldl (fun l i => l.setIfInBounds i true) l
/-- Those of N that an operation waits for. -/
def depsOf (ops : Array Oper) (N : List Nat) (j : Nat) : List Nat := N.filter fun i => i != j && reach .any ops 8 j i
def looks (ops : Array Oper) (i j : Nat) : Bool :=
  match dstOf ops i, ops[j]? with
  | some d, some oj => (oj.looksAt ops).contains d
  | _, _ => false
/-- Each waits only for those ahead of it. -/
def topB (ops : Array Oper) : List Nat → List Nat → Bool
  | _, [] => true
  | A, j :: N => (match ops[j]? with | some oj => oj.after.all fun e => !Region.binds .any e || A.contains e.on | none => false) && topB ops (j :: A) N
def relB (ops : Array Oper) (N lates : List Nat) : Bool :=
  Region.noSelect ops && topB ops [] N && decide N.Nodup && N.all (fun i => decide (i < ops.size)) && (List.range ops.size).all (fun j => N.contains j || lates.contains j) && lates.all (fun j => N.all fun i => reach .any ops 8 j i) &&
  N.all (fun j => N.all fun i => i == j || ((reach .any ops 8 j i || !looks ops i j) && (dstOf ops i == none || dstOf ops i != dstOf ops j))) && lateB ops lates (setAll N (Array.replicate ops.size false))
/-- The block that a value leads to. -/
def blkV : Value → Option Nat
  | .pointer (some a) => some a.block
  | .slice (some a) _ _ => some a.block
  | _ => none

theorem wpOp_up {j : Nat} {oj : Oper} {x : Option Tmp} {v : Value} (hj : ops[j]? = some oj) (h1 : ∀ d, x = some d → d ∉ oj.looksAt ops) (h2 : ∀ d, x = some d → oj.dst ≠ some d)
    (hsj : ∀ cs b, oj.op ≠ .select cs b) (hQ : ∀ c a w, Q (.panic c) a w → Q (.panic c) (a.put x v) w) {K : Act → World → Prop} {a : Act} {w : World}
    (h : wpOp P ops Q j (fun a' w' => K (a'.put x v) w') a w) : wpOp P ops Q j K (a.put x v) w := by
  unfold wpOp at *
  simp only [hj] at *
  rw [wanted_put oj a x v h1]
  split
  · rename_i hw
    simp only [hw, if_true] at h
    rcases h with h | ⟨hasks, hlets⟩
    case inr => exact .inr ⟨by unfold Oper.asks at *; rw [execOp_put oj hsj a x v h1]; exact hasks, hlets⟩
    refine .inl ?_
    unfold Oper.wp at *
    rw [execOp_put oj hsj a x v h1]
    generalize (execOp a.eval oj).run P w = r at *
    cases r with
    | ok n w' =>
      cases n <;> simp only [Oper.upon] at h ⊢
      case value u => rw [Act.put_comm a v u h2]; exact h
      case skip => rw [Act.put_comm a v undef h2]; exact h
      case defer d =>
        rw [Act.put_defers, Act.put_comm _ v undef h2]
        exact h
      case enter f args =>
        refine Calls.mono h fun e w'' he => ?_
        cases e with
        | returned u => show K ((a.put x v).put oj.dst u) w''; rw [Act.put_comm a v u h2]; exact he
        | panicked c => exact hQ _ _ _ he
        | outgrown => exact he
      case row row args => exact Rows.mono h fun u w'' he => by rw [Act.put_comm a v u h2]; exact he
    | halt y w' =>
      cases y <;> simp only [Oper.upon] at h ⊢
      case panic u => exact hQ _ _ _ h
  · rename_i hw
    simp only [hw] at h
    rw [Act.put_comm a v undef h2]
    exact h
theorem wpOp_ups {j : Nat} {oj : Oper} (β : Nat → Value) (hj : ops[j]? = some oj) (hsj : ∀ cs b, oj.op ≠ .select cs b) (hQ : ∀ c a d v w, Q (.panic c) a w → Q (.panic c) (a.put d v) w) : ∀ (L : List Nat) (K : Act → World → Prop) (a : Act) (w : World),
    (∀ i ∈ L, (∀ d, dstOf ops i = some d → d ∉ oj.looksAt ops) ∧ (∀ d, dstOf ops i = some d → oj.dst ≠ some d)) → wpOp P ops Q j (fun a' w' => K (canon ops β L a') w') a w → wpOp P ops Q j K (canon ops β L a) w
  | [], K, a, w, _, h => h
  | i :: L, K, a, w, hl, h => by
    have hi := hl i (.head _)
    exact wpOp_ups β hj hsj hQ L K (a.put (dstOf ops i) (β i)) w (fun k hk => hl k (.tail _ hk)) (wpOp_up hj hi.1 hi.2 hsj (fun c a w => hQ c a _ _ w) h)
theorem canon_append (β : Nat → Value) (L M : List Nat) (a : Act) : canon ops β (L ++ M) a = canon ops β M (canon ops β L a) := List.foldl_append
theorem canon_put (β : Nat → Value) (x : Option Tmp) (v : Value) : ∀ (L : List Nat) (a : Act), (∀ i ∈ L, ∀ d, x = some d → dstOf ops i ≠ some d) → canon ops β L (a.put x v) = (canon ops β L a).put x v
  | [], a, _ => rfl
  | i :: L, a, h => by
    show canon ops β L ((a.put x v).put (dstOf ops i) (β i)) = (canon ops β L (a.put (dstOf ops i) (β i))).put x v
    rw [Act.put_comm a v (β i) (h i (.head _)), canon_put β x v L _ (fun k hk => h k (.tail _ hk))]
theorem canon_congr {β β' : Nat → Value} : ∀ {L : List Nat} {a : Act}, (∀ i ∈ L, β i = β' i) → canon ops β L a = canon ops β' L a
  | [], a, _ => rfl
  | i :: L, a, h => by
    show canon ops β L (a.put (dstOf ops i) (β i)) = canon ops β' L (a.put (dstOf ops i) (β' i))
    rw [h i (.head _), canon_congr (fun k hk => h k (.tail _ hk))]
def Apart (ops : Array Oper) (L : List Nat) : Prop := ∀ i ∈ L, ∀ j ∈ L, i ≠ j → ∀ d, dstOf ops i = some d → dstOf ops j ≠ some d
theorem canon_perm {β : Nat → Value} {L L' : List Nat} (h : L.Perm L') : ∀ (a : Act), Apart ops L → canon ops β L a = canon ops β L' a := by
  induction h with
  | nil => intro a _; rfl
  | cons x _ ih => intro a ha; exact ih _ (fun i hi j hj => ha i (.tail _ hi) j (.tail _ hj))
  | swap x y l =>
    intro a ha
    show canon ops β l ((a.put (dstOf ops y) (β y)).put (dstOf ops x) (β x)) = canon ops β l ((a.put (dstOf ops x) (β x)).put (dstOf ops y) (β y))
    by_cases e : y = x
    · subst e; rfl
    · rw [Act.put_comm a (β y) (β x) (ha y (by simp) x (by simp) e)]
  | trans h1 h2 ih1 ih2 => intro a ha; rw [ih1 a ha, ih2 a (fun i hi j hj => ha i (h1.mem_iff.2 hi) j (h1.mem_iff.2 hj))]
theorem setAll_size (L : List Nat) : ∀ l : Array Bool, (setAll L l).size = l.size := by
  induction L with
  | nil => intro l; rfl
  | cons i L ih => intro l; show (setAll L (l.setIfInBounds i true)).size = _; rw [ih]; simp
theorem setAll_get (L : List Nat) : ∀ (l : Array Bool) (k : Nat) (d : Bool), k < l.size → (setAll L l).getD k d = (decide (k ∈ L) || l.getD k d) := by
  induction L with
  | nil => intro l k d _; simp [setAll]
  | cons i L ih =>
    intro l k d hk
    show (setAll L (l.setIfInBounds i true)).getD k d = _
    rw [ih _ k d (by simpa using hk)]
    by_cases e : i = k
    · subst e; simp [hk]
    · rw [getD_set_ne d e]
      have : decide (k ∈ i :: L) = decide (k ∈ L) := by simp [Ne.symm e]
      rw [this]
theorem setAll_ext {L L' : List Nat} {n : Nat} (h : ∀ k, k ∈ L ↔ k ∈ L') : setAll L (Array.replicate n false) = setAll L' (Array.replicate n false) := by
  apply Array.ext
  · rw [setAll_size, setAll_size]
  · intro k h1 h2
    have e1 := setAll_get L (Array.replicate n false) k false (by rw [setAll_size] at h1; exact h1)
    have e2 := setAll_get L' (Array.replicate n false) k false (by rw [setAll_size] at h2; exact h2)
    have q : decide (k ∈ L) = decide (k ∈ L') := by congr 1; exact propext (h k)
    rw [q, ← e2] at e1
    simpa [h1, h2] using e1
theorem perm_nodup : ∀ (l l' : List Nat), l.Nodup → l'.Nodup → (∀ x, x ∈ l ↔ x ∈ l') → l.Perm l'
  | [], l', _, _, h => by
    cases l' with
    | nil => exact .nil
    | cons x l' => exact absurd ((h x).2 (.head _)) (by simp)
  | x :: l, l', hd, hd', h => by
    have hx : x ∈ l' := (h x).1 (.head _)
    have hn := List.nodup_cons.1 hd
    refine ((perm_nodup l (l'.erase x) hn.2 (hd'.erase x) (fun y => ?_)).cons x).trans (List.perm_cons_erase hx).symm
    rw [hd'.mem_erase_iff]
    constructor
    · intro hy; exact ⟨fun e => hn.1 (e ▸ hy), (h y).1 (.tail _ hy)⟩
    · rintro ⟨h1, h2⟩
      rcases List.mem_cons.1 ((h y).2 h2) with e | e
      · exact absurd e h1
      · exact e
/-- Where not all have come, one may come. -/
theorem top_ready {l : Array Bool} : ∀ (N A : List Nat), topB ops A N = true → (∀ i ∈ A, l.getD i false = true) → (∀ i ∈ N, i < l.size) → (∃ m ∈ N, l.getD m true = false) → ∃ j, j ∈ Region.ready .any ops l
  | [], A, _, _, _, ⟨m, hm, _⟩ => by cases hm
  | j :: N, A, h, hA, hs, ⟨m, hm, hl⟩ => by
    simp only [topB, Bool.and_eq_true] at h
    cases hj : ops[j]? with
    | none => rw [hj] at h; exact absurd h.1 (by simp)
    | some oj =>
      rw [hj] at h
      by_cases c : l.getD j true = false
      · refine ⟨j, mem_ready.2 ⟨c, oj, hj, fun e he hb => ?_⟩⟩
        have := (Array.all_eq_true_iff_forall_mem.1 h.1) e he
        simp only [hb, Bool.not_true, Bool.false_or, List.contains_eq_mem, decide_eq_true_eq] at this
        exact hA _ this
      · have hjs : j < ops.size := (Array.getElem?_eq_some_iff.1 hj).1
        by_cases hjl : l.getD j false = true
        · refine top_ready N (j :: A) h.2 (fun i hi => ?_) (fun i hi => hs i (.tail _ hi)) ?_
          · rcases List.mem_cons.1 hi with e | e
            · rw [e]; exact hjl
            · exact hA i e
          · rcases List.mem_cons.1 hm with e | e
            · rw [e] at hl; exact absurd hl c
            · exact ⟨m, e, hl⟩
        · exfalso
          simp only [Bool.not_eq_true, Bool.not_eq_false] at c hjl
          have q := hs j (.head _)
          simp [q] at c hjl; rw [c] at hjl; cases hjl
/-- What is kept on the way. -/
structure RelI (ops : Array Oper) (R : Nat → Value → World → Prop) (F : Nat → Bool) (w0 : World) (L : List Nat) (β : Nat → Value) (w : World) : Prop where
  below : Below w0.heap.size w0 w
  rel : ∀ i ∈ L, R i (β i) w
  new : ∀ i ∈ L, F i = true → ∃ g, blkV (β i) = some g ∧ w0.heap.size ≤ g ∧ g < w.heap.size
  apart : ∀ i ∈ L, ∀ j ∈ L, i ≠ j → F i = true → F j = true → blkV (β i) ≠ blkV (β j)

theorem wpAny_rel_go {N lates : List Nat} {R : Nat → Value → World → Prop} {F : Nat → Bool} {a0 : Act} {w0 : World} (hB : relB ops N lates = true) (hQ : ∀ c a d v w, Q (.panic c) a w → Q (.panic c) (a.put d v) w)
    (hS : ∀ i v w w', Below w.heap.size w w' → R i v w → R i v w')
    (H : ∀ j ∈ N, ∀ β w, Below w0.heap.size w0 w → (∀ i ∈ depsOf ops N j, R i (β i) w) → wpOp P ops Q j (fun a' w' => ∃ v, a' = (canon ops β (depsOf ops N j) a0).put (dstOf ops j) v ∧ Below w.heap.size w w' ∧ R j v w' ∧ (F j = true → ∃ g, blkV v = some g ∧ w.heap.size ≤ g ∧ g < w'.heap.size)) (canon ops β (depsOf ops N j) a0) w)
    (HF : ∀ β w, RelI ops R F w0 N β w → wpL P ops Q lates (canon ops β N a0) w) :
    ∀ (k : Nat) (L M : List Nat) (β : Nat → Value) (w : World), M.length = k → (L ++ M).Perm N → Closed .any ops (setAll L (Array.replicate ops.size false)) → RelI ops R F w0 L β w → wpAny P .any ops Q (k + lates.length) (setAll L (Array.replicate ops.size false)) (canon ops β L a0) w := by
  have hB' := hB
  simp only [relB, Bool.and_eq_true, List.all_eq_true, decide_eq_true_eq, Bool.or_eq_true, List.mem_range, List.contains_eq_mem] at hB'
  obtain ⟨⟨⟨⟨⟨⟨⟨b1, b0⟩, b2⟩, b3⟩, b4⟩, b5⟩, b6⟩, b7⟩ := hB'
  have hap : Apart ops N := fun i hi j hj hne d hd => by
    have := (b6 j hj i hi).resolve_left (by simpa using hne)
    rw [hd] at this
    have q := this.2.resolve_left (by simp)
    simp only [bne_iff_ne, ne_eq] at q
    exact fun e => q e.symm
  have hsz : ∀ k, (Array.replicate ops.size false : Array Bool).getD k false = false := fun k => by simp [Array.getElem?_replicate]; split <;> rfl
  intro k
  induction k with
  | zero =>
    intro L M β w hM hp hcl hI
    obtain rfl := List.eq_nil_of_length_eq_zero hM
    rw [List.append_nil] at hp
    have hIN : RelI ops R F w0 N β w := ⟨hI.below, fun i hi => hI.rel i (hp.mem_iff.2 hi), fun i hi => hI.new i (hp.mem_iff.2 hi), fun i hi j hj => hI.apart i (hp.mem_iff.2 hi) j (hp.mem_iff.2 hj)⟩
    rw [setAll_ext (fun k => hp.mem_iff), canon_perm hp a0 (fun i hi j hj => hap i (hp.mem_iff.1 hi) j (hp.mem_iff.1 hj)), Nat.zero_add]
    exact wpAny_of_L lates _ _ _ b7 (HF β w hIN)
  | succ k ih =>
    intro L M β w hM hp hcl hI
    have hnd : (L ++ M).Nodup := hp.nodup_iff.2 b2
    have hdis : ∀ x ∈ L, x ∉ M := fun x h1 h2 => (List.nodup_append.1 hnd).2.2 x h1 x h2 rfl
    have hLN : ∀ x ∈ L, x ∈ N := fun x hx => hp.mem_iff.1 (List.mem_append_left _ hx)
    have hMN : ∀ x ∈ M, x ∈ N := fun x hx => hp.mem_iff.1 (List.mem_append_right _ hx)
    have hget : ∀ i ∈ N, (setAll L (Array.replicate ops.size false)).getD i false = true → i ∈ L := fun i hi h => by
      rw [setAll_get L _ i false (by simpa using b3 i hi), hsz, Bool.or_false] at h
      exact of_decide_eq_true h
    -- none of the late ones may come yet
    have hnot : ∀ j ∈ Region.ready .any ops (setAll L (Array.replicate ops.size false)), j ∈ M := fun j hj => by
      obtain ⟨hun, oj, hoj, hall⟩ := mem_ready.1 hj
      have hjs : j < ops.size := (Array.getElem?_eq_some_iff.1 hoj).1
      rcases b4 j hjs with h | h
      · rcases List.mem_append.1 (hp.mem_iff.2 (of_decide_eq_true (by simpa using h))) with q | q
        · have := setAll_get L (Array.replicate ops.size false) j true (by simpa using hjs)
          rw [hun] at this
          simp [q] at this
        · exact q
      · exfalso
        obtain ⟨m, hm⟩ : ∃ m, m ∈ M := by
          cases M with
          | nil => simp at hM
          | cons m M => exact ⟨m, .head _⟩
        have hr := b5 j (by simpa using h) m (hMN m hm)
        exact hdis m (hget m (hMN m hm) (ready_reach hcl hj hr)) hm
    have hfu : k + 1 + lates.length = (k + lates.length) + 1 := by omega
    rw [hfu]
    refine ⟨fun h0 => ?_, fun j hj => ?_⟩
    · exfalso
      obtain ⟨m, hm⟩ : ∃ m, m ∈ M := by
        cases M with
        | nil => simp at hM
        | cons m M => exact ⟨m, .head _⟩
      have hmN := hMN m hm
      obtain ⟨j, hj⟩ := top_ready (ops := ops) (l := setAll L (Array.replicate ops.size false)) N [] b0 (fun i hi => by cases hi) (fun i hi => by rw [setAll_size]; simpa using b3 i hi) ⟨m, hmN, by
        rw [setAll_get L _ m true (by simpa using b3 m hmN)]
        have h1 : decide (m ∈ L) = false := decide_eq_false (fun q => hdis m q hm)
        rw [h1]
        simp [b3 m hmN]⟩
      rw [h0] at hj
      cases hj
    · have hjM := hnot j hj
      obtain ⟨hun, oj, hoj, hall⟩ := mem_ready.1 hj
      have hjN := hMN j hjM
      have hjL : j ∉ L := fun q => hdis j q hjM
      have hdL : ∀ i ∈ depsOf ops N j, i ∈ L := fun i hi => by
        obtain ⟨h1, h2⟩ := List.mem_filter.1 hi
        simp only [Bool.and_eq_true] at h2
        exact hget i h1 (ready_reach hcl hj h2.2)
      have hdst : dstOf ops j = oj.dst := by unfold dstOf; rw [hoj]; rfl
      have hLnd : L.Nodup := (List.nodup_append.1 hnd).1
      have hE := List.filter_append_perm (fun i => decide (i ∈ depsOf ops N j)) L
      have hD : (L.filter fun i => decide (i ∈ depsOf ops N j)).Perm (depsOf ops N j) := perm_nodup _ _ (hLnd.filter _) (b2.filter _) (fun x => by
        rw [List.mem_filter]
        exact ⟨fun q => of_decide_eq_true q.2, fun q => ⟨hdL x q, decide_eq_true q⟩⟩)
      have hLp := hE.symm.trans (hD.append_right _)
      generalize hEd : (L.filter fun i => !decide (i ∈ depsOf ops N j)) = E at *
      have hEm : ∀ i ∈ E, i ∈ N ∧ i ≠ j ∧ i ∉ depsOf ops N j := fun i hi => by
        rw [← hEd, List.mem_filter] at hi
        refine ⟨hLN i hi.1, fun e => hjL (e ▸ hi.1), fun q => ?_⟩
        have := hi.2
        simp [q] at this
      have hapL : Apart ops L := fun i hi j hj => hap i (hLN i hi) j (hLN j hj)
      have hcan : canon ops β L a0 = canon ops β E (canon ops β (depsOf ops N j) a0) := by rw [canon_perm hLp a0 hapL, canon_append]
      have hne : ∀ i ∈ E, (∀ d, dstOf ops i = some d → d ∉ oj.looksAt ops) ∧ (∀ d, dstOf ops i = some d → oj.dst ≠ some d) := fun i hi => by
        obtain ⟨m1, m2, m3⟩ := hEm i hi
        refine ⟨fun d hd => ?_, fun d hd => ?_⟩
        · have := ((b6 j hjN i m1).resolve_left (by simpa using m2)).1
          rcases this with q | q
          · exact absurd (List.mem_filter.2 ⟨m1, by simp only [Bool.and_eq_true]; exact ⟨by simpa using m2, q⟩⟩) m3
          · unfold looks at q
            rw [hd, hoj] at q
            simpa using q
        · rw [← hdst]; exact hap i m1 j hjN m2 d hd
      have h1 := H j hjN β w hI.below (fun i hi => hI.rel i (hdL i hi))
      rw [hcan]
      refine wpOp_ups β hoj (fun cs b => Region.noSelect_spec b1 j oj cs b hoj) hQ E _ _ w hne (wpOp_mono (fun a' w' h' => ?_) h1)
      obtain ⟨v, rfl, hb, hr, hf⟩ := h'
      rw [canon_put β _ v E _ (fun i hi d hd => by rw [hdst] at hd; exact fun e => (hne i hi).2 d e hd), ← hcan]
      obtain ⟨β', hβ'⟩ : ∃ β' : Nat → Value, ∀ k, β' k = if k = j then v else β k := ⟨fun k => if k = j then v else β k, fun _ => rfl⟩
      have hif : ∀ i, i ∈ L → β' i = β i := fun i hi => by
        have hne : i ≠ j := fun e => hjL (e ▸ hi)
        rw [hβ', if_neg hne]
      have hjj : β' j = v := by rw [hβ', if_pos rfl]
      have hact : (canon ops β L a0).put (dstOf ops j) v = canon ops β' (L ++ [j]) a0 := by
        rw [canon_append, canon_congr (β := β') (β' := β) hif]
        show _ = (canon ops β L a0).put (dstOf ops j) (β' j)
        rw [hjj]
      have hset : (setAll L (Array.replicate ops.size false)).setIfInBounds j true = setAll (L ++ [j]) (Array.replicate ops.size false) := by
        unfold setAll; rw [List.foldl_append]; rfl
      rw [hact, hset]
      refine ih (L ++ [j]) (M.erase j) _ w' (by rw [List.length_erase_of_mem hjM]; omega) ?_ ?_ ?_
      · rw [List.append_assoc]
        exact (List.Perm.append_left L (List.perm_cons_erase hjM).symm).trans hp
      · rw [← hset]; exact hcl.set hj
      · refine ⟨below_step hI.below hb, fun i hi => ?_, fun i hi hF => ?_, fun i hi l hl hil hFi hFl => ?_⟩
        · rcases List.mem_append.1 hi with q | q
          · rw [hif i q]; exact hS i _ w w' hb (hI.rel i q)
          · obtain rfl : i = j := by simpa using q
            rw [hjj]; exact hr
        · rcases List.mem_append.1 hi with q | q
          · obtain ⟨g, g1, g2, g3⟩ := hI.new i q hF
            exact ⟨g, by rw [hif i q]; exact g1, g2, Nat.lt_of_lt_of_le g3 hb.size⟩
          · obtain rfl : i = j := by simpa using q
            obtain ⟨g, g1, g2, g3⟩ := hf hF
            exact ⟨g, by rw [hjj]; exact g1, Nat.le_trans hI.below.size g2, g3⟩
        · rcases List.mem_append.1 hi with q | q
          · rcases List.mem_append.1 hl with p | p
            · rw [hif i q, hif l p]; exact hI.apart i q l p hil hFi hFl
            · obtain rfl : l = j := by simpa using p
              rw [hif i q, hjj]
              obtain ⟨g, g1, g2, g3⟩ := hI.new i q hFi
              obtain ⟨g', k1, k2, k3⟩ := hf hFl
              rw [g1, k1]; intro e; cases e; omega
          · obtain rfl : i = j := by simpa using q
            rcases List.mem_append.1 hl with p | p
            · rw [hif l p, hjj]
              obtain ⟨g, g1, g2, g3⟩ := hI.new l p hFl
              obtain ⟨g', k1, k2, k3⟩ := hf hFi
              rw [g1, k1]; intro e; cases e; omega
            · exact absurd (by simpa using p : l = i).symm hil
abbrev RelD := List (Nat × Option Tmp × List (Nat × Option Tmp))
def putD (β : Nat → Value) (ds : List (Nat × Option Tmp)) (a : Act) : Act := ds.foldl (fun a p => a.put p.2 (β p.1)) a
/-- The operations, each with its slot and those that it waits for. -/
def relDB (ops : Array Oper) (D : RelD) (lates : List Nat) : Bool :=
  relB ops (D.map (·.1)) lates && ((D.map (·.1)).length + lates.length == ops.size) && D.all fun p => p.2.1 == dstOf ops p.1 && (p.2.2.map (·.1) == depsOf ops (D.map (·.1)) p.1) && p.2.2.all fun q => q.2 == dstOf ops q.1
def RelH (R : Nat → Value → World → Prop) (β : Nat → Value) (w : World) : List (Nat × Option Tmp) → Prop
  | [] => True
  | (i, _) :: r => R i (β i) w ∧ RelH R β w r
def RelG (P : Program) (ops : Array Oper) (Q : Exit → Act → World → Prop) (R : Nat → Value → World → Prop) (F : Nat → Bool) (a : Act) (w0 : World) : RelD → Prop
  | [] => True
  | (j, d, ds) :: r => (∀ β w1, Below w0.heap.size w0 w1 → RelH R β w1 ds → ∀ K : Act → World → Prop, (∀ v w', Below w1.heap.size w1 w' → R j v w' → (F j = true → ∃ g, blkV v = some g ∧ w1.heap.size ≤ g ∧ g < w'.heap.size) → K ((putD β ds a).put d v) w') → wpOp P ops Q j K (putD β ds a) w1) ∧ RelG P ops Q R F a w0 r
theorem relH_of {R : Nat → Value → World → Prop} {β : Nat → Value} {w : World} : ∀ {ds : List (Nat × Option Tmp)}, (∀ i ∈ ds.map (·.1), R i (β i) w) → RelH R β w ds
  | [], _ => trivial
  | (i, d) :: r, h => ⟨h i (by simp), relH_of (fun k hk => h k (by simp at hk ⊢; exact .inr hk))⟩
theorem putD_canon {β : Nat → Value} : ∀ {ds : List (Nat × Option Tmp)} {a : Act}, (∀ q ∈ ds, q.2 = dstOf ops q.1) → putD β ds a = canon ops β (ds.map (·.1)) a
  | [], a, _ => rfl
  | (i, d) :: r, a, h => by
    have := h (i, d) (.head _)
    simp only at this
    show putD β r (a.put d (β i)) = canon ops β (r.map (·.1)) (a.put (dstOf ops i) (β i))
    rw [← this, putD_canon (fun q hq => h q (.tail _ hq))]
theorem relG_mem {R : Nat → Value → World → Prop} {F : Nat → Bool} {a : Act} {w0 : World} : ∀ {D : RelD}, RelG P ops Q R F a w0 D → ∀ p ∈ D, ∀ β w1, Below w0.heap.size w0 w1 → RelH R β w1 p.2.2 → ∀ K : Act → World → Prop, (∀ v w', Below w1.heap.size w1 w' → R p.1 v w' → (F p.1 = true → ∃ g, blkV v = some g ∧ w1.heap.size ≤ g ∧ g < w'.heap.size) → K ((putD β p.2.2 a).put p.2.1 v) w') → wpOp P ops Q p.1 K (putD β p.2.2 a) w1
  | [], _, p, hp => by cases hp
  | (j, d, ds) :: r, h, p, hp => by
    cases hp with
    | head => exact h.1
    | tail _ hp => exact relG_mem h.2 p hp
/-- THE BEGINNING. -/
theorem region_rel {id : Nat} {a : Act} {w : World} {l : List Oper} (D : RelD) (lates : List Nat) (hm : P.follows .mixedOrders = true) (hB : relDB l.toArray D lates = true) (hQ : ∀ c a d v w, Q (.panic c) a w → Q (.panic c) (a.put d v) w)
    (R : Nat → Value → World → Prop) (F : Nat → Bool) (hS : ∀ i v w w', Below w.heap.size w w' → R i v w → R i v w')
    (H : RelG P l.toArray Q R F a w.drew D)
    (HF : ∀ β w1, RelI l.toArray R F w.drew (D.map (·.1)) β w1 → RelH R β w1 (D.map fun p => (p.1, p.2.1)) → wpL P l.toArray Q lates (putD β (D.map fun p => (p.1, p.2.1)) a) w1) : (Code.region id l.toArray true).wp P Q a w := by
  refine wp_region_any hm ?_
  simp only [relDB, Bool.and_eq_true, List.all_eq_true, beq_iff_eq] at hB
  obtain ⟨⟨hB, hlen⟩, hD⟩ := hB
  have h := wpAny_rel_go (P := P) (R := R) (F := F) (w0 := w.drew) (a0 := a) (lates := lates) hB hQ hS (fun j hj β w1 hb hr => ?_) (fun β w1 hI => ?_) (D.map (·.1)).length [] (D.map (·.1)) (fun _ => undef) w.drew rfl (List.Perm.refl _) (fun j oj _ hl => (by
    have e : (setAll [] (Array.replicate l.toArray.size false)).getD j false = false := getD_replicate_false _ _
    rw [e] at hl; cases hl)) ⟨Below.refl _ _, fun i hi => (by cases hi), fun i hi => (by cases hi), fun i hi => (by cases hi)⟩
  rotate_left
  · obtain ⟨p, hp, rfl⟩ := List.mem_map.1 hj
    obtain ⟨⟨k1, k2⟩, k3⟩ := hD p hp
    have e : putD β p.2.2 a = canon l.toArray β (depsOf l.toArray (D.map (·.1)) p.1) a := by rw [putD_canon k3, k2]
    rw [← e, ← k1]
    exact relG_mem H p hp β w1 hb (relH_of (fun i hi => hr i (by rw [← k2]; exact hi))) _ (fun v w' hb' hr' hf' => ⟨v, rfl, hb', hr', hf'⟩)
  · have e : putD β (D.map fun p => (p.1, p.2.1)) a = canon l.toArray β (D.map (·.1)) a := by
      rw [putD_canon (ops := l.toArray) (fun q hq => ?_)]
      · rw [List.map_map]; rfl
      · obtain ⟨p, hp, rfl⟩ := List.mem_map.1 hq
        exact (hD p hp).1.1
    rw [← e]
    exact HF β w1 hI (relH_of (fun i hi => hI.rel i (by rw [List.map_map] at hi; exact hi)))
  · rw [hlen] at h
    exact h
def relEq (x : Value) : Value → World → Prop := fun v _ => v = x
def relSl (n : Nat) (cs : Array Value) (T : TypeId) : Value → World → Prop := fun v w => ∃ g, v = .slice (some ⟨g, 0, none⟩) n n ∧ Has w g cs T
def relPt (cs : Array Value) (T : TypeId) : Value → World → Prop := fun v w => ∃ g, v = .pointer (some ⟨g, 0, none⟩) ∧ Has w g cs T
theorem relEq_s (x : Value) : ∀ v w w', Below w.heap.size w w' → relEq x v w → relEq x v w' := fun _ _ _ _ h => h
theorem relSl_s (n : Nat) (cs : Array Value) (T : TypeId) : ∀ v w w', Below w.heap.size w w' → relSl n cs T v w → relSl n cs T v w' := fun _ _ _ hb ⟨g, h1, h2⟩ => ⟨g, h1, has_below hb h2⟩
theorem relPt_s (cs : Array Value) (T : TypeId) : ∀ v w w', Below w.heap.size w w' → relPt cs T v w → relPt cs T v w' := fun _ _ _ hb ⟨g, h1, h2⟩ => ⟨g, h1, has_below hb h2⟩
theorem relEq_e {x v : Value} {w : World} (h : v = x) : relEq x v w := h
theorem relSl_e {n : Nat} {cs cs' : Array Value} {T T' : TypeId} {w : World} (h : cs = cs') (k : T = T') : relSl n cs' T' (.slice (some ⟨w.heap.size, 0, none⟩) n n) (w.alloc (.cells cs T)) := by subst h k; exact ⟨_, rfl, has_new rfl⟩
theorem relEq_i (x : Value) (w : World) : relEq x x w := rfl
theorem relSl_i (n : Nat) (cs : Array Value) (T : TypeId) (w : World) : relSl n cs T (.slice (some ⟨w.heap.size, 0, none⟩) n n) (w.alloc (.cells cs T)) := ⟨_, rfl, has_new rfl⟩
theorem relPt_i (cs : Array Value) (T : TypeId) (w : World) : relPt cs T (.pointer (some ⟨w.heap.size, 0, none⟩)) (w.alloc (.cells cs T)) := ⟨_, rfl, has_new rfl⟩
/-- The relations, by their numbers. -/
def relR (l : List (Value → World → Prop)) (i : Nat) : Value → World → Prop := l.getD i (fun _ _ => True)
def Stables : List (Value → World → Prop) → Prop
  | [] => True
  | r :: l => (∀ v w w', Below w.heap.size w w' → r v w → r v w') ∧ Stables l
theorem relS : ∀ {l : List (Value → World → Prop)}, Stables l → ∀ i v w w', Below w.heap.size w w' → relR l i v w → relR l i v w'
  | [], _, i, v, w, w', _, h => h
  | r :: l, h, 0, v, w, w', hb, k => h.1 v w w' hb k
  | r :: l, h, i + 1, v, w, w', hb, k => relS (l := l) h.2 i v w w' hb k
theorem Has.below {w w1 : World} {b : Nat} {cs : Array Value} {T : TypeId} (h : Has w b cs T) (hb : Below w.heap.size w w1) : Has w1 b cs T := has_below hb h
/-- One operation: it is carried out. -/
theorem wpOp_go {j : Nat} {d : Option Tmp} {o : Op} {ty : TypeId} {po : String} {af : Array Edge} {g : Option (Nat × Bool)} {K : Act → World → Prop} {a : Act} {w : World} (hi : ops[j]? = some ⟨d, o, ty, po, af, g⟩)
    (h : if Region.wanted ⟨d, o, ty, po, af, g⟩ (yielded ops a.tmps) = true then Oper.wp P ⟨d, o, ty, po, af, g⟩ a w K Q else K (a.put d undef) w) : wpOp P ops Q j K a w := by
  unfold wpOp
  simp only [hi]
  split
  · rename_i hw; rw [if_pos hw] at h; exact .inl h
  · rename_i hw; rw [if_neg hw] at h; exact h
end
end Go.Proofs.Ytjcbphhemmdnjaa
