/- Trees that are told by each node's parent (a smaller number): their rows, as package tree has them. Plain. -/
import Derived.Test.YtjcbphhemmdnjaaTreeP
namespace Go.Proofs.Ytjcbphhemmdnjaa
set_option linter.unusedSimpArgs false
set_option linter.unusedVariables false

/-- The kids of k among the first i nodes, in order. -/
def kidsZ (pa : Nat → Nat) : Nat → Int → List Int
  | 0, _ => []
  | i + 1, k => kidsZ pa i k ++ (if 0 < i ∧ (pa i : Int) = k then [(i : Int)] else [])
theorem kidsZ_mem {pa : Nat → Nat} {k x : Int} : ∀ {i : Nat}, x ∈ kidsZ pa i k ↔ ∃ j : Nat, 0 < j ∧ j < i ∧ (pa j : Int) = k ∧ x = j
  | 0 => by
    constructor
    · intro h; cases h
    · rintro ⟨j, _, h, _⟩; omega
  | i + 1 => by
    unfold kidsZ
    rw [List.mem_append, kidsZ_mem]
    constructor
    · rintro (⟨j, h1, h2, h3, h4⟩ | h)
      · exact ⟨j, h1, by omega, h3, h4⟩
      · split at h
        · rename_i c
          exact ⟨i, c.1, by omega, c.2, by simpa using h⟩
        · cases h
    · rintro ⟨j, h1, h2, h3, h4⟩
      rcases Nat.lt_or_ge j i with h | h
      · exact .inl ⟨j, h1, h, h3, h4⟩
      · obtain rfl : j = i := by omega
        rw [if_pos ⟨h1, h3⟩]
        exact .inr (by simp [h4])
theorem kidsZ_len (pa : Nat → Nat) (k : Int) : ∀ i, (kidsZ pa i k).length ≤ i
  | 0 => Nat.le_refl _
  | i + 1 => by
    unfold kidsZ
    have := kidsZ_len pa k i
    rw [List.length_append]
    split <;> simp <;> omega
theorem kidsZ_none {pa : Nat → Nat} {k : Int} {i : Nat} (h : ∀ j : Nat, 0 < j → j < i → (pa j : Int) ≠ k) : kidsZ pa i k = [] := by
  rcases hk : kidsZ pa i k with _ | ⟨x, l⟩
  · rfl
  · obtain ⟨j, h1, h2, h3, _⟩ := kidsZ_mem.1 (show x ∈ kidsZ pa i k by rw [hk]; simp)
    exact absurd h3 (h j h1 h2)
/-- Is k the node n, or below it? -/
def belF (pa : Nat → Nat) : Nat → Nat → Nat → Bool
  | 0, _, _ => false
  | f + 1, n, k => decide (k = n) || (decide (k ≠ 0) && belF pa f n (pa k))
theorem belF_fuel {pa : Nat → Nat} (hp : ∀ i, 0 < i → pa i < i) (n : Nat) : ∀ (f g k : Nat), k < f → k < g → belF pa f n k = belF pa g n k
  | 0, _, k, h, _ => by omega
  | f + 1, 0, k, _, h => by omega
  | f + 1, g + 1, k, h1, h2 => by
    show (decide (k = n) || (decide (k ≠ 0) && belF pa f n (pa k))) = (decide (k = n) || (decide (k ≠ 0) && belF pa g n (pa k)))
    by_cases c : k = 0
    · simp [c]
    · have := hp k (by omega)
      rw [belF_fuel hp n f g (pa k) (by omega) (by omega)]
def inSub (pa : Nat → Nat) (n k : Nat) : Bool := belF pa (k + 1) n k
theorem inSub_self (pa : Nat → Nat) (n : Nat) : inSub pa n n = true := by
  show (decide (n = n) || _) = true
  simp
theorem inSub_up {pa : Nat → Nat} (hp : ∀ i, 0 < i → pa i < i) {n k : Nat} (h : 0 < k) (hne : k ≠ n) : inSub pa n k = inSub pa n (pa k) := by
  have := hp k h
  show (decide (k = n) || (decide (k ≠ 0) && belF pa k n (pa k))) = _
  rw [belF_fuel hp n k (pa k + 1) (pa k) (by omega) (by omega)]
  simp [hne, show k ≠ 0 by omega]
  rfl
theorem inSub_zero (pa : Nat → Nat) {n : Nat} (h : n ≠ 0) : inSub pa n 0 = false := by
  show (decide (0 = n) || (decide (0 ≠ 0) && _)) = false
  simp; omega
theorem inSub_le {pa : Nat → Nat} (hp : ∀ i, 0 < i → pa i < i) (n : Nat) : ∀ k, inSub pa n k = true → n ≤ k := by
  intro k
  induction k using Nat.strongRecOn with
  | _ k ih =>
    intro h
    by_cases c : k = n
    · omega
    · rcases Nat.eq_zero_or_pos k with c0 | c0
      · subst c0
        rw [inSub_zero pa (by omega)] at h; cases h
      · rw [inSub_up hp c0 c] at h
        have := ih (pa k) (hp k c0) h
        have := hp k c0
        omega
/-- What is below n is below one of its kids, and one alone. -/
theorem inSub_kids {pa : Nat → Nat} (hp : ∀ i, 0 < i → pa i < i) (n : Nat) : ∀ k, k ≠ n → (inSub pa n k = true ↔ ∃ c, 0 < c ∧ c ≤ k ∧ pa c = n ∧ inSub pa c k = true) := by
  intro k
  induction k using Nat.strongRecOn with
  | _ k ih =>
    intro hk
    rcases Nat.eq_zero_or_pos k with c0 | c0
    · subst c0
      rw [inSub_zero pa (by omega)]
      constructor
      · intro h; cases h
      · rintro ⟨c, h1, h2, _⟩; omega
    · rw [inSub_up hp c0 hk]
      have hlt := hp k c0
      by_cases e : pa k = n
      · constructor
        · intro _; exact ⟨k, c0, Nat.le_refl _, e, inSub_self pa k⟩
        · intro _; rw [e]; exact inSub_self pa n
      · rw [ih (pa k) hlt e]
        constructor
        · rintro ⟨c, h1, h2, h3, h4⟩
          exact ⟨c, h1, by omega, h3, by rw [inSub_up hp c0 (by omega)]; exact h4⟩
        · rintro ⟨c, h1, h2, h3, h4⟩
          by_cases e2 : k = c
          · subst e2; exact absurd h3 e
          · rw [inSub_up hp c0 e2] at h4
            exact ⟨c, h1, inSub_le hp c (pa k) h4, h3, h4⟩
structure Pt (pa : Nat → Nat) (i : Nat) (R : Rows) : Prop where
  wf : WfR R i
  mem : ∀ k : Int, k ∈ nums R ↔ 0 ≤ k ∧ k < i
  len : R.length = i
  kids : ∀ A C k d, R = A ++ (k, d) :: C → kidsR d C = kidsZ pa i k
  par : ∀ A C k d, R = A ++ (k, d) :: C → k ≠ 0 → parR d A.reverse = (pa k.toNat : Int)
  deep : ∀ x ∈ R, x.2 ≤ x.1
theorem Pt.one (pa : Nat → Nat) : Pt pa 1 [(0, 0)] := by
  have hsp : ∀ (A C : Rows) (k d : Int), ([(0, 0)] : Rows) = A ++ (k, d) :: C → A = [] ∧ C = [] ∧ k = 0 ∧ d = 0 := fun A C k d e => by
    cases A with
    | nil => injection e with e1 e2; cases e1; exact ⟨rfl, e2.symm, rfl, rfl⟩
    | cons x A => injection e with e1 e2; cases A <;> cases e2
  refine ⟨⟨⟨[], rfl, by simp⟩, trivial, by simp [nums], by simp, by simp⟩, fun k => by simp [nums]; omega, rfl, fun A C k d e => ?_, fun A C k d e h => ?_, by simp⟩
  · obtain ⟨_, rfl, rfl, rfl⟩ := hsp A C k d e
    simp [kidsR, subR, lvl, kidsZ]
  · exact absurd (hsp A C k d e).2.2.1 h
theorem steps_one (x : Int × Int) : Steps [x] := trivial
/-- One more node, at the end of its parent's kids. -/
theorem Pt.add {pa : Nat → Nat} {i : Nat} {R : Rows} (h : Pt pa i R) (h1 : 1 ≤ i) (h2 : i ≤ 60) (hp : pa i < i) :
    ∃ R', addT R i (pa i) ((kidsZ pa i (pa i)).length : Nat) = (R', (i : Int), 0) ∧ Pt pa (i + 1) R' := by
  have hm : (pa i : Int) ∈ nums R := (h.mem _).2 ⟨by omega, by omega⟩
  rcases hf : findR (pa i : Int) R with _ | ⟨A1, d, C⟩
  · exact absurd hm (findR_none.1 hf)
  obtain ⟨hR, hA1⟩ := findR_some hf
  have hk := h.kids _ _ _ _ hR
  have hd : d ≤ pa i := h.deep (pa i, d) (by rw [hR]; simp)
  have hl := h.len
  obtain ⟨A2, B, hC, hlen, hab, hB, hlv⟩ := cutR_spec d (kidsZ pa i (pa i)).length C (by rw [hk]; exact Nat.le_refl _)
  have hkB : kidsR d B = [] := by
    have e := kidsR_append (d := d) (B := B) hab
    rw [← hC, hk] at e
    have := congrArg List.length e
    rw [List.length_append, hlv] at this
    exact List.eq_nil_of_length_eq_zero (by omega)
  have hlA : lvl (d + 1) A2 = kidsZ pa i (pa i) := by
    have e := kidsR_append (d := d) (B := B) hab
    rw [← hC, hk, hkB, List.append_nil] at e
    exact e.symm
  have hF : addT R i (pa i) ((kidsZ pa i (pa i)).length : Nat) = (A1 ++ ((pa i : Int), d) :: A2 ++ [((i : Int), d + 1)] ++ B, (i : Int), 0) := by
    unfold addT
    rw [hf]
    show (if _ then _ else _) = _
    rw [if_neg (by rw [hk]; omega), if_neg (by omega), if_neg (by omega), show ((kidsZ pa i (pa i)).length : Int).toNat = (kidsZ pa i (pa i)).length by omega, ← hlen, hC, List.take_left, List.drop_left]
  have hi : InsOk (A1 ++ ((pa i : Int), d) :: A2) [((i : Int), d + 1)] B A1 A2 [] (pa i) d i := ⟨rfl, rfl, hab, by simp, hB⟩
  have hR2 : R = (A1 ++ ((pa i : Int), d) :: A2) ++ B := by rw [hR, hC]; simp
  have hnew : (i : Int) ∉ nums R := fun q => by have := (h.mem _).1 q; omega
  have hnd : (nums ((A1 ++ ((pa i : Int), d) :: A2) ++ [((i : Int), d + 1)] ++ B)).Nodup := by
    have hw := h.wf.nodup
    rw [hR2] at hw hnew
    rw [nums_append] at hw hnew
    rw [nums_append, nums_append, List.append_assoc]
    rw [List.nodup_append] at hw ⊢
    refine ⟨hw.1, ?_, ?_⟩
    · show (nums [((i : Int), d + 1)] ++ nums B).Nodup
      refine List.nodup_cons.2 ⟨fun q => hnew (List.mem_append_right _ q), hw.2.1⟩
    · intro x hx y hy
      rcases List.mem_append.1 hy with hy | hy
      · have : y = i := by simpa [nums] using hy
        rintro rfl
        exact hnew (List.mem_append_left _ (this ▸ hx))
      · exact hw.2.2 x hx y hy
  refine ⟨_, hF, ?_, ?_, ?_, ?_, ?_, ?_⟩
  · exact WfR.ins hi (by rw [← hR2]; exact h.wf) (steps_one _) hnd (fun x hx => by simp at hx; subst hx; show d + 1 ≤ 64; omega) (fun x hx => by simp at hx; subst hx; exact ⟨by show (0 : Int) ≤ i; omega, by show (i : Int) < ((i + 1 : Nat) : Int); omega⟩) (by omega)
  · intro k
    have e : k ∈ nums ((A1 ++ ((pa i : Int), d) :: A2) ++ [((i : Int), d + 1)] ++ B) ↔ k ∈ nums R ∨ k = i := by
      have q1 : nums [((i : Int), d + 1)] = [(i : Int)] := rfl
      rw [hR2, nums_append, nums_append, nums_append (A1 ++ ((pa i : Int), d) :: A2), q1, List.mem_append, List.mem_append, List.mem_append, List.mem_singleton]
      constructor
      · rintro ((q | q) | q)
        · exact .inl (.inl q)
        · exact .inr q
        · exact .inl (.inr q)
      · rintro ((q | q) | q)
        · exact .inl (.inl q)
        · exact .inr q
        · exact .inl (.inr q)
    rw [e, h.mem]
    omega
  · have := congrArg List.length hR2
    simp only [List.length_append, List.length_cons, List.length_nil] at this ⊢
    omega
  · intro X Y k e hsp
    rcases split3 hsp with ⟨Y0, q1, q2⟩ | ⟨X0, Y0, q1, q2, q3⟩ | ⟨X0, q1, q2⟩
    · by_cases c : X = A1 ∧ (k, e) = ((pa i : Int), d) ∧ Y0 = A2
      · obtain ⟨rfl, c2, rfl⟩ := c
        cases c2
        rw [q2, hi.kidsP.1, hkB, hlA]
        show _ = kidsZ pa i (pa i) ++ (if 0 < i ∧ (pa i : Int) = (pa i : Int) then [(i : Int)] else [])
        rw [if_pos ⟨by omega, rfl⟩]
      · have hko := h.kids X (Y0 ++ B) k e (by rw [hR2, q1]; simp)
        rw [q2, hi.kidsA q1 c, hko]
        have hne : (pa i : Int) ≠ k := fun q => by
          refine c ?_
          subst q
          have hw := h.wf.nodup
          have e1 : R = X ++ ((pa i : Int), e) :: (Y0 ++ B) := by rw [hR2, q1]; simp
          have e2 : findR (pa i : Int) R = some (X, e, Y0 ++ B) := by
            rw [e1]
            refine findR_at ?_
            rw [e1, nums_append, List.nodup_append] at hw
            exact fun q => hw.2.2 _ q _ (by simp [nums]) rfl
          rw [hf] at e2
          cases e2
          rw [hC] at hR
          have : Y0 ++ B = A2 ++ B := hC
          exact ⟨rfl, rfl, List.append_cancel_right this⟩
        show _ = kidsZ pa i k ++ _
        rw [if_neg (fun q => hne q.2), List.append_nil]
    · have hX0 : X0 = [] ∧ (k, e) = ((i : Int), d + 1) ∧ Y0 = [] := by
        cases X0 with
        | nil => injection q1 with q4 q5; exact ⟨rfl, q4.symm, q5.symm⟩
        | cons x X0 => injection q1 with q4 q5; cases X0 <;> cases q5
      obtain ⟨rfl, c2, rfl⟩ := hX0
      cases c2
      rw [q3]
      show kidsR (d + 1) ([] ++ B) = _
      rw [List.nil_append, kidsR_head hB]
      symm
      refine kidsZ_none fun j j1 j2 => ?_
      intro q
      rcases Nat.lt_or_ge j i with hj | hj
      · -- a kid of i among the old ones: its parent would be i
        have hjm : (j : Int) ∈ nums R := (h.mem _).2 ⟨by omega, by omega⟩
        obtain ⟨⟨n, e⟩, hx, e1⟩ := List.mem_map.1 hjm
        obtain ⟨A, C', e2⟩ := List.append_of_mem hx
        simp only at e1
        subst e1
        have hpar := h.par A C' _ e e2 (by omega)
        rw [show (j : Int).toNat = j by omega] at hpar
        have hAne : A ≠ [] := fun hA => by have := (h.wf.root e2).2 hA; omega
        obtain ⟨_, A1', m, A2', eA, hA2, hpe⟩ := h.wf.parent e2 hAne
        have hmi : m = i := by rw [← q, ← hpar, hpe]
        exact hnew (by rw [e2, eA, ← hmi]; simp [nums])
      · have : j = i := by omega
        subst this
        omega
    · have hko := h.kids (A1 ++ ((pa i : Int), d) :: A2 ++ X0) Y k e (by rw [hR2, q1]; simp)
      rw [hko]
      have hne : (pa i : Int) ≠ k := fun q => by
        have hw := h.wf.nodup
        rw [hR2, q1, nums_append, List.nodup_append] at hw
        exact hw.2.2 (pa i : Int) (by simp [nums]) k (by simp [nums]) q
      show _ = kidsZ pa i k ++ _
      rw [if_neg (fun q => hne q.2), List.append_nil]
  · intro X Y k e hsp hk0
    rcases split3 hsp with ⟨Y0, q1, q2⟩ | ⟨X0, Y0, q1, q2, q3⟩ | ⟨X0, q1, q2⟩
    · exact h.par X (Y0 ++ B) k e (by rw [hR2, q1]; simp) hk0
    · have hX0 : X0 = [] ∧ (k, e) = ((i : Int), d + 1) ∧ Y0 = [] := by
        cases X0 with
        | nil => injection q1 with q4 q5; exact ⟨rfl, q4.symm, q5.symm⟩
        | cons x X0 => injection q1 with q4 q5; cases X0 <;> cases q5
      obtain ⟨rfl, c2, rfl⟩ := hX0
      cases c2
      rw [q2, List.append_nil, par_head hab, show (i : Int).toNat = i by omega]
    · rw [q2, hi.parB q1]
      exact h.par (A1 ++ ((pa i : Int), d) :: A2 ++ X0) Y k e (by rw [hR2, q1]; simp) hk0
  · intro x hx
    rcases List.mem_append.1 hx with hx | hx
    · rcases List.mem_append.1 hx with hx | hx
      · exact h.deep x (by rw [hR2]; exact List.mem_append_left _ hx)
      · simp at hx; subst hx; show d + 1 ≤ (i : Int); omega
    · exact h.deep x (by rw [hR2]; exact List.mem_append_right _ hx)
end Go.Proofs.Ytjcbphhemmdnjaa
