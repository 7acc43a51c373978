/- Trees as rows (number, depth) in order: what is below a row, its kids, its parent; rows put in and taken away. Plain. -/
import Derived.Test.YtjcbphhemmdnjaaOwn
namespace Go.Proofs.Ytjcbphhemmdnjaa
set_option linter.unusedSimpArgs false
set_option linter.unusedVariables false

abbrev Rows := List (Int × Int)
def nums (R : Rows) : List Int := R.map (·.1)
/-- What is below a row of depth d, of those behind it. -/
def subR (d : Int) : Rows → Rows
  | [] => []
  | x :: C => if d < x.2 then x :: subR d C else []
/-- Rows of one depth. -/
def lvl (e : Int) : Rows → List Int
  | [] => []
  | x :: C => if x.2 = e then x.1 :: lvl e C else lvl e C
def kidsR (d : Int) (C : Rows) : List Int := lvl (d + 1) (subR d C)
/-- The parent of a row of depth d: the last one ahead of it that is less deep. -/
def parR (d : Int) : Rows → Int
  | [] => -1
  | x :: l => if x.2 < d then x.1 else parR d l
/-- Not below depth d + 1 at its head. -/
def HeadLe (e : Int) (B : Rows) : Prop := ∀ x C, B = x :: C → x.2 ≤ e
theorem lvl_append (e : Int) : ∀ A B : Rows, lvl e (A ++ B) = lvl e A ++ lvl e B
  | [], B => rfl
  | x :: A, B => by
    show (if x.2 = e then x.1 :: lvl e (A ++ B) else lvl e (A ++ B)) = (if x.2 = e then x.1 :: lvl e A else lvl e A) ++ lvl e B
    rw [lvl_append e A B]; split <;> rfl
theorem lvl_none {e : Int} : ∀ {A : Rows}, (∀ x ∈ A, x.2 ≠ e) → lvl e A = []
  | [], _ => rfl
  | x :: A, h => by
    show (if x.2 = e then _ else _) = _
    rw [if_neg (h x (.head _)), lvl_none (fun y hy => h y (.tail _ hy))]
theorem subR_append {d : Int} : ∀ {A B : Rows}, (∀ x ∈ A, d < x.2) → subR d (A ++ B) = A ++ subR d B
  | [], B, _ => rfl
  | x :: A, B, h => by
    show (if d < x.2 then x :: subR d (A ++ B) else []) = _
    rw [if_pos (h x (.head _)), subR_append (fun y hy => h y (.tail _ hy))]; rfl
theorem subR_stop {d : Int} : ∀ {A B : Rows}, (∃ x ∈ A, x.2 ≤ d) → subR d (A ++ B) = subR d A
  | [], B, h => by obtain ⟨_, h, _⟩ := h; cases h
  | x :: A, B, h => by
    show (if d < x.2 then x :: subR d (A ++ B) else []) = if d < x.2 then x :: subR d A else []
    by_cases c : d < x.2
    · rw [if_pos c, if_pos c, subR_stop]
      obtain ⟨y, hy, hd⟩ := h
      cases hy with
      | head => omega
      | tail _ hy => exact ⟨y, hy, hd⟩
    · rw [if_neg c, if_neg c]
theorem subR_head {d : Int} {B : Rows} (h : HeadLe d B) : subR d B = [] := by
  cases B with
  | nil => rfl
  | cons x C => show (if d < x.2 then _ else _) = _; rw [if_neg (by have := h x C rfl; omega)]
theorem subR_all {d : Int} : ∀ {C : Rows}, ∀ x ∈ subR d C, d < x.2
  | [], x, h => by cases h
  | y :: C, x, h => by
    unfold subR at h
    by_cases c : d < y.2
    · rw [if_pos c] at h
      cases h with
      | head => exact c
      | tail _ h => exact subR_all x h
    · rw [if_neg c] at h; cases h
/-- What is below, and what is behind that. -/
theorem subR_split (d : Int) : ∀ C : Rows, ∃ B, C = subR d C ++ B ∧ HeadLe d B
  | [] => ⟨[], rfl, fun x C h => by cases h⟩
  | y :: C => by
    unfold subR
    by_cases c : d < y.2
    · rw [if_pos c]
      obtain ⟨B, hB, hh⟩ := subR_split d C
      exact ⟨B, by rw [List.cons_append, ← hB], hh⟩
    · rw [if_neg c]
      exact ⟨y :: C, rfl, fun x C' h => by cases h; omega⟩
theorem kidsR_append {d : Int} {A B : Rows} (h : ∀ x ∈ A, d < x.2) : kidsR d (A ++ B) = lvl (d + 1) A ++ kidsR d B := by
  unfold kidsR; rw [subR_append h, lvl_append]
theorem kidsR_stop {d : Int} {A B : Rows} (h : ∃ x ∈ A, x.2 ≤ d) : kidsR d (A ++ B) = kidsR d A := by unfold kidsR; rw [subR_stop h]
theorem kidsR_head {d : Int} {B : Rows} (h : HeadLe d B) : kidsR d B = [] := by unfold kidsR; rw [subR_head h]; rfl
theorem kidsR_end {d : Int} {A B : Rows} (h : HeadLe d B) : kidsR d (A ++ B) = kidsR d A := by
  by_cases c : ∃ x ∈ A, x.2 ≤ d
  · exact kidsR_stop c
  · have h2 : ∀ x ∈ A, d < x.2 := fun x hx => Int.not_le.1 fun q => c ⟨x, hx, q⟩
    rw [kidsR_append h2, kidsR_head h, List.append_nil]
    have := kidsR_append (d := d) (B := []) h2
    rw [List.append_nil] at this
    rw [this]; simp [kidsR, subR, lvl]
theorem HeadLe.mono {e f : Int} {B : Rows} (h : HeadLe e B) (k : e ≤ f) : HeadLe f B := fun x C q => Int.le_trans (h x C q) k
/-- Put in ahead of B: the kids of one in A. -/
theorem kids_ins {d dp : Int} {n : Int} {Y S' B : Rows} (hS : ∀ x ∈ S', dp + 1 < x.2) (hB : HeadLe (dp + 1) B) (h : dp < d ∨ ∃ y ∈ Y, y.2 ≤ dp) :
    kidsR d (Y ++ ((n, dp + 1) :: S') ++ B) = kidsR d (Y ++ B) := by
  rw [List.append_assoc]
  by_cases c : ∃ x ∈ Y, x.2 ≤ d
  · rw [kidsR_stop c, kidsR_stop c]
  · have h2 : ∀ x ∈ Y, d < x.2 := fun x hx => Int.not_le.1 fun q => c ⟨x, hx, q⟩
    rw [kidsR_append h2, kidsR_append h2]
    congr 1
    rcases h with h | ⟨y, hy, hd⟩
    · rw [kidsR_head (fun x C q => by cases q; show dp + 1 ≤ d; omega), kidsR_head (hB.mono (by omega))]
    · have hlt : d < dp := by have := h2 y hy; omega
      have h3 : ∀ x ∈ ((n, dp + 1) :: S' : Rows), d < x.2 := fun x hx => by
        cases hx with
        | head => show d < dp + 1; omega
        | tail _ hx => have := hS x hx; omega
      rw [kidsR_append h3, lvl_none (fun x hx => by
        cases hx with
        | head => show dp + 1 ≠ d + 1; omega
        | tail _ hx => have := hS x hx; omega)]
      rfl
/-- .. and those of the one that it is put below. -/
theorem kids_put {dp : Int} {n : Int} {A2 S' B : Rows} (hA : ∀ x ∈ A2, dp < x.2) (hS : ∀ x ∈ S', dp + 1 < x.2) :
    kidsR dp (A2 ++ ((n, dp + 1) :: S') ++ B) = lvl (dp + 1) A2 ++ n :: kidsR dp B ∧ kidsR dp (A2 ++ B) = lvl (dp + 1) A2 ++ kidsR dp B := by
  refine ⟨?_, kidsR_append hA⟩
  rw [List.append_assoc, kidsR_append hA]
  have h3 : ∀ x ∈ ((n, dp + 1) :: S' : Rows), dp < x.2 := fun x hx => by
    cases hx with
    | head => show dp < dp + 1; omega
    | tail _ hx => have := hS x hx; omega
  rw [kidsR_append h3]
  congr 1
  show (if dp + 1 = dp + 1 then n :: lvl (dp + 1) S' else _) ++ _ = _
  rw [if_pos rfl, lvl_none (fun x hx => by have := hS x hx; omega)]
  rfl
theorem parR_append {d : Int} : ∀ {l m : Rows}, (∀ x ∈ l, d ≤ x.2) → parR d (l ++ m) = parR d m
  | [], m, _ => rfl
  | x :: l, m, h => by
    show (if x.2 < d then _ else _) = _
    rw [if_neg (by have := h x (.head _); omega)]
    exact parR_append (fun y hy => h y (.tail _ hy))
theorem parR_found {d : Int} : ∀ {l m : Rows}, (∃ x ∈ l, x.2 < d) → parR d (l ++ m) = parR d l
  | [], m, h => by obtain ⟨_, h, _⟩ := h; cases h
  | x :: l, m, h => by
    show (if x.2 < d then x.1 else parR d (l ++ m)) = if x.2 < d then x.1 else parR d l
    by_cases c : x.2 < d
    · rw [if_pos c, if_pos c]
    · rw [if_neg c, if_neg c, parR_found]
      obtain ⟨y, hy, hd⟩ := h
      cases hy with
      | head => exact absurd hd c
      | tail _ hy => exact ⟨y, hy, hd⟩
/-- Put in ahead of B: the parent of one in B. -/
theorem par_ins {d dp : Int} {A S X : Rows} {m : Int × Int} {Y : Rows} (hS : ∀ x ∈ S, dp + 1 ≤ x.2) (hB : HeadLe (dp + 1) (X ++ m :: Y)) (hd : m.2 = d) :
    parR d ((A ++ S) ++ X).reverse = parR d (A ++ X).reverse := by
  simp only [List.reverse_append]
  by_cases c : ∃ x ∈ X.reverse, x.2 < d
  · rw [parR_found c, parR_found c]
  · have h2 : ∀ x ∈ X.reverse, d ≤ x.2 := fun x hx => Int.not_lt.1 fun q => c ⟨x, hx, q⟩
    rw [parR_append h2, parR_append h2]
    have hle : d ≤ dp + 1 := by
      cases X with
      | nil => have := hB m Y rfl; omega
      | cons x X => have := hB x (X ++ m :: Y) rfl; have := h2 x (by simp); omega
    rw [parR_append (fun x hx => by have := hS x (by simpa using hx); omega)]
/-- The parent of the head of what is put in. -/
theorem par_head {dp p : Int} {A1 A2 : Rows} (hA : ∀ x ∈ A2, dp < x.2) : parR (dp + 1) (A1 ++ (p, dp) :: A2).reverse = p := by
  simp only [List.reverse_append, List.reverse_cons, List.append_assoc]
  rw [parR_append (fun x hx => by have := hA x (by simpa using hx); omega)]
  show (if dp < dp + 1 then p else _) = p
  rw [if_pos (by omega)]
/-- .. and of the others of it. -/
theorem par_tail {d dp n : Int} {A X : Rows} (hd : dp + 1 < d) : parR d (A ++ (n, dp + 1) :: X).reverse = parR d ((n, dp + 1) :: X).reverse := by
  simp only [List.reverse_append, List.reverse_cons, List.append_assoc]
  by_cases c : ∃ x ∈ X.reverse, x.2 < d
  · rw [parR_found c, parR_found c]
  · have h2 : ∀ x ∈ X.reverse, d ≤ x.2 := fun x hx => Int.not_lt.1 fun q => c ⟨x, hx, q⟩
    rw [parR_append h2, parR_append h2]
    show (if dp + 1 < d then n else _) = if dp + 1 < d then n else _
    rw [if_pos hd, if_pos hd]
/-! ### what a row is deeper by makes no odds -/
def shiftR (by_ : Int) (S : Rows) : Rows := S.map fun x => (x.1, x.2 + by_)
theorem subR_shift (d k : Int) : ∀ C : Rows, subR (d + k) (shiftR k C) = shiftR k (subR d C)
  | [] => rfl
  | x :: C => by
    show (if d + k < x.2 + k then (x.1, x.2 + k) :: subR (d + k) (shiftR k C) else []) = shiftR k (if d < x.2 then x :: subR d C else [])
    rw [subR_shift d k C]
    by_cases c : d < x.2
    · rw [if_pos c, if_pos (by omega)]; rfl
    · rw [if_neg c, if_neg (by omega)]; rfl
theorem lvl_shift (e k : Int) : ∀ C : Rows, lvl (e + k) (shiftR k C) = lvl e C
  | [] => rfl
  | x :: C => by
    show (if x.2 + k = e + k then x.1 :: lvl (e + k) (shiftR k C) else lvl (e + k) (shiftR k C)) = if x.2 = e then x.1 :: lvl e C else lvl e C
    rw [lvl_shift e k C]
    by_cases c : x.2 = e
    · rw [if_pos c, if_pos (by omega)]
    · rw [if_neg c, if_neg (by omega)]
theorem kidsR_shift (d k : Int) (C : Rows) : kidsR (d + k) (shiftR k C) = kidsR d C := by
  unfold kidsR; rw [subR_shift, show d + k + 1 = d + 1 + k by omega, lvl_shift]
theorem parR_shift (d k : Int) : ∀ C : Rows, parR (d + k) (shiftR k C) = parR d C
  | [] => rfl
  | x :: C => by
    show (if x.2 + k < d + k then x.1 else parR (d + k) (shiftR k C)) = if x.2 < d then x.1 else parR d C
    rw [parR_shift d k C]
    by_cases c : x.2 < d
    · rw [if_pos c, if_pos (by omega)]
    · rw [if_neg c, if_neg (by omega)]
theorem nums_shift (k : Int) (S : Rows) : nums (shiftR k S) = nums S := by simp [nums, shiftR, Function.comp_def]
/-! ### well-formed rows -/
/-- Each row is at most one deeper than the one ahead of it. -/
def Steps : Rows → Prop
  | [] => True
  | [_] => True
  | x :: y :: C => y.2 ≤ x.2 + 1 ∧ Steps (y :: C)
theorem Steps.tail {x : Int × Int} {C : Rows} (h : Steps (x :: C)) : Steps C := by
  cases C with
  | nil => trivial
  | cons y C => exact h.2
theorem Steps.right : ∀ {A B : Rows}, Steps (A ++ B) → Steps B
  | [], B, h => h
  | x :: A, B, h => Steps.right (A := A) (Steps.tail (C := A ++ B) h)
theorem Steps.left : ∀ {A B : Rows}, Steps (A ++ B) → Steps A
  | [], B, h => trivial
  | [x], B, h => trivial
  | x :: y :: A, B, h => ⟨h.1, Steps.left (A := y :: A) (B := B) h.2⟩
/-- Joined where the last of A is not less deep than e, and B begins not deeper than e + 1. -/
theorem Steps.join {e : Int} : ∀ {A B : Rows}, Steps A → Steps B → (∀ A0 x, A = A0 ++ [x] → e ≤ x.2) → HeadLe (e + 1) B → Steps (A ++ B)
  | [], B, _, hB, _, _ => hB
  | [x], B, _, hB, hl, hh => by
    cases B with
    | nil => trivial
    | cons y C => exact ⟨by have := hl [] x rfl; have := hh y C rfl; omega, hB⟩
  | x :: y :: A, B, hA, hB, hl, hh => ⟨hA.1, Steps.join (A := y :: A) hA.2 hB (fun A0 z q => hl (x :: A0) z (by rw [List.cons_append, ← q])) hh⟩
structure WfR (R : Rows) (next : Int) : Prop where
  head : ∃ R', R = (0, 0) :: R' ∧ ∀ x ∈ R', 1 ≤ x.2
  steps : Steps R
  nodup : (nums R).Nodup
  deep : ∀ x ∈ R, x.2 ≤ 64
  num : ∀ x ∈ R, 0 ≤ x.1 ∧ x.1 < next
/-- The parent of a row that is not the root's. -/
theorem par_split {d : Int} : ∀ (l : Rows) (x : Int × Int), Steps ((l.reverse) ++ [x]) → d ≤ x.2 → (∃ y ∈ l, y.2 < d) → ∃ l1 m l2, l = l2 ++ (m, d - 1) :: l1 ∧ (∀ y ∈ l2, d ≤ y.2) ∧ parR d l = m
  | [], x, _, _, h => by obtain ⟨_, h, _⟩ := h; cases h
  | z :: l, x, hs, hx, h => by
    by_cases c : z.2 < d
    · have hs2 : Steps (z :: [x]) := by
        rw [List.reverse_cons, List.append_assoc] at hs
        exact hs.right
      have : x.2 ≤ z.2 + 1 := hs2.1
      have hz : z = (z.1, d - 1) := by rw [show d - 1 = z.2 by omega]
      refine ⟨l, z.1, [], by rw [List.nil_append, ← hz], fun y hy => (by cases hy), ?_⟩
      show (if z.2 < d then z.1 else _) = _
      rw [if_pos c]
    · have h2 : ∃ y ∈ l, y.2 < d := by
        obtain ⟨y, hy, hd⟩ := h
        cases hy with
        | head => exact absurd hd c
        | tail _ hy => exact ⟨y, hy, hd⟩
      obtain ⟨l1, m, l2, e, h3, h4⟩ := par_split l z (by rw [List.reverse_cons] at hs; exact hs.left) (by omega) h2
      refine ⟨l1, m, z :: l2, by rw [e]; rfl, fun y hy => ?_, ?_⟩
      · cases hy with
        | head => omega
        | tail _ hy => exact h3 y hy
      · show (if z.2 < d then z.1 else parR d l) = _
        rw [if_neg c, h4]
theorem WfR.parent {R : Rows} {next : Int} (h : WfR R next) {A C : Rows} {n d : Int} (e : R = A ++ (n, d) :: C) (hA : A ≠ []) : 1 ≤ d ∧ ∃ A1 m A2, A = A1 ++ (m, d - 1) :: A2 ∧ (∀ y ∈ A2, d ≤ y.2) ∧ parR d A.reverse = m := by
  obtain ⟨R', hR, hall⟩ := h.head
  cases A with
  | nil => exact absurd rfl hA
  | cons a A =>
    rw [hR] at e
    injection e with e1 e2
    have e2 : R' = A ++ (n, d) :: C := e2
    subst e1
    have hd : 1 ≤ d := hall (n, d) (by rw [e2]; simp)
    refine ⟨hd, ?_⟩
    have hst : Steps ((((0, 0) :: A).reverse).reverse ++ [(n, d)]) := by
      rw [List.reverse_reverse]
      have hs := h.steps
      rw [hR, e2, show ((0, 0) :: (A ++ (n, d) :: C) : Rows) = (((0, 0) :: A) ++ [(n, d)]) ++ C by simp] at hs
      exact hs.left
    obtain ⟨l1, m, l2, e, h3, h4⟩ := par_split ((0, 0) :: A).reverse (n, d) hst (Int.le_refl _) ⟨(0, 0), by simp, by show (0 : Int) < d; omega⟩
    refine ⟨l1.reverse, m, l2.reverse, ?_, fun y hy => h3 y (by simpa using hy), h4⟩
    have := congrArg List.reverse e
    simpa using this
theorem WfR.root {R : Rows} {next : Int} (h : WfR R next) {A C : Rows} {n d : Int} (e : R = A ++ (n, d) :: C) : n = 0 ↔ A = [] := by
  obtain ⟨R', hR, hall⟩ := h.head
  constructor
  · intro hn
    cases A with
    | nil => rfl
    | cons a A =>
      have hnd := h.nodup
      have e3 := hR.symm.trans e
      injection e3 with e1 e2
      subst hn
      rw [e, ← e1] at hnd
      simp [nums] at hnd
  · intro hA
    subst hA
    rw [hR] at e
    injection e with e1 e2
    cases e1; rfl
/-! ### rows put in -/
theorem split2 {A B X Y : Rows} {m : Int × Int} (h : A ++ B = X ++ m :: Y) : (∃ Y0, A = X ++ m :: Y0 ∧ Y = Y0 ++ B) ∨ (∃ X0, B = X0 ++ m :: Y ∧ X = A ++ X0) := by
  rcases List.append_eq_append_iff.1 h with ⟨a, h1, h2⟩ | ⟨c, h1, h2⟩
  · exact .inr ⟨a, h2, h1⟩
  · cases c with
    | nil => exact .inr ⟨[], by rw [List.nil_append] at h2 ⊢; exact h2.symm, by rw [h1, List.append_nil, List.append_nil]⟩
    | cons x c =>
      rw [List.cons_append] at h2
      injection h2 with e1 e2
      subst e1
      exact .inl ⟨c, h1, e2⟩
theorem split3 {A S B X Y : Rows} {m : Int × Int} (h : A ++ S ++ B = X ++ m :: Y) : (∃ Y0, A = X ++ m :: Y0 ∧ Y = Y0 ++ S ++ B) ∨ (∃ X0 Y0, S = X0 ++ m :: Y0 ∧ X = A ++ X0 ∧ Y = Y0 ++ B) ∨ (∃ X0, B = X0 ++ m :: Y ∧ X = A ++ S ++ X0) := by
  rcases split2 h with ⟨Y0, h1, h2⟩ | ⟨X0, h1, h2⟩
  · rcases split2 h1 with ⟨Y1, h3, h4⟩ | ⟨X1, h3, h4⟩
    · exact .inl ⟨Y1, h3, by rw [h2, h4]⟩
    · exact .inr (.inl ⟨X1, Y0, h3, h4, h2⟩)
  · exact .inr (.inr ⟨X0, h1, h2⟩)
/-- Where a row stands, seen from the one that something is put below. -/
theorem split_p {A1 A2 X Y0 : Rows} {q m : Int × Int} (h : A1 ++ q :: A2 = X ++ m :: Y0) : (∃ Y1, A1 = X ++ m :: Y1 ∧ Y0 = Y1 ++ q :: A2) ∨ (X = A1 ∧ m = q ∧ Y0 = A2) ∨ (∃ X1, A2 = X1 ++ m :: Y0 ∧ X = A1 ++ q :: X1) := by
  rcases split2 h with ⟨Y1, h1, h2⟩ | ⟨X0, h1, h2⟩
  · exact .inl ⟨Y1, h1, h2⟩
  · cases X0 with
    | nil =>
      rw [List.nil_append] at h1
      injection h1 with e1 e2
      exact .inr (.inl ⟨by rw [h2, List.append_nil], e1.symm, e2.symm⟩)
    | cons x X0 =>
      rw [List.cons_append] at h1
      injection h1 with e1 e2
      subst e1
      exact .inr (.inr ⟨X0, e2, h2⟩)
/-- S can be put in between A and B, below (p, dp). -/
structure InsOk (A S B A1 A2 S' : Rows) (p dp n : Int) : Prop where
  ha : A = A1 ++ (p, dp) :: A2
  hs : S = (n, dp + 1) :: S'
  above : ∀ x ∈ A2, dp < x.2
  low : ∀ x ∈ S', dp + 1 < x.2
  head : HeadLe (dp + 1) B
theorem InsOk.all {A S B A1 A2 S' : Rows} {p dp n : Int} (h : InsOk A S B A1 A2 S' p dp n) : ∀ x ∈ S, dp + 1 ≤ x.2 := fun x hx => by
  rw [h.hs] at hx
  cases hx with
  | head => exact Int.le_refl _
  | tail _ hx => exact Int.le_of_lt (h.low x hx)
/-- The kids of each row of A, but for p. -/
theorem InsOk.kidsA {A S B A1 A2 S' : Rows} {p dp n : Int} (h : InsOk A S B A1 A2 S' p dp n) {X Y0 : Rows} {m d : Int} (e : A = X ++ (m, d) :: Y0) (hm : ¬ (X = A1 ∧ (m, d) = (p, dp) ∧ Y0 = A2)) : kidsR d (Y0 ++ S ++ B) = kidsR d (Y0 ++ B) := by
  rw [h.hs]
  rw [h.ha] at e
  refine kids_ins h.low h.head ?_
  rcases split_p e with ⟨Y1, h1, h2⟩ | h1 | ⟨X1, h1, h2⟩
  · exact .inr ⟨(p, dp), by rw [h2]; simp, Int.le_refl _⟩
  · exact absurd h1 hm
  · exact .inl (h.above (m, d) (by rw [h1]; simp))
theorem InsOk.kidsP {A S B A1 A2 S' : Rows} {p dp n : Int} (h : InsOk A S B A1 A2 S' p dp n) : kidsR dp (A2 ++ S ++ B) = lvl (dp + 1) A2 ++ n :: kidsR dp B ∧ kidsR dp (A2 ++ B) = lvl (dp + 1) A2 ++ kidsR dp B := by
  rw [h.hs]; exact kids_put h.above h.low
theorem InsOk.kidsS {A S B A1 A2 S' : Rows} {p dp n : Int} (h : InsOk A S B A1 A2 S' p dp n) {X0 Y0 : Rows} {m d : Int} (e : S = X0 ++ (m, d) :: Y0) : kidsR d (Y0 ++ B) = kidsR d Y0 := kidsR_end (h.head.mono (h.all (m, d) (by rw [e]; simp)))
theorem InsOk.parS {A S B A1 A2 S' : Rows} {p dp n : Int} (h : InsOk A S B A1 A2 S' p dp n) {X0 Y0 : Rows} {m d : Int} (e : S = X0 ++ (m, d) :: Y0) : (X0 = [] → (m, d) = (n, dp + 1) ∧ Y0 = S' ∧ parR d (A ++ X0).reverse = p) ∧ (X0 ≠ [] → parR d (A ++ X0).reverse = parR d X0.reverse ∧ (m, d) ∈ S') := by
  rw [h.hs] at e
  cases X0 with
  | nil =>
    rw [List.nil_append] at e
    injection e with e1 e2
    refine ⟨fun _ => ⟨e1.symm, e2.symm, ?_⟩, fun q => absurd rfl q⟩
    cases e1
    rw [List.append_nil, h.ha]
    exact par_head h.above
  | cons x X0 =>
    rw [List.cons_append] at e
    injection e with e1 e2
    refine ⟨fun q => (by cases q), fun _ => ?_⟩
    have hm : (m, d) ∈ S' := by rw [e2]; simp
    subst e1
    exact ⟨par_tail (h.low _ hm), hm⟩
theorem InsOk.parB {A S B A1 A2 S' : Rows} {p dp n : Int} (h : InsOk A S B A1 A2 S' p dp n) {X0 Y : Rows} {m d : Int} (e : B = X0 ++ (m, d) :: Y) : parR d ((A ++ S) ++ X0).reverse = parR d (A ++ X0).reverse := par_ins h.all (by rw [← e]; exact h.head) rfl
theorem nums_append (A B : Rows) : nums (A ++ B) = nums A ++ nums B := by simp [nums]
theorem mem_nums {x : Int × Int} {R : Rows} (h : x ∈ R) : x.1 ∈ nums R := List.mem_map_of_mem h
/-- Different parts hold different numbers. -/
theorem nums_apart {A B : Rows} (h : (nums (A ++ B)).Nodup) {x y : Int × Int} (hx : x ∈ A) (hy : y ∈ B) : x.1 ≠ y.1 := by
  rw [nums_append] at h
  exact (List.nodup_append.1 h).2.2 _ (mem_nums hx) _ (mem_nums hy)
theorem steps_last {A1 A2 : Rows} {p dp : Int} (ha : ∀ x ∈ A2, dp < x.2) : ∀ A0 x, A1 ++ (p, dp) :: A2 = A0 ++ [x] → dp ≤ x.2 := fun A0 x e => by
  rcases split_p e with ⟨Y1, h1, h2⟩ | ⟨h1, h2, h3⟩ | ⟨X1, h1, h2⟩
  · simp at h2
  · rw [h2]; exact Int.le_refl _
  · exact Int.le_of_lt (ha x (by rw [h1]; simp))
theorem WfR.ins {A S B A1 A2 S' : Rows} {p dp n next next' : Int} (h : InsOk A S B A1 A2 S' p dp n) (hw : WfR (A ++ B) next) (hS : Steps S) (hn : (nums (A ++ S ++ B)).Nodup) (hd : ∀ x ∈ S, x.2 ≤ 64) (hnum : ∀ x ∈ S, 0 ≤ x.1 ∧ x.1 < next') (hnx : next ≤ next') : WfR (A ++ S ++ B) next' := by
  obtain ⟨R', hR, hall⟩ := hw.head
  have hdp : 0 ≤ dp := by
    have hm : (p, dp) ∈ A ++ B := by rw [h.ha]; simp
    rw [hR] at hm
    cases hm with
    | head => exact Int.le_refl _
    | tail _ hm => have := hall _ hm; show 0 ≤ (p, dp).2; omega
  refine ⟨?_, ?_, hn, fun x hx => ?_, fun x hx => ?_⟩
  · obtain ⟨A', hA⟩ : ∃ A', A = (0, 0) :: A' := by
      cases hA : A with
      | nil => rw [h.ha] at hA; simp at hA
      | cons a A' => rw [hA] at hR; injection hR with e1 e2; exact ⟨A', by rw [e1]⟩
    refine ⟨A' ++ S ++ B, by rw [hA]; rfl, fun x hx => ?_⟩
    rw [hA] at hR
    injection hR with e1 e2
    rcases List.mem_append.1 hx with hx | hx
    · rcases List.mem_append.1 hx with hx | hx
      · exact hall x (by rw [← e2]; exact List.mem_append_left _ hx)
      · have := h.all x hx; omega
    · exact hall x (by rw [← e2]; exact List.mem_append_right _ hx)
  · refine Steps.join (e := dp) (Steps.join (e := dp) hw.steps.left hS ?_ ?_) hw.steps.right ?_ h.head
    · rw [h.ha]; exact steps_last h.above
    · rw [h.hs]; intro x C e; cases e; exact Int.le_refl _
    · intro A0 x e
      rw [h.hs] at e
      rcases split_p e with ⟨Y1, h1, h2⟩ | ⟨h1, h2, h3⟩ | ⟨X1, h1, h2⟩
      · simp at h2
      · rw [h2]; show dp ≤ dp + 1; omega
      · have := h.low x (by rw [h1]; simp); omega
  · rcases List.mem_append.1 hx with hx | hx
    · rcases List.mem_append.1 hx with hx | hx
      · exact hw.deep x (List.mem_append_left _ hx)
      · exact hd x hx
    · exact hw.deep x (List.mem_append_right _ hx)
  · rcases List.mem_append.1 hx with hx | hx
    · rcases List.mem_append.1 hx with hx | hx
      · have := hw.num x (List.mem_append_left _ hx); omega
      · exact hnum x hx
    · have := hw.num x (List.mem_append_right _ hx); omega
theorem WfR.rem {A S B A1 A2 S' : Rows} {p dp n next : Int} (h : InsOk A S B A1 A2 S' p dp n) (hw : WfR (A ++ S ++ B) next) : WfR (A ++ B) next := by
  obtain ⟨R', hR, hall⟩ := hw.head
  refine ⟨?_, ?_, ?_, fun x hx => ?_, fun x hx => ?_⟩
  · obtain ⟨A', hA⟩ : ∃ A', A = (0, 0) :: A' := by
      cases hA : A with
      | nil => rw [h.ha] at hA; simp at hA
      | cons a A' => rw [hA] at hR; injection hR with e1 e2; exact ⟨A', by rw [e1]⟩
    refine ⟨A' ++ B, by rw [hA]; rfl, fun x hx => ?_⟩
    rw [hA] at hR
    injection hR with e1 e2
    refine hall x ?_
    rw [← e2]
    rcases List.mem_append.1 hx with hx | hx
    · exact List.mem_append_left _ (List.mem_append_left _ hx)
    · exact List.mem_append_right _ hx
  · refine Steps.join (e := dp) hw.steps.left.left hw.steps.right ?_ h.head
    rw [h.ha]; exact steps_last h.above
  · have := hw.nodup
    rw [nums_append, nums_append, List.append_assoc] at this
    rw [nums_append]
    have h1 := List.nodup_append.1 this
    have h2 := List.nodup_append.1 h1.2.1
    exact List.nodup_append.2 ⟨h1.1, h2.2.1, fun a ha b hb => h1.2.2 a ha b (List.mem_append_right _ hb)⟩
  · refine hw.deep x ?_
    rcases List.mem_append.1 hx with hx | hx
    · exact List.mem_append_left _ (List.mem_append_left _ hx)
    · exact List.mem_append_right _ hx
  · refine hw.num x ?_
    rcases List.mem_append.1 hx with hx | hx
    · exact List.mem_append_left _ (List.mem_append_left _ hx)
    · exact List.mem_append_right _ hx
/-! ### the place of a kid -/
/-- How many rows stand ahead of the k-th kid (or of the end). -/
def cutR (d : Int) : Nat → Rows → Nat
  | _, [] => 0
  | k, x :: C => if d < x.2 then (if x.2 = d + 1 then (match k with | 0 => 0 | k + 1 => 1 + cutR d k C) else 1 + cutR d k C) else 0
theorem cutR_spec (d : Int) : ∀ (k : Nat) (C : Rows), k ≤ (kidsR d C).length → ∃ A2 B, C = A2 ++ B ∧ A2.length = cutR d k C ∧ (∀ x ∈ A2, d < x.2) ∧ HeadLe (d + 1) B ∧ (lvl (d + 1) A2).length = k
  | k, [], hk => ⟨[], [], rfl, by cases k <;> rfl, by simp, fun x C h => (by cases h), by simp [kidsR, subR, lvl] at hk; simp [lvl, hk]⟩
  | k, x :: C, hk => by
    by_cases c : d < x.2
    · have hsub : subR d (x :: C) = x :: subR d C := by show (if d < x.2 then _ else _) = _; rw [if_pos c]
      by_cases c2 : x.2 = d + 1
      · have hkids : kidsR d (x :: C) = x.1 :: kidsR d C := by
          unfold kidsR; rw [hsub]; show (if x.2 = d + 1 then _ else _) = _; rw [if_pos c2]
        cases k with
        | zero =>
          refine ⟨[], x :: C, rfl, ?_, by simp, fun y C' h => (by cases h; omega), rfl⟩
          show 0 = if d < x.2 then (if x.2 = d + 1 then 0 else _) else 0
          rw [if_pos c, if_pos c2]
        | succ k =>
          rw [hkids] at hk
          obtain ⟨A2, B, h1, h2, h3, h4, h5⟩ := cutR_spec d k C (by simpa using hk)
          refine ⟨x :: A2, B, by rw [h1]; rfl, ?_, fun y hy => ?_, h4, ?_⟩
          · show A2.length + 1 = if d < x.2 then (if x.2 = d + 1 then 1 + cutR d k C else _) else 0
            rw [if_pos c, if_pos c2, h2]; omega
          · cases hy with
            | head => exact c
            | tail _ hy => exact h3 y hy
          · show (if x.2 = d + 1 then x.1 :: lvl (d + 1) A2 else _).length = k + 1
            rw [if_pos c2, List.length_cons, h5]
      · have hkids : kidsR d (x :: C) = kidsR d C := by
          unfold kidsR; rw [hsub]; show (if x.2 = d + 1 then _ else _) = _; rw [if_neg c2]
        rw [hkids] at hk
        obtain ⟨A2, B, h1, h2, h3, h4, h5⟩ := cutR_spec d k C hk
        refine ⟨x :: A2, B, by rw [h1]; rfl, ?_, fun y hy => ?_, h4, ?_⟩
        · have : cutR d k (x :: C) = 1 + cutR d k C := by
            cases k <;> (show (if d < x.2 then (if x.2 = d + 1 then _ else _) else 0) = _; rw [if_pos c, if_neg c2])
          rw [this, List.length_cons, h2]; omega
        · cases hy with
          | head => exact c
          | tail _ hy => exact h3 y hy
        · show (if x.2 = d + 1 then _ else lvl (d + 1) A2).length = k
          rw [if_neg c2, h5]
    · have hk0 : k = 0 := by
        have : subR d (x :: C) = [] := by show (if d < x.2 then _ else _) = _; rw [if_neg c]
        simp [kidsR, this, lvl] at hk; exact hk
      subst hk0
      refine ⟨[], x :: C, rfl, ?_, by simp, fun y C' h => (by cases h; omega), rfl⟩
      show 0 = if d < x.2 then _ else 0
      rw [if_neg c]
/-- Where a number stands. -/
def findR (k : Int) : Rows → Option (Rows × Int × Rows)
  | [] => none
  | x :: C => if x.1 = k then some ([], x.2, C) else (findR k C).map fun (A, d, B) => (x :: A, d, B)
theorem findR_some {k : Int} : ∀ {R A C : Rows} {d : Int}, findR k R = some (A, d, C) → R = A ++ (k, d) :: C ∧ k ∉ nums A
  | [], A, C, d, h => by cases h
  | x :: R, A, C, d, h => by
    unfold findR at h
    by_cases c : x.1 = k
    · rw [if_pos c] at h; cases h
      exact ⟨by rw [← c]; rfl, by simp [nums]⟩
    · rw [if_neg c] at h
      cases hf : findR k R with
      | none => rw [hf] at h; cases h
      | some y =>
        obtain ⟨A', d', C'⟩ := y
        rw [hf] at h
        cases h
        obtain ⟨h1, h2⟩ := findR_some hf
        exact ⟨by rw [h1]; rfl, by simp only [nums, List.map_cons, List.mem_cons, not_or]; exact ⟨fun e => c e.symm, h2⟩⟩
theorem findR_none {k : Int} : ∀ {R : Rows}, findR k R = none ↔ k ∉ nums R
  | [] => by simp [findR, nums]
  | x :: R => by
    unfold findR
    by_cases c : x.1 = k
    · rw [if_pos c]; simp [nums, c]
    · rw [if_neg c]
      simp only [Option.map_eq_none_iff, findR_none (R := R)]
      simp only [nums, List.map_cons, List.mem_cons, not_or]
      exact ⟨fun h => ⟨fun e => c e.symm, h⟩, fun h => h.2⟩
theorem findR_at {k d : Int} {A C : Rows} (h : k ∉ nums A) : findR k (A ++ (k, d) :: C) = some (A, d, C) := by
  induction A with
  | nil => show (if k = k then _ else _) = _; rw [if_pos rfl]
  | cons x A ih =>
    simp only [nums, List.map_cons, List.mem_cons, not_or] at h
    show (if x.1 = k then _ else _) = _
    rw [if_neg (fun e => h.1 e.symm)]
    show (findR k (A ++ (k, d) :: C)).map _ = _
    rw [ih h.2]; rfl
/-! ### what the operations do to rows -/
def addT (R : Rows) (next par at_ : Int) : Rows × Int × Int := match findR par R with
  | none => (R, 0, 9)
  | some (A, d, C) => if at_ < 0 ∨ ((kidsR d C).length : Int) < at_ then (R, 0, 2) else if 1024 ≤ R.length then (R, 0, 8) else if 64 ≤ d then (R, 0, 7)
    else (A ++ (par, d) :: C.take (cutR d at_.toNat C) ++ [(next, d + 1)] ++ C.drop (cutR d at_.toNat C), next, 0)
def dropT (R : Rows) (n : Int) : Rows × Int := if n = 0 then (R, 1) else match findR n R with
  | none => (R, 9)
  | some (A, d, C) => (A ++ C.drop (subR d C).length, 0)
def maxDeep (d : Int) : Rows → Int
  | [] => 0
  | x :: S => max (x.2 - d) (maxDeep d S)
def moveT (R : Rows) (n par at_ : Int) : Rows × Int := if n = 0 then (R, 1) else match findR n R with
  | none => (R, 9)
  | some (A, d, C) => if par ∉ nums R then (R, 9) else if par ∈ nums ((n, d) :: subR d C) then (R, 6) else match findR par (A ++ C.drop (subR d C).length) with
    | none => (R, 0)
    | some (A', d', C') => if at_ < 0 ∨ ((kidsR d' C').length : Int) < at_ then (R, 2) else if 64 < d' + 1 + maxDeep d ((n, d) :: subR d C) then (R, 7)
      else (A' ++ (par, d') :: C'.take (cutR d' at_.toNat C') ++ shiftR (d' + 1 - d) ((n, d) :: subR d C) ++ C'.drop (cutR d' at_.toNat C'), 0)
example : addT [(0, 0)] 1 0 0 = ([(0, 0), (1, 1)], 1, 0) := by decide
end Go.Proofs.Ytjcbphhemmdnjaa
