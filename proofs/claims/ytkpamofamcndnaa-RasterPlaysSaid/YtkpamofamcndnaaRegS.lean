/- Two regions joined: bands put right, and just the pixels that are kept. Plain. -/
import Derived.Test.YtkpamofamcndnaaRegQ
namespace Go.Proofs.Ytkpamofamcndnaa
set_option linter.unusedSimpArgs false
set_option linter.unusedVariables false

/-- Sorted, each once. -/
def insD (x : Int) : List Int → List Int
  | [] => [x]
  | y :: l => if x < y then x :: y :: l else if x = y then y :: l else y :: insD x l
def sortD : List Int → List Int
  | [] => []
  | x :: l => insD x (sortD l)
theorem insD_mem {x e : Int} : ∀ {l : List Int}, e ∈ insD x l ↔ e = x ∨ e ∈ l
  | [] => by simp [insD]
  | y :: l => by
    show e ∈ (if x < y then x :: y :: l else if x = y then y :: l else y :: insD x l) ↔ _
    by_cases c : x < y
    · rw [if_pos c]; simp
    · rw [if_neg c]
      by_cases d : x = y
      · rw [if_pos d, d]; simp
      · rw [if_neg d]
        simp only [List.mem_cons, insD_mem (l := l)]
        constructor
        · rintro (h | h | h)
          · exact .inr (.inl h)
          · exact .inl h
          · exact .inr (.inr h)
        · rintro (h | h | h)
          · exact .inr (.inl h)
          · exact .inl h
          · exact .inr (.inr h)
theorem insD_up {m x : Int} : ∀ {l : List Int}, m < x → Up m l → Up m (insD x l)
  | [], h, _ => ⟨h, trivial⟩
  | y :: l, h, hu => by
    show Up m (if x < y then x :: y :: l else if x = y then y :: l else y :: insD x l)
    by_cases c : x < y
    · rw [if_pos c]; exact ⟨h, c, hu.2⟩
    · rw [if_neg c]
      by_cases d : x = y
      · rw [if_pos d]; exact hu
      · rw [if_neg d]; exact ⟨hu.1, insD_up (by omega) hu.2⟩
theorem sortD_mem {e : Int} : ∀ {l : List Int}, e ∈ sortD l ↔ e ∈ l
  | [] => Iff.rfl
  | x :: l => by
    show e ∈ insD x (sortD l) ↔ _
    rw [insD_mem, sortD_mem, List.mem_cons]
theorem sortD_up {m : Int} : ∀ {l : List Int}, (∀ x ∈ l, m < x) → Up m (sortD l)
  | [], _ => trivial
  | x :: l, h => insD_up (h x (.head _)) (sortD_up fun y hy => h y (.tail _ hy))
theorem up_uniq : ∀ {m : Int} {a b : List Int}, Up m a → Up m b → (∀ e, e ∈ a ↔ e ∈ b) → a = b
  | m, [], [], _, _, _ => rfl
  | m, [], y :: b, _, _, h => by have := (h y).2 (.head _); cases this
  | m, x :: a, [], _, _, h => by have := (h x).1 (.head _); cases this
  | m, x :: a, y :: b, ha, hb, h => by
    have e : x = y := by
      have h1 := (h x).1 (.head _)
      have h2 := (h y).2 (.head _)
      cases h1 with
      | head => rfl
      | tail _ h1 =>
        cases h2 with
        | head => rfl
        | tail _ h2 => have := hb.2.lt x h1; have := ha.2.lt y h2; omega
    subst e
    congr 1
    refine up_uniq ha.2 hb.2 (fun e => ⟨fun he => ?_, fun he => ?_⟩)
    · have := (h e).1 (.tail _ he)
      cases this with
      | head => have := ha.2.lt x he; omega
      | tail _ q => exact q
    · have := (h e).2 (.tail _ he)
      cases this with
      | head => have := hb.2.lt x he; omega
      | tail _ q => exact q
theorem min_below : ∀ l : List Int, ∃ m : Int, ∀ x ∈ l, m < x
  | [] => ⟨0, by simp⟩
  | x :: l => by
    obtain ⟨m, h⟩ := min_below l
    refine ⟨min m (x - 1), fun y hy => ?_⟩
    cases hy with
    | head => omega
    | tail _ hy => have := h y hy; omega
/-- Sorted strictly, with the same elements: that is it. -/
theorem sortD_of {P l : List Int} {m : Int} (hP : Up m P) (h : ∀ e, e ∈ P ↔ e ∈ l) : P = sortD l := by
  have hl : ∀ x ∈ l, m < x := fun x hx => hP.lt x ((h x).2 hx)
  exact up_uniq hP (sortD_up hl) (fun e => by rw [sortD_mem]; exact h e)
def heightsL (A : List BandZ) : List Int := A.flatMap fun b => [b.y0, b.y1]
theorem heights_ge {lo : Int} : ∀ {A : List BandZ} {m : Int} {e : List Int}, OkB lo m e A → ∀ z ∈ heightsL A, m ≤ z
  | [], m, e, _, z, hz => by cases hz
  | a :: A, m, e, h, z, hz => by
    have hz : z ∈ a.y0 :: a.y1 :: heightsL A := hz
    obtain ⟨h1, h2, _, _, _, h6⟩ := h
    cases hz with
    | head => exact h1
    | tail _ hz =>
      cases hz with
      | head => omega
      | tail _ hz => have := heights_ge h6 z hz; omega
theorem rowB_const : ∀ {A : List BandZ} {p y : Int}, p ≤ y → (∀ z ∈ heightsL A, p < z → ¬ z ≤ y) → rowB A y = rowB A p
  | [], p, y, _, _ => rfl
  | a :: A, p, y, hp, h => by
    have h0 := h a.y0 (by show a.y0 ∈ a.y0 :: a.y1 :: heightsL A; simp)
    have h1 := h a.y1 (by show a.y1 ∈ a.y0 :: a.y1 :: heightsL A; simp)
    have ih := rowB_const (A := A) hp (fun z hz => h z (by show z ∈ a.y0 :: a.y1 :: heightsL A; simp [hz]))
    show (if _ then _ else _) = if _ then _ else _
    by_cases c : a.y0 ≤ p ∧ p < a.y1
    · rw [if_pos c, if_pos (by
        refine ⟨by omega, ?_⟩
        have := h1 c.2
        omega)]
    · rw [if_neg c, if_neg (fun q => by
        by_cases d : p < a.y0
        · exact h0 d q.1
        · exact c ⟨by omega, by omega⟩), ih]
theorem rowB_out : ∀ {A : List BandZ} {y : Int}, (∀ z ∈ heightsL A, y < z) ∨ (∀ z ∈ heightsL A, z ≤ y) → rowB A y = []
  | [], y, _ => rfl
  | a :: A, y, h => by
    have m0 : a.y0 ∈ heightsL (a :: A) := by show a.y0 ∈ a.y0 :: a.y1 :: heightsL A; simp
    have m1 : a.y1 ∈ heightsL (a :: A) := by show a.y1 ∈ a.y0 :: a.y1 :: heightsL A; simp
    have mm : ∀ z ∈ heightsL A, z ∈ heightsL (a :: A) := fun z hz => by show z ∈ a.y0 :: a.y1 :: heightsL A; simp [hz]
    have ih := rowB_out (A := A) (y := y) (h.imp (fun h z hz => h z (mm z hz)) (fun h z hz => h z (mm z hz)))
    show (if _ then _ else _) = _
    rw [if_neg (fun q => by
      rcases h with h | h
      · have := h _ m0; omega
      · have := h _ m1; omega), ih]
/-- The runs of a row of both. -/
def rowZ (keep : Bool → Bool → Bool) (A B : List BandZ) (y : Int) : List Int := runsZ keep (sortD (rowB A y ++ rowB B y)) (rowB A y) (rowB B y)
/-- Two regions joined. -/
def combZ (keep : Bool → Bool → Bool) (A B : List BandZ) : List BandZ := combB (rowZ keep A B) [] (sortD (heightsL A ++ heightsL B))
theorem combZ_ok {keep : Bool → Bool → Bool} (hk : keep false false = false) {lo m : Int} {A B : List BandZ} (hA : OkB lo m [] A) (hB : OkB lo m [] B) :
    OkB lo m [] (combZ keep A B) ∧ ∀ x y, hasB (combZ keep A B) x y = keep (hasB A x y) (hasB B x y) := by
  have hUp : ∀ y, Up lo (sortD (rowB A y ++ rowB B y)) := fun y => sortD_up (fun x hx => by
    rcases List.mem_append.1 hx with hx | hx
    · exact (rowB_up hA y).lt x hx
    · exact (rowB_up hB y).lt x hx)
  have hF : ∀ y, Up lo (rowZ keep A B y) := fun y => runsZ_up (hUp y)
  have hin : ∀ x y, inR (rowZ keep A B y) x = keep (hasB A x y) (hasB B x y) := fun x y =>
    runsZ_in hk (hUp y) (fun e he => sortD_mem.2 (List.mem_append_left _ he)) (fun e he => sortD_mem.2 (List.mem_append_right _ he)) x
  have hH : ∀ z, z ∈ sortD (heightsL A ++ heightsL B) ↔ z ∈ heightsL A ∨ z ∈ heightsL B := fun z => by rw [sortD_mem, List.mem_append]
  have hHu : Up (m - 1) (sortD (heightsL A ++ heightsL B)) := sortD_up (fun x hx => by
    rcases List.mem_append.1 hx with hx | hx
    · have := heights_ge hA x hx; omega
    · have := heights_ge hB x hx; omega)
  unfold combZ
  cases hs : sortD (heightsL A ++ heightsL B) with
  | nil =>
    rw [hs] at hH
    refine ⟨trivial, fun x y => ?_⟩
    have eA : rowB A y = [] := rowB_out (.inl fun z hz => by have := (hH z).2 (.inl hz); cases this)
    have eB : rowB B y = [] := rowB_out (.inl fun z hz => by have := (hH z).2 (.inr hz); cases this)
    unfold hasB
    rw [eA, eB]
    exact hk.symm
  | cons y0 at_ =>
    rw [hs] at hH hHu
    have hconst : ∀ p y, p ≤ y → (∀ z ∈ y0 :: at_, p < z → ¬ z ≤ y) → rowZ keep A B y = rowZ keep A B p := fun p y hp h => by
      have e1 := rowB_const (A := A) hp (fun z hz => h z ((hH z).2 (.inl hz)))
      have e2 := rowB_const (A := B) hp (fun z hz => h z ((hH z).2 (.inr hz)))
      unfold rowZ
      rw [e1, e2]
    obtain ⟨r1, r2⟩ := combB_ok (lo := lo) (m := m) (out := []) hF hHu.2 trivial (by have := hHu.1; show m ≤ y0; omega)
      (fun y hy hz _ => hconst y0 y hy (fun z hz1 hlt => by
        cases hz1 with
        | head => omega
        | tail _ hz1 => exact hz z hz1))
      (fun p hpm y hy hz _ => hconst p y hy (fun z hz1 hlt => by
        cases hz1 with
        | head => have := hHu.2.lt p hpm; omega
        | tail _ hz1 => exact hz z hz1 hlt))
    refine ⟨r1, fun x y => ?_⟩
    show inR (rowB (combB (rowZ keep A B) [] (y0 :: at_)) y) x = _
    rw [r2 y]
    by_cases c : y0 ≤ y ∧ ∃ z ∈ at_, y < z
    · rw [if_pos c]; exact hin x y
    · rw [if_neg c]
      have hout : (∀ z ∈ y0 :: at_, y < z) ∨ (∀ z ∈ y0 :: at_, z ≤ y) := by
        by_cases d : y0 ≤ y
        · refine .inr (fun z hz => Int.not_lt.1 fun q => ?_)
          cases hz with
          | head => omega
          | tail _ hz => exact c ⟨d, z, hz, q⟩
        · refine .inl (fun z hz => ?_)
          cases hz with
          | head => omega
          | tail _ hz => have := hHu.2.lt z hz; omega
      have eA : rowB A y = [] := rowB_out (hout.imp (fun h z hz => h z ((hH z).2 (.inl hz))) (fun h z hz => h z ((hH z).2 (.inl hz))))
      have eB : rowB B y = [] := rowB_out (hout.imp (fun h z hz => h z ((hH z).2 (.inr hz))) (fun h z hz => h z ((hH z).2 (.inr hz))))
      unfold hasB
      rw [eA, eB]
      exact hk.symm
end Go.Proofs.Ytkpamofamcndnaa
