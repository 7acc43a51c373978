/- Lengths: fixed.Of, fixed.Sub, fixed.Add by what they answer. -/
import Derived.Test.YtjcbphhemmdnjaaDrew
import Derived.Test.YtjcbphhemmdnjaaAdd
-- SOFT
namespace Go.Proofs.Ytjcbphhemmdnjaa
open Go.RowKit
set_option linter.unusedSimpArgs false
set_option linter.unusedVariables false

/-- An int64. -/
def i64 (n : Int) : Prop := -9223372036854775808 ≤ n ∧ n ≤ 9223372036854775807
/-- A length. -/
def inL (n : Int) : Prop := -17592186044416 ≤ n ∧ n ≤ 17592186044416
theorem notL {n : Int} (h : ¬ inL n) : n < -17592186044416 ∨ 17592186044416 < n := by unfold inL at h; omega
instance (n : Int) : Decidable (inL n) := by unfold inL; infer_instance
/-- A number that is a length. -/
def ofF (n : Int) : Option Int := if inL n then some n else none
theorem ofF_some {n r : Int} (h : ofF n = some r) : inL n ∧ r = n := by
  unfold ofF at h
  split at h
  · rename_i hc; cases h; exact ⟨hc, rfl⟩
  · cases h
theorem ofF_none {n : Int} (h : ofF n = none) : ¬ inL n := by
  unfold ofF at h
  split at h
  · cases h
  · assumption
theorem of_ok' {n r : Int} (h : ofF n = some r) (w : World) : Calls Try.prog 76 #[.int .i64 n] w fun e w' => e = .returned (.int .i64 r) ∧ w = w' := by
  obtain ⟨⟨h1, h2⟩, rfl⟩ := ofF_some h
  exact of_ok _ h1 h2 w
theorem of_no' {n : Int} (h : ofF n = none) (w : World) : Calls Try.prog 76 #[.int .i64 n] w fun e w' => e = .panicked (gave 2) ∧ w = w' := of_no n (notL (ofF_none h)) w
/-- A length less another one. -/
def subF (a b : Int) : Option Int := if inL (a - b) ∧ inL (clip a - clip b) then some (a - b) else none
theorem subF_ok {a b r : Int} (h : subF a b = some r) (w : World) : Calls Try.prog 54 #[.int .i64 a, .int .i64 b] w fun e w' => e = .returned (.int .i64 r) ∧ w = w' := by
  unfold subF at h
  split at h
  · rename_i hc
    cases h
    exact sub_ok a b hc.1.1 hc.1.2 hc.2.1 hc.2.2 w
  · cases h
theorem subF_no {a b : Int} (h : subF a b = none) (ha : -9223372036854775808 ≤ a ∧ a ≤ 9223372036854775807) (hb : -9223372036854775808 ≤ b ∧ b ≤ 9223372036854775807) (w : World) : Calls Try.prog 54 #[.int .i64 a, .int .i64 b] w fun e w' => e = .panicked (gave 2) ∧ w = w' := by
  unfold subF at h
  split at h
  · cases h
  · rename_i hc
    refine sub_no a b ha hb ?_ w
    simp only [inL] at hc
    omega
theorem addF_in : ∀ (xs : List Int) (s r : Int), inL s → addF s xs = some r → inL r
  | [], s, r, hs, h => by simp [addF] at h; exact h ▸ hs
  | x :: xs, s, r, hs, h => by
    simp only [addF] at h
    split at h
    · rename_i hc; exact addF_in xs _ _ hc h
    · cases h
theorem subF_in {a b r : Int} (h : subF a b = some r) : inL r := by
  unfold subF at h
  split at h
  · rename_i hc; cases h; exact hc.1
  · cases h
theorem ofF_in {n r : Int} (h : ofF n = some r) : inL r := by obtain ⟨h, rfl⟩ := ofF_some h; exact h
theorem clip_id {n : Int} (h1 : -52776558133248 ≤ n) (h2 : n ≤ 52776558133248) : clip n = n := by unfold clip; omega
theorem addF_nil (s : Int) : addF s [] = some s := rfl
theorem addF_cons {s x : Int} {xs : List Int} (h1 : -17592186044416 ≤ s + x) (h2 : s + x ≤ 17592186044416) (h3 : -52776558133248 ≤ x) (h4 : x ≤ 52776558133248) : addF s (x :: xs) = addF (s + x) xs := by
  simp only [addF]
  rw [clip_id h3 h4, if_pos ⟨h1, h2⟩]
theorem subF_small {a b : Int} (h1 : -17592186044416 ≤ a - b) (h2 : a - b ≤ 17592186044416) (ha1 : -52776558133248 ≤ a) (ha2 : a ≤ 52776558133248) (hb1 : -52776558133248 ≤ b) (hb2 : b ≤ 52776558133248) : subF a b = some (a - b) := by
  unfold subF
  rw [clip_id ha1 ha2, clip_id hb1 hb2, if_pos ⟨⟨h1, h2⟩, ⟨h1, h2⟩⟩]
theorem ofF_small {n : Int} (h1 : -17592186044416 ≤ n) (h2 : n ≤ 17592186044416) : ofF n = some n := by unfold ofF; rw [if_pos ⟨h1, h2⟩]
/-- A number that has room. -/
def sm (n : Int) : Prop := -1099511627776 ≤ n ∧ n ≤ 1099511627776
theorem lt_false_of_le {a b : Int} (h : b ≤ a) : (a < b) = False := eq_false (Int.not_lt.2 h)
/-- It answers, or gives up. -/
def Res {α : Type} (val : α → Value) (o : Option α) (e : Ending) : Prop := (∃ r, o = some r ∧ e = .returned (val r)) ∨ (o = none ∧ e = .panicked (gave 2))
abbrev vi (n : Int) : Value := .int .i64 n
theorem of_any (n : Int) (w : World) : Calls Try.prog 76 #[.int .i64 n] w fun e w' => Res vi (ofF n) e ∧ w = w' := by
  cases h : ofF n with
  | some r => exact (of_ok' h w).mono fun e w' ⟨he, hw⟩ => ⟨.inl ⟨r, rfl, he⟩, hw⟩
  | none => exact (of_no' h w).mono fun e w' ⟨he, hw⟩ => ⟨.inr ⟨rfl, he⟩, hw⟩
theorem sub_any (a b : Int) (ha : i64 a) (hb : i64 b) (w : World) : Calls Try.prog 54 #[.int .i64 a, .int .i64 b] w fun e w' => Res vi (subF a b) e ∧ w = w' := by
  cases h : subF a b with
  | some r => exact (subF_ok h w).mono fun e w' ⟨he, hw⟩ => ⟨.inl ⟨r, rfl, he⟩, hw⟩
  | none => exact (subF_no h ha hb w).mono fun e w' ⟨he, hw⟩ => ⟨.inr ⟨rfl, he⟩, hw⟩
theorem add_any (b len cap : Nat) (xs : List Int) (w : World) (hl : xs.length = len) (hc : ∀ i, i < len → w.cell? ⟨b, i, none⟩ = some (.int .i64 (xs.getD i 0))) (hm : len ≤ 1000) : Calls Try.prog 55 #[.slice (some ⟨b, 0, none⟩) len cap] w fun e w' => Res vi (addF 0 xs) e ∧ w = w' := by
  cases h : addF 0 xs with
  | some r => exact (add_ok b len cap xs r w hl hc hm h).mono fun e w' ⟨he, hw⟩ => ⟨.inl ⟨r, rfl, he⟩, hw⟩
  | none => exact (add_no b len cap xs w hl hc hm h).mono fun e w' ⟨he, hw⟩ => ⟨.inr ⟨rfl, he⟩, hw⟩
def outI : Option Int → Ending
  | some n => .returned (.int .i64 n)
  | none => .panicked (gave 2)
end Go.Proofs.Ytjcbphhemmdnjaa
