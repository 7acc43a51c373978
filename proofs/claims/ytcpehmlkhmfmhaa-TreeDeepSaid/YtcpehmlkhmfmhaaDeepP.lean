/- Chains of nodes, as rows: a node added at the head of a row's kids; a chain moved below another. Plain. -/
import Derived.Test.YtcpehmlkhmfmhaaTreeJ
namespace Go.Proofs.Ytcpehmlkhmfmhaa
set_option linter.unusedSimpArgs false
set_option linter.unusedVariables false

def chainR (n d : Int) : Nat → Rows
  | 0 => []
  | k + 1 => (n, d) :: chainR (n + 1) (d + 1) k
theorem chain_len (n d : Int) : ∀ k, (chainR n d k).length = k
  | 0 => rfl
  | k + 1 => by show (chainR (n + 1) (d + 1) k).length + 1 = _; rw [chain_len]
theorem chain_mem : ∀ (k : Nat) (n d : Int), ∀ x ∈ chainR n d k, n ≤ x.1 ∧ x.1 < n + k ∧ x.2 - d = x.1 - n
  | 0, n, d, x, h => by cases h
  | k + 1, n, d, x, h => by
    cases h with
    | head => exact ⟨Int.le_refl _, by show n < n + ((k + 1 : Nat) : Int); omega, by show d - d = n - n; omega⟩
    | tail _ h =>
      have := chain_mem k (n + 1) (d + 1) x h
      push_cast
      omega
theorem chain_snoc : ∀ (k : Nat) (n d : Int), chainR n d (k + 1) = chainR n d k ++ [(n + k, d + k)]
  | 0, n, d => by show [(n, d)] = [(n + 0, d + 0)]; rw [Int.add_zero, Int.add_zero]
  | k + 1, n, d => by
    show (n, d) :: chainR (n + 1) (d + 1) (k + 1) = (n, d) :: (chainR (n + 1) (d + 1) k ++ [(n + ((k + 1 : Nat) : Int), d + ((k + 1 : Nat) : Int))])
    rw [chain_snoc k, show n + 1 + (k : Int) = n + ((k + 1 : Nat) : Int) by push_cast; omega, show d + 1 + (k : Int) = d + ((k + 1 : Nat) : Int) by push_cast; omega]
theorem chain_shift (z : Int) : ∀ (k : Nat) (n d : Int), shiftR z (chainR n d k) = chainR n (d + z) k
  | 0, n, d => rfl
  | k + 1, n, d => by
    show (n, d + z) :: shiftR z (chainR (n + 1) (d + 1) k) = (n, d + z) :: chainR (n + 1) (d + z + 1) k
    rw [chain_shift z k, show d + 1 + z = d + z + 1 by omega]
theorem chain_not {n d m : Int} {k : Nat} (h : m < n ∨ n + k ≤ m) : m ∉ nums (chainR n d k) := fun q => by
  obtain ⟨x, hx, e⟩ := List.mem_map.1 q
  have := chain_mem k n d x hx
  omega
theorem cutR_zero {d : Int} {C : Rows} (h : HeadLe (d + 1) C) : cutR d 0 C = 0 := by
  cases C with
  | nil => rfl
  | cons x C =>
    have := h x C rfl
    show (if d < x.2 then (if x.2 = d + 1 then 0 else _) else 0) = 0
    by_cases c : d < x.2
    · rw [if_pos c, if_pos (by omega)]
    · rw [if_neg c]
/-- A node put at the head of a row's kids. -/
theorem addT_first {A C : Rows} {par d next : Int} (hA : par ∉ nums A) (hC : HeadLe (d + 1) C) (hl : ¬ 1024 ≤ (A ++ (par, d) :: C).length) :
    addT (A ++ (par, d) :: C) next par 0 = if 64 ≤ d then (A ++ (par, d) :: C, 0, 7) else (A ++ (par, d) :: (next, d + 1) :: C, next, 0) := by
  unfold addT
  rw [findR_at hA]
  show (if _ then _ else _) = _
  rw [if_neg (by omega), if_neg hl, show (0 : Int).toNat = 0 from rfl, cutR_zero hC]
  simp
theorem addT_full {A C : Rows} {par d next : Int} (hA : par ∉ nums A) (hl : 1024 ≤ (A ++ (par, d) :: C).length) :
    addT (A ++ (par, d) :: C) next par 0 = (A ++ (par, d) :: C, 0, 8) := by
  unfold addT
  rw [findR_at hA]
  show (if _ then _ else _) = _
  rw [if_neg (by omega), if_pos hl]
theorem headLe_chain {e n d : Int} {k : Nat} (h : d ≤ e) : HeadLe e (chainR n d k) := fun x C q => by
  cases k with
  | zero => cases q
  | succ k => injection q with q1 q2; rw [← q1]; exact h
theorem headLe_nil {e : Int} : HeadLe e [] := fun x C q => by cases q
/-- The first chain. -/
def deep1 (p : Nat) : Rows := chainR 0 0 (p + 1)
theorem deep1_add {p : Nat} (hp : p ≤ 64) : addT (deep1 p) (p + 1) p 0 = if p < 64 then (deep1 (p + 1), (p : Int) + 1, 0) else (deep1 p, 0, 7) := by
  unfold deep1
  have e1 : chainR 0 0 (p + 1) = chainR 0 0 p ++ ((p : Int), (p : Int)) :: [] := by rw [chain_snoc, Int.zero_add]
  have hl : (chainR 0 0 p ++ ((p : Int), (p : Int)) :: []).length = p + 1 := by simp [chain_len]
  rw [chain_snoc (p + 1), e1, addT_first (chain_not (by omega)) headLe_nil (by rw [hl]; omega)]
  by_cases c : p < 64
  · rw [if_neg (by omega), if_pos c]
    simp
  · rw [if_pos (by omega), if_neg c]
/-- Both chains: the second one is q long. -/
def deep2 (p q : Nat) : Rows := ((0, 0) :: chainR (p + 1) 1 q) ++ chainR 1 1 p
theorem deep2_zero (p : Nat) : deep2 p 0 = deep1 p := by
  show (0, 0) :: chainR 1 1 p = (0, 0) :: chainR (0 + 1) (0 + 1) p
  rfl
theorem deep2_len (p q : Nat) : (deep2 p q).length = p + q + 1 := by simp [deep2, chain_len]; omega
def deepO (p q : Nat) : Int := if q = 0 then 0 else p + q
theorem deep2_add {p q : Nat} (hp : p ≤ 64) (hq : q ≤ 64) : addT (deep2 p q) (p + q + 1) (deepO p q) 0 = if q < 64 then (deep2 p (q + 1), (p : Int) + q + 1, 0) else (deep2 p q, 0, 7) := by
  cases q with
  | zero =>
    have e : deep2 p 0 = [] ++ ((0 : Int), (0 : Int)) :: chainR 1 1 p := rfl
    have hl := deep2_len p 0
    rw [e] at hl
    rw [e, show deepO p 0 = 0 from rfl, addT_first (by simp [nums]) (headLe_chain (by omega)) (by rw [hl]; omega), if_neg (by omega), if_pos (by omega)]
    simp [deep2, chainR]
  | succ q =>
    have e : deep2 p (q + 1) = ((0, 0) :: chainR (p + 1) 1 q) ++ ((p : Int) + (q + 1 : Nat), ((q + 1 : Nat) : Int)) :: chainR 1 1 p := by
      unfold deep2
      rw [chain_snoc]
      simp
      constructor <;> omega
    have hl := deep2_len p (q + 1)
    have e2 : deep2 p (q + 1 + 1) = ((0, 0) :: chainR (p + 1) 1 q) ++ ((p : Int) + (q + 1 : Nat), ((q + 1 : Nat) : Int)) :: ((p : Int) + (q + 1 : Nat) + 1, ((q + 1 : Nat) : Int) + 1) :: chainR 1 1 p := by
      unfold deep2
      rw [chain_snoc (q + 1), chain_snoc q]
      simp
      refine ⟨⟨?_, ?_⟩, ?_, ?_⟩ <;> omega
    have hno : (p : Int) + (q + 1 : Nat) ∉ nums ((0, 0) :: chainR ((p : Int) + 1) 1 q) := by
      simp only [nums, List.map_cons, List.mem_cons, not_or]
      exact ⟨by omega, chain_not (by right; push_cast; omega)⟩
    rw [e2]
    rw [show deepO p (q + 1) = (p : Int) + (q + 1 : Nat) from rfl]
    rw [e] at hl ⊢
    rw [addT_first hno (headLe_chain (by push_cast; omega)) (by rw [hl]; omega)]
    by_cases c : q + 1 < 64
    · rw [if_neg (by omega), if_pos c]
    · rw [if_pos (by omega), if_neg c]
theorem maxDeep_chain : ∀ (k : Nat) (n d : Int), ∀ e, d ≤ e → maxDeep d (chainR n e (k + 1)) = e + k - d
  | 0, n, d, e, h => by show max (e - d) 0 = _; simp; omega
  | k + 1, n, d, e, h => by
    show max (e - d) (maxDeep d (chainR (n + 1) (e + 1) (k + 1))) = _
    rw [maxDeep_chain k (n + 1) d (e + 1) (by omega)]
    push_cast
    omega
/-- The second chain moved below the first one. -/
theorem deep2_move {p q : Nat} (hq : 0 < q) : moveT (deep2 p q) (p + 1) p 0 = if p + q ≤ 64 then (chainR 0 0 (p + 1) ++ chainR (p + 1) (p + 1) q, 0) else (deep2 p q, 7) := by
  obtain ⟨q, rfl⟩ : ∃ r, q = r + 1 := ⟨q - 1, by omega⟩
  have e : deep2 p (q + 1) = [((0 : Int), (0 : Int))] ++ ((p : Int) + 1, (1 : Int)) :: (chainR ((p : Int) + 1 + 1) (1 + 1) q ++ chainR 1 1 p) := rfl
  have hsub : subR 1 (chainR ((p : Int) + 1 + 1) (1 + 1) q ++ chainR 1 1 p) = chainR ((p : Int) + 1 + 1) (1 + 1) q := by
    rw [subR_append (fun x hx => by have := chain_mem q _ _ x hx; omega), subR_head (headLe_chain (Int.le_refl _)), List.append_nil]
  have hpart : ((p : Int) + 1, (1 : Int)) :: chainR ((p : Int) + 1 + 1) (1 + 1) q = chainR (p + 1) 1 (q + 1) := rfl
  have hrest : [((0 : Int), (0 : Int))] ++ chainR 1 1 p = chainR 0 0 p ++ ((p : Int), (p : Int)) :: [] := by
    have : [((0 : Int), (0 : Int))] ++ chainR 1 1 p = chainR 0 0 (p + 1) := rfl
    rw [this, chain_snoc, Int.zero_add]
  have hin : (p : Int) ∈ nums (deep2 p (q + 1)) := by
    have : (p : Int) ∈ nums ([((0 : Int), (0 : Int))] ++ chainR 1 1 p) := by rw [hrest]; simp [nums]
    rw [e]
    simp only [nums, List.map_append, List.map_cons, List.mem_append, List.mem_cons] at this ⊢
    rcases this with h | h
    · exact .inl h
    · exact .inr (.inr (.inr h))
  unfold moveT
  rw [if_neg (by omega), e, findR_at (by simp [nums]; omega)]
  show (if _ then _ else if _ then _ else _) = _
  rw [← e, if_neg (by simpa using hin), hsub, hpart, if_neg (chain_not (by omega)), chain_len, List.drop_append_of_le_length (by rw [chain_len]; exact Nat.le_refl _), List.drop_of_length_le (by rw [chain_len]; exact Nat.le_refl _), List.nil_append, hrest, findR_at (chain_not (by omega))]
  show (if _ then _ else if _ then _ else _) = _
  rw [if_neg (by omega), maxDeep_chain q _ _ _ (Int.le_refl _)]
  by_cases c : p + (q + 1) ≤ 64
  · rw [if_neg (by omega), if_pos c, show (0 : Int).toNat = 0 from rfl, cutR_zero headLe_nil, chain_shift]
    have e3 : chainR 0 0 (p + 1) = chainR 0 0 p ++ [((p : Int), (p : Int))] := by rw [chain_snoc, Int.zero_add]
    rw [e3, show (1 : Int) + ((p : Int) + 1 - 1) = (p : Int) + 1 by omega]
    simp
  · rw [if_pos (by omega), if_neg c]
theorem deep2_moved {p q : Nat} (hq : 0 < q) : ∃ A, chainR 0 0 (p + 1) ++ chainR (p + 1) (p + 1) q = A ++ ((p : Int) + q, (p : Int) + q) :: [] := by
  obtain ⟨q, rfl⟩ : ∃ r, q = r + 1 := ⟨q - 1, by omega⟩
  refine ⟨chainR 0 0 (p + 1) ++ chainR (p + 1) (p + 1) q, ?_⟩
  rw [chain_snoc q, List.append_assoc, show (p : Int) + 1 + (q : Int) = (p : Int) + ((q + 1 : Nat) : Int) by push_cast; omega]
end Go.Proofs.Ytcpehmlkhmfmhaa
