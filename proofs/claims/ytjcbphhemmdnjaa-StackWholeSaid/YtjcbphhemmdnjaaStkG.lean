/- law26 (stack), plain: the tree's own order; each node's place in the painter's order; all Z auto. -/
import Derived.Test.YtjcbphhemmdnjaaStkR
import Derived.Test.YtjcbphhemmdnjaaStkI
namespace Go.Proofs.Ytjcbphhemmdnjaa
open Go Go.RowKit
set_option linter.unusedSimpArgs false
set_option linter.unusedVariables false
theorem nums_cons (x : Int × Int) (B : Rows) : nums (x :: B) = x.1 :: nums B := rfl
/-- Rows of more than depth d, the first one of d + 1: one kid's rows after the other. -/
theorem nums_kids {d : Int} {f : Int → List Int} : ∀ (m : Nat) (S : Rows), S.length ≤ m → Steps S → (∀ x ∈ S, d < x.2) → (∀ x C, S = x :: C → x.2 = d + 1) →
    (∀ A c C, S = A ++ (c, d + 1) :: C → f c = c :: nums (subR (d + 1) C)) → nums S = (lvl (d + 1) S).flatMap f
  | 0, S, h, _, _, _, _ => by
    have : S = [] := List.eq_nil_of_length_eq_zero (by omega)
    subst this; rfl
  | m + 1, [], _, _, _, _, _ => rfl
  | m + 1, x :: S, h, hs, ha, hh, hf => by
    have e := hh x S rfl
    obtain ⟨c, dx⟩ := x
    simp only at e
    subst e
    obtain ⟨B, hB, hl⟩ := subR_split (d + 1) S
    have h1 := hf [] c S rfl
    have hsub : ∀ y ∈ subR (d + 1) S, y.2 ≠ d + 1 := fun y hy => by have := subR_all y hy; omega
    have hBl : B.length ≤ m := by have := congrArg List.length hB; rw [List.length_append] at this; simp at h; omega
    have hBs : Steps B := by
      have := Steps.tail hs
      rw [hB] at this
      exact Steps.right this
    have hBa : ∀ y ∈ B, d < y.2 := fun y hy => ha y (by rw [hB]; simp [hy])
    have hBh : ∀ y C, B = y :: C → y.2 = d + 1 := fun y C q => by
      have h2 := hl y C q
      have h3 := hBa y (by rw [q]; simp)
      omega
    have ih := nums_kids m B hBl hBs hBa hBh (f := f) (fun A c' C q => by
      have := hf ((c, d + 1) :: subR (d + 1) S ++ A) c' C (by conv => { lhs; rw [hB, q] }; simp)
      exact this)
    rw [nums_cons]
    have el : lvl (d + 1) ((c, d + 1) :: S) = c :: lvl (d + 1) B := by
      show (if d + 1 = d + 1 then c :: lvl (d + 1) S else _) = _
      rw [if_pos rfl]
      conv => lhs; rw [hB, lvl_append, lvl_none hsub, List.nil_append]
    rw [el, List.flatMap_cons, h1, ← ih]
    conv => lhs; rw [hB, nums_append]
    rfl
theorem pre_rows {pa : Nat → Nat} {N : Nat} {R : Rows} (hp : ∀ i, 0 < i → pa i < i) (h : Pt pa N R) : ∀ n, n < N → ∀ A d C, R = A ++ ((n : Int), d) :: C → (n : Int) :: nums (subR d C) = (preN pa N n).map (fun (k : Nat) => (k : Int)) := by
  intro n
  refine desc (N := N) (P := fun n => n < N → ∀ A d C, R = A ++ ((n : Int), d) :: C → (n : Int) :: nums (subR d C) = (preN pa N n).map (fun (k : Nat) => (k : Int))) ?_ n
  intro n ih hn A d C hR
  have hk := h.kids A C _ d hR
  rw [preN_eq hp, List.map_cons]
  congr 1
  rw [kidsZ_eq] at hk
  obtain ⟨X, hX, hXh⟩ := subR_split d C
  have hst : Steps (((n : Int), d) :: C) := by
    have := h.wf.steps
    rw [hR] at this
    exact Steps.right this
  have hS : Steps (subR d C) := by
    have := Steps.tail hst
    rw [hX] at this
    exact Steps.left this
  have hf := nums_kids (d := d) (f := fun c => (preN pa N c.toNat).map (fun (k : Nat) => (k : Int))) _ (subR d C) (Nat.le_refl _) hS (fun x hx => subR_all x hx) ?_ ?_
  · rw [hf]
    show (kidsR d C).flatMap _ = _
    rw [hk, List.flatMap_map, List.map_flatMap]
    refine fm_congr (fun a ha => ?_)
    rw [Int.toNat_natCast]
  · intro x C' q
    have h1 := subR_all x (show x ∈ subR d C by rw [q]; simp)
    rw [hX, q] at hst
    have := hst.1
    simp only at this
    omega
  · intro A' c C' q
    have hm : c ∈ kidsR d C := by
      unfold kidsR
      rw [q, lvl_append]
      simp [lvl]
    rw [hk] at hm
    obtain ⟨k, hk1, rfl⟩ := List.mem_map.1 hm
    have hg := kidsN_gt hp hk1
    have := ih k hg.1 hg.2 hg.2 (A ++ (((n : Int), d) :: A')) (d + 1) (C' ++ X) (by rw [hR]; conv => { lhs; rw [hX, q] }; simp)
    rw [Int.toNat_natCast, ← this]
    congr 2
    by_cases c : ∃ x ∈ C', x.2 ≤ d + 1
    · rw [subR_stop c]
    · have h2 : ∀ x ∈ C', d + 1 < x.2 := fun x hx => Int.not_le.1 fun q => c ⟨x, hx, q⟩
      rw [subR_append h2, subR_head (hXh.mono (by omega)), List.append_nil]
      have := subR_append (B := []) h2
      rw [List.append_nil] at this
      rw [this]; simp [subR]
theorem order_rows {pa : Nat → Nat} {N : Nat} {R : Rows} (hp : ∀ i, 0 < i → pa i < i) (h : Pt pa N R) (h0 : 0 < N) : nums R = (preN pa N 0).map (fun (k : Nat) => (k : Int)) := by
  obtain ⟨R', hR, hall⟩ := h.wf.head
  have := pre_rows hp h 0 h0 [] 0 R' hR
  rw [← this, hR]
  show (0 : Int) :: nums R' = _
  congr 2
  have := subR_append (d := 0) (A := R') (B := []) (fun x hx => by have := hall x hx; omega)
  rw [List.append_nil] at this
  rw [this]; simp [subR]
/-- The places in an order, as far as they are told: -1 where not yet. -/
def posC (P : List Nat) (N i : Nat) : List Value := (List.range N).map fun k => .int .i64 (if P.idxOf k < i then (P.idxOf k : Int) else -1)
theorem posC_len (P : List Nat) (N i : Nat) : (posC P N i).length = N := by simp [posC]
theorem posC_get {P : List Nat} {N i k : Nat} (h : k < N) : (posC P N i)[k]? = some (.int .i64 (if P.idxOf k < i then (P.idxOf k : Int) else -1)) := by
  unfold posC
  rw [List.getElem?_map, List.getElem?_range h]
  rfl
theorem idx_at {P : List Nat} (hn : P.Nodup) {i t : Nat} (hi : i < P.length) (e : P.getD i 0 = t) : P.idxOf t = i := by
  rw [← e]
  have : P.getD i 0 = P[i] := by simp [List.getD_eq_getElem?_getD, hi]
  rw [this]
  exact hn.idxOf_getElem i hi
theorem idx_inj {P : List Nat} {a b : Nat} (ha : a ∈ P) (e : P.idxOf a = P.idxOf b) : a = b := by
  have h1 := List.idxOf_lt_length_of_mem ha
  have h2 : P[P.idxOf a] = a := List.getElem_idxOf h1
  have h3 : P[P.idxOf b]'(by rw [← e]; exact h1) = b := List.getElem_idxOf (by rw [← e]; exact h1)
  rw [← h2, ← h3]
  congr 1
theorem posC_set {P : List Nat} {N i t : Nat} (hP : P.Perm (List.range N)) (ht : t < N) (hi : i < P.length) (e : P.getD i 0 = t) : (posC P N i).set t (.int .i64 (i : Int)) = posC P N (i + 1) := by
  have hn : P.Nodup := hP.nodup_iff.2 List.nodup_range
  have hat := idx_at hn hi e
  apply List.ext_getElem?
  intro k
  by_cases hk : k < N
  · by_cases c : k = t
    · subst c
      rw [List.getElem?_set_self (by rw [posC_len]; exact hk), posC_get hk, hat, if_pos (by omega)]
    · rw [List.getElem?_set_ne (by omega), posC_get hk, posC_get hk]
      have hne : P.idxOf k ≠ i := fun q => c (idx_inj (hP.mem_iff.2 (List.mem_range.2 hk)) (by rw [q, hat]))
      by_cases c2 : P.idxOf k < i
      · rw [if_pos c2, if_pos (by omega)]
      · rw [if_neg c2, if_neg (by omega)]
  · rw [List.getElem?_eq_none (by rw [List.length_set, posC_len]; omega), List.getElem?_eq_none (by rw [posC_len]; omega)]
/-- A part of a row stands together. -/
theorem idx_part {P A C B : List Nat} {c x : Nat} (hn : P.Nodup) (e : P = A ++ (c :: C) ++ B) (hx : x ∈ c :: C) : P.idxOf c ≤ P.idxOf x ∧ P.idxOf x < P.idxOf c + (c :: C).length := by
  have hP : ∀ y ∈ c :: C, y ∉ A := fun y hy q => by
    rw [e, List.append_assoc, List.nodup_append] at hn
    exact hn.2.2 _ q _ (by simp at hy ⊢; rcases hy with h | h <;> simp [h]) rfl
  have h1 : ∀ y ∈ c :: C, P.idxOf y = A.length + (c :: C).idxOf y := fun y hy => by
    rw [e, List.append_assoc, List.idxOf_append, if_neg (hP y hy), List.idxOf_append, if_pos hy]
    omega
  rw [h1 c (by simp), h1 x hx]
  have h2 : (c :: C).idxOf c = 0 := by simp
  have h3 := List.idxOf_lt_length_of_mem hx
  omega
/-- The nodes of which the first few have their Z auto. -/
def au26 (l : List N26) (m : Nat) : List N26 := l.mapIdx fun i q => if 1 ≤ i ∧ i < m then { q with au := true } else q
theorem au26_nd (l : List N26) (m i : Nat) : nd26 (au26 l m) i = if 1 ≤ i ∧ i < m ∧ i < l.length then { nd26 l i with au := true } else nd26 l i := by
  unfold nd26 au26
  rw [List.getD_eq_getElem?_getD, List.getD_eq_getElem?_getD, List.getElem?_mapIdx]
  by_cases c : i < l.length
  · rw [List.getElem?_eq_getElem c]
    simp only [Option.map_some, Option.getD_some, c, and_true]
  · rw [List.getElem?_eq_none (by omega), if_neg (by omega)]
    rfl
theorem au26_tx (l : List N26) (m i : Nat) : tx26 (au26 l m) i = tx26 l i := by
  unfold tx26; rw [au26_nd]; split <;> rfl
theorem au26_up (l : List N26) (m : Nat) : ∀ f q, upF26 (au26 l m) f q = upF26 l f q
  | 0, q => rfl
  | f + 1, q => by
    unfold upF26
    rw [au26_tx, au26_up l m f]
    have : (nd26 (au26 l m) q).p = (nd26 l q).p := by rw [au26_nd]; split <;> rfl
    rw [this]
theorem au26_pa (l : List N26) (m i : Nat) : pa26 (au26 l m) i = pa26 l i := by
  unfold pa26 up26
  have : (nd26 (au26 l m) i).p = (nd26 l i).p := by rw [au26_nd]; split <;> rfl
  rw [this]
  split
  · rfl
  · rw [au26_up]
theorem au26_one (l : List N26) (m : Nat) (h : m ≤ 1) : au26 l m = l := by
  unfold au26
  apply List.ext_getElem?
  intro i
  rw [List.getElem?_mapIdx]
  cases l[i]? with
  | none => rfl
  | some q => simp only [Option.map_some]; rw [if_neg (by omega)]
theorem au26_ctx (l : List N26) {m k : Nat} (hk : 0 < k) (hm : k < m) (hl : k < l.length) : ctx26 (au26 l m) k = false := by
  rw [ctx26_pos _ hk, au26_nd, if_pos ⟨hk, hm, hl⟩]
  simp
/-- Without contexts among the nodes: the tree's order. -/
theorem paintN_flat2 {pa : Nat → Nat} {N : Nat} {ctx : Nat → Bool} {z : Nat → Int} (hp : ∀ i, 0 < i → pa i < i) (h0 : 0 < N) (hc : ∀ k, 0 < k → k < N → ctx k = false) : paintN pa N ctx z 0 = preN pa N 0 := by
  have e : srtK pa N ctx z (ofN pa N ctx 0) = ofN pa N ctx 0 := by
    refine srtK_uniq hp h0 (List.Perm.refl _) ((ofN_pw hp h0).imp_of_mem ?_)
    intro a b ha hb hlt
    have ga := ofN_gt hp 0 a ha; have gb := ofN_gt hp 0 b hb
    have ca := hc a ga.1 ga.2; have cb := hc b gb.1 gb.2
    unfold ltK clsN zN
    rw [if_pos ca, if_pos cb, if_pos ca, if_pos cb]
    omega
  rw [paintN_eq hp, e, preN_eq hp 0, ← ofN_pre hp (ctx := ctx) 0]
  refine congrArg _ (fm_congr fun k hk => ?_)
  have := hc k (ofN_gt hp 0 k hk).1 (ofN_gt hp 0 k hk).2
  rw [this]; rfl
end Go.Proofs.Ytjcbphhemmdnjaa
