/- law23 (scroll): plain: how far a box can be scrolled, by the program's way and by the document's. -/
import Derived.Test.YtjcbphhemmdnjaaScrA
namespace Go.Proofs.Ytjcbphhemmdnjaa
open Go Go.RowKit
set_option linter.unusedSimpArgs false
set_option linter.unusedVariables false
def show23 (l : List N23) (k : Nat) : Bool := decide ((nd23 l k).ov % 3 = 0)
def scr23 (l : List N23) (k : Nat) : Bool := !tx23 l k && decide ((nd23 l k).ov % 3 = 1)
def clip23 (l : List N23) (k : Nat) : Bool := !tx23 l k && !show23 l k
def bX (l : List N23) (k : Nat) : Int := if tx23 l k then 0 else (nd23 l k).x
def bY (l : List N23) (k : Nat) : Int := if tx23 l k then 0 else (nd23 l k).y
def sX (l : List N23) (k : Nat) : Int := if tx23 l k then (nd23 l k).x + (nd23 l k).w else (nd23 l k).w + 2 * bw23 l k
def sY (l : List N23) (k : Nat) : Int := if tx23 l k then (nd23 l k).y + (nd23 l k).h else (nd23 l k).h + 2 * bw23 l k
/-- One kid's share, across or down. -/
def step1 (l : List N23) (b s : Nat → Int) (rec : Nat → Int → Int) (x out : Int) (k : Nat) : Int :=
  if there23 l k then (if !tx23 l k && show23 l k then max (max out (x + b k + s k)) (rec k (x + b k)) else max out (x + b k + s k)) else out
def reach1 (l : List N23) (N : Nat) (b s : Nat → Int) : Nat → Nat → Int → Int
  | 0, _, _ => 0
  | f + 1, n, x => ((kidsZ (pa23 l) N n).map Int.toNat).foldl (step1 l b s (reach1 l N b s f) x) 0
def rchF (l : List N23) (n : Nat) : Nat → Nat → Bool
  | 0, _ => false
  | f + 1, k => if k = 0 then false else if pa23 l k = n then true else if pa23 l k = 0 then false else if clip23 l (pa23 l k) then false else rchF l n f (pa23 l k)
/-- Is n seen from below, with no other box that clips between? -/
def rch (l : List N23) (n k : Nat) : Bool := rchF l n (k + 1) k
theorem rchF_fuel (l : List N23) (n : Nat) : ∀ (f g k : Nat), k < f → k < g → rchF l n f k = rchF l n g k
  | 0, _, k, h, _ => by omega
  | f + 1, 0, k, _, h => by omega
  | f + 1, g + 1, k, h1, h2 => by
    unfold rchF
    by_cases c : k = 0
    · rw [if_pos c, if_pos c]
    · have := pa23_lt l (show 0 < k by omega)
      rw [if_neg c, if_neg c, rchF_fuel l n f g _ (by omega) (by omega)]
theorem rch_zero (l : List N23) (n : Nat) : rch l n 0 = false := by unfold rch rchF; rw [if_pos rfl]
theorem rch_pos (l : List N23) (n : Nat) {k : Nat} (h : 0 < k) : rch l n k = if pa23 l k = n then true else if pa23 l k = 0 then false else if clip23 l (pa23 l k) then false else rch l n (pa23 l k) := by
  unfold rch
  conv => lhs; unfold rchF
  have := pa23_lt l h
  rw [if_neg (by omega), rchF_fuel l n k (pa23 l k + 1) _ (by omega) (by omega)]
theorem rch_up {l : List N23} {n k : Nat} (h : rch l n k = true) (hne : pa23 l k ≠ n) : 0 < k ∧ pa23 l k ≠ 0 ∧ clip23 l (pa23 l k) = false ∧ rch l n (pa23 l k) = true := by
  have h0 : 0 < k := by
    rcases Nat.eq_zero_or_pos k with c | c
    · subst c; rw [rch_zero] at h; cases h
    · exact c
  rw [rch_pos l n h0, if_neg hne] at h
  by_cases c1 : pa23 l k = 0
  · rw [if_pos c1] at h; cases h
  · rw [if_neg c1] at h
    by_cases c2 : clip23 l (pa23 l k) = true
    · rw [if_pos c2] at h; cases h
    · rw [if_neg c2] at h
      exact ⟨h0, c1, by simpa using c2, h⟩
theorem rch_of {l : List N23} {n k : Nat} (h0 : 0 < k) (h : pa23 l k = n ∨ (pa23 l k ≠ 0 ∧ clip23 l (pa23 l k) = false ∧ rch l n (pa23 l k) = true)) : rch l n k = true := by
  rw [rch_pos l n h0]
  by_cases c : pa23 l k = n
  · rw [if_pos c]
  · rcases h with h | ⟨h1, h2, h3⟩
    · exact absurd h c
    · rw [if_neg c, if_neg h1, h2]; simpa using h3
theorem rch_kpos {l : List N23} {n k : Nat} (h : rch l n k = true) : 0 < k := by
  rcases Nat.eq_zero_or_pos k with c | c
  · subst c; rw [rch_zero] at h; cases h
  · exact c
theorem rch_lt {l : List N23} {n : Nat} : ∀ {k : Nat}, rch l n k = true → n < k := by
  intro k
  induction k using Nat.strongRecOn with
  | _ k ih =>
    intro h
    have h0 := rch_kpos h
    have hp := pa23_lt l h0
    by_cases c : pa23 l k = n
    · omega
    · obtain ⟨_, _, _, h3⟩ := rch_up h c
      have := ih _ hp h3
      omega
theorem rch_text {l : List N23} {n : Nat} (ht : tx23 l n = true) : ∀ k, rch l n k = false := by
  intro k
  induction k using Nat.strongRecOn with
  | _ k ih =>
    rcases Nat.eq_zero_or_pos k with c | c
    · subst c; exact rch_zero _ _
    · cases hr : rch l n k with
      | false => rfl
      | true =>
        by_cases c2 : pa23 l k = n
        · have := pa23_tx l k; rw [c2, ht] at this; cases this
        · obtain ⟨_, _, _, h3⟩ := rch_up hr c2
          rw [ih _ (pa23_lt l c)] at h3; cases h3
theorem rch_kids (l : List N23) (n : Nat) : ∀ k, rch l n k = true ↔ ∃ j, 0 < j ∧ j ≤ k ∧ pa23 l j = n ∧ (k = j ∨ (clip23 l j = false ∧ rch l j k = true)) := by
  intro k
  induction k using Nat.strongRecOn with
  | _ k ih =>
    constructor
    · intro h
      have h0 := rch_kpos h
      have hp := pa23_lt l h0
      by_cases c : pa23 l k = n
      · exact ⟨k, h0, Nat.le_refl _, c, .inl rfl⟩
      · obtain ⟨_, h1, h2, h3⟩ := rch_up h c
        obtain ⟨j, hj0, hj1, hj2, hj3⟩ := (ih _ hp).1 h3
        refine ⟨j, hj0, by omega, hj2, .inr ?_⟩
        rcases hj3 with e | ⟨e1, e2⟩
        · exact ⟨e ▸ h2, rch_of h0 (.inl e)⟩
        · exact ⟨e1, rch_of h0 (.inr ⟨h1, h2, e2⟩)⟩
    · rintro ⟨j, hj0, hj1, hj2, hj3⟩
      rcases hj3 with e | ⟨e1, e2⟩
      · subst e; exact rch_of hj0 (.inl hj2)
      · have h0 := rch_kpos e2
        have hp := pa23_lt l h0
        have hjk := rch_lt e2
        by_cases c : pa23 l k = j
        · refine rch_of h0 (.inr ⟨by omega, by rw [c]; exact e1, ?_⟩)
          rw [c]; exact rch_of hj0 (.inl hj2)
        · obtain ⟨_, h1, h2, h3⟩ := rch_up e2 c
          have := rch_lt h3
          exact rch_of h0 (.inr ⟨h1, h2, (ih _ hp).2 ⟨j, hj0, by omega, hj2, .inr ⟨e1, h3⟩⟩⟩)
def plF (l : List N23) (b : Nat → Int) (n : Nat) : Nat → Nat → Int
  | 0, _ => 0
  | f + 1, k => if k = n ∨ k = 0 then 0 else b k + plF l b n f (pa23 l k)
/-- The place of k, counted from n above it. -/
def pl (l : List N23) (b : Nat → Int) (n k : Nat) : Int := plF l b n (k + 1) k
theorem plF_fuel (l : List N23) (b : Nat → Int) (n : Nat) : ∀ (f g k : Nat), k < f → k < g → plF l b n f k = plF l b n g k
  | 0, _, k, h, _ => by omega
  | f + 1, 0, k, _, h => by omega
  | f + 1, g + 1, k, h1, h2 => by
    unfold plF
    by_cases c : k = n ∨ k = 0
    · rw [if_pos c, if_pos c]
    · have := pa23_lt l (show 0 < k by omega)
      rw [if_neg c, if_neg c, plF_fuel l b n f g _ (by omega) (by omega)]
theorem pl_self (l : List N23) (b : Nat → Int) (n : Nat) : pl l b n n = 0 := by unfold pl plF; rw [if_pos (.inl rfl)]
theorem pl_up (l : List N23) (b : Nat → Int) {n k : Nat} (h0 : 0 < k) (hne : k ≠ n) : pl l b n k = b k + pl l b n (pa23 l k) := by
  unfold pl
  conv => lhs; unfold plF
  have := pa23_lt l h0
  rw [if_neg (by omega), plF_fuel l b n k (pa23 l k + 1) _ (by omega) (by omega)]
theorem pl_kid (l : List N23) (b : Nat → Int) {n j : Nat} (h0 : 0 < j) (h : pa23 l j = n) : pl l b n j = b j := by
  have := pa23_lt l h0
  rw [pl_up l b h0 (by omega), h, pl_self]
  omega
theorem pl_deep (l : List N23) (b : Nat → Int) {n j : Nat} (h0 : 0 < j) (h : pa23 l j = n) : ∀ k, rch l j k = true → pl l b n k = b j + pl l b j k := by
  intro k
  induction k using Nat.strongRecOn with
  | _ k ih =>
    intro hr
    have hk := rch_kpos hr
    have hlt := rch_lt hr
    have hjn := pa23_lt l h0
    rw [pl_up l b hk (by omega), pl_up l b hk (show k ≠ j by omega)]
    by_cases c : pa23 l k = j
    · rw [c, pl_kid l b h0 h, pl_self]; omega
    · obtain ⟨_, _, _, h3⟩ := rch_up hr c
      rw [ih _ (pa23_lt l hk) h3]; omega
theorem there_up {l : List N23} {k : Nat} (h0 : 0 < k) (h : there23 l k = true) : there23 l (pa23 l k) = true := by
  rw [there23_pos l h0] at h
  rcases hh : there23 l (pa23 l k) with _ | _
  · rw [hh] at h; simp at h
  · rfl
theorem rch_there {l : List N23} {j : Nat} : ∀ k, rch l j k = true → there23 l k = true → there23 l j = true := by
  intro k
  induction k using Nat.strongRecOn with
  | _ k ih =>
    intro hr ht
    have hk := rch_kpos hr
    have hp := there_up hk ht
    by_cases c : pa23 l k = j
    · rw [← c]; exact hp
    · obtain ⟨_, _, _, h3⟩ := rch_up hr c
      exact ih _ (pa23_lt l hk) h3 hp
theorem max_le_iff' (a b u : Int) : max a b ≤ u ↔ a ≤ u ∧ b ≤ u := by omega
theorem fold_le (l : List N23) (b s : Nat → Int) (rec : Nat → Int → Int) (x u : Int) : ∀ (ks : List Nat) (o : Int), ks.foldl (step1 l b s rec x) o ≤ u ↔ o ≤ u ∧ ∀ k ∈ ks, there23 l k = true → x + b k + s k ≤ u ∧ (clip23 l k = false → tx23 l k = false → rec k (x + b k) ≤ u)
  | [], o => by simp
  | k :: ks, o => by
    rw [List.foldl_cons, fold_le l b s rec x u ks]
    have e : step1 l b s rec x o k ≤ u ↔ o ≤ u ∧ (there23 l k = true → x + b k + s k ≤ u ∧ (clip23 l k = false → tx23 l k = false → rec k (x + b k) ≤ u)) := by
      unfold step1 clip23
      cases there23 l k with
      | false => simp
      | true =>
        cases tx23 l k with
        | true => simp only [if_true, Bool.not_true, Bool.false_and, Bool.false_eq_true, if_false, max_le_iff']; simp
        | false =>
          cases show23 l k with
          | true => simp only [if_true, Bool.not_false, Bool.true_and, max_le_iff']; simp [and_assoc]
          | false => simp only [if_true, Bool.not_false, Bool.true_and, Bool.false_eq_true, if_false, max_le_iff']; simp
    rw [e, List.forall_mem_cons, and_assoc]
/-- What bounds the reach of a node. -/
theorem reach_le (l : List N23) (N : Nat) (b s : Nat → Int) (u : Int) : ∀ (f n : Nat) (x : Int), N < n + f → (reach1 l N b s f n x ≤ u ↔ (0 ≤ u ∧ ∀ k, k < N → rch l n k = true → there23 l k = true → x + pl l b n k + s k ≤ u)) := by
  intro f
  induction f with
  | zero =>
    intro n x h
    show (0 : Int) ≤ u ↔ _
    constructor
    · intro h0
      exact ⟨h0, fun k hk hr => by have := rch_lt hr; omega⟩
    · exact fun h => h.1
  | succ f ih =>
    intro n x h
    show ((kidsZ (pa23 l) N n).map Int.toNat).foldl (step1 l b s (reach1 l N b s f) x) 0 ≤ u ↔ _
    rw [fold_le]
    refine and_congr_right fun h0 => ?_
    constructor
    · intro H k hk hr ht
      obtain ⟨j, hj0, hj1, hj2, hj3⟩ := (rch_kids l n k).1 hr
      have hm : j ∈ (kidsZ (pa23 l) N n).map Int.toNat := List.mem_map.2 ⟨(j : Int), kidsZ_mem.2 ⟨j, hj0, by omega, by rw [hj2], rfl⟩, by omega⟩
      have hjn := pa23_lt l hj0
      rcases hj3 with e | ⟨e1, e2⟩
      · subst e
        have := (H k hm ht).1
        rw [pl_kid l b hj0 hj2]
        exact this
      · have htj := rch_there k e2 ht
        have hxj : tx23 l j = false := by
          cases q : tx23 l j with
          | false => rfl
          | true => rw [rch_text q] at e2; cases e2
        have h2 := (H j hm htj).2 e1 hxj
        have := ((ih j (x + b j) (by omega)).1 h2).2 k hk e2 ht
        rw [pl_deep l b hj0 hj2 k e2]
        omega
    · intro H j hm ht
      obtain ⟨jz, hjz, rfl⟩ := List.mem_map.1 hm
      obtain ⟨j, hj0, hj1, hj2, rfl⟩ := kidsZ_mem.1 hjz
      rw [Int.toNat_natCast] at ht ⊢
      have hj2 : pa23 l j = n := by omega
      have hjn := pa23_lt l hj0
      refine ⟨?_, fun e1 hxj => (ih j (x + b j) (by omega)).2 ⟨h0, fun k hk hr htk => ?_⟩⟩
      · have := H j hj1 ((rch_kids l n j).2 ⟨j, hj0, Nat.le_refl _, hj2, .inl rfl⟩) ht
        rw [pl_kid l b hj0 hj2] at this
        exact this
      · have hlt := rch_lt hr
        have := H k hk ((rch_kids l n k).2 ⟨j, hj0, by omega, hj2, .inr ⟨e1, hr⟩⟩) htk
        rw [pl_deep l b hj0 hj2 k hr] at this
        omega
/-- The document's way: over all nodes. -/
def ends1 (l : List N23) (b s : Nat → Int) (n : Nat) (x : Int) (o : Int) (k : Nat) : Int := if there23 l k && rch l n k then max o (x + pl l b n k + s k) else o
theorem ends_le (l : List N23) (b s : Nat → Int) (n : Nat) (x u : Int) : ∀ (ks : List Nat) (o : Int), ks.foldl (ends1 l b s n x) o ≤ u ↔ o ≤ u ∧ ∀ k ∈ ks, rch l n k = true → there23 l k = true → x + pl l b n k + s k ≤ u
  | [], o => by simp
  | k :: ks, o => by
    rw [List.foldl_cons, ends_le l b s n x u ks, List.forall_mem_cons]
    have e : ends1 l b s n x o k ≤ u ↔ o ≤ u ∧ (rch l n k = true → there23 l k = true → x + pl l b n k + s k ≤ u) := by
      unfold ends1
      cases there23 l k with
      | false => simp
      | true =>
        cases rch l n k with
        | false => simp
        | true => simp only [Bool.and_self, if_true, max_le_iff']; simp
    rw [e, and_assoc]
theorem reach_ends (l : List N23) (N : Nat) (b s : Nat → Int) (f n : Nat) (x o : Int) (h : N < n + f) (ho : 0 ≤ o) : max o (reach1 l N b s f n x) = (List.range N).foldl (ends1 l b s n x) o := by
  have e : ∀ u, max o (reach1 l N b s f n x) ≤ u ↔ (List.range N).foldl (ends1 l b s n x) o ≤ u := fun u => by
    rw [max_le_iff', reach_le l N b s u f n x h, ends_le]
    constructor
    · rintro ⟨h1, h2, h3⟩
      exact ⟨h1, fun k hk => h3 k (List.mem_range.1 hk)⟩
    · rintro ⟨h1, h2⟩
      exact ⟨h1, by omega, fun k hk => h2 k (List.mem_range.2 hk)⟩
  have h1 := (e _).1 (Int.le_refl _)
  have h2 := (e _).2 (Int.le_refl _)
  omega
/-- Sizes. -/
theorem fold_hi (l : List N23) (b s : Nat → Int) (rec : Nat → Int → Int) (x : Int) (ks : List Nat) (hr : ∀ k ∈ ks, rec k (x + b k) ≤ 4000000) (hs : ∀ k ∈ ks, x + b k + s k ≤ 4000000) (o : Int) (h : o ≤ 4000000) : ks.foldl (step1 l b s rec x) o ≤ 4000000 := by
  rw [fold_le]
  exact ⟨h, fun k hk _ => ⟨hs k hk, fun _ _ => hr k hk⟩⟩
theorem fold_lo (l : List N23) (b s : Nat → Int) (rec : Nat → Int → Int) (x : Int) : ∀ (ks : List Nat) (o : Int), 0 ≤ o → 0 ≤ ks.foldl (step1 l b s rec x) o
  | [], o, h => h
  | k :: ks, o, h => fold_lo l b s rec x ks _ (by
    unfold step1
    split
    · split <;> omega
    · exact h)
theorem reach_hi (l : List N23) (N : Nat) (b s : Nat → Int) (hN : N ≤ 14) (hb : ∀ k, -32768 ≤ b k ∧ b k ≤ 32767) (hs : ∀ k, s k ≤ 200000) : ∀ (f n : Nat) (x : Int), n ≤ 14 → -(40000 * ((n : Int) + 1)) ≤ x → x ≤ 40000 * ((n : Int) + 1) → 0 ≤ reach1 l N b s f n x ∧ reach1 l N b s f n x ≤ 4000000 := by
  intro f
  induction f with
  | zero => intro n x _ _ _; exact ⟨Int.le_refl _, by show (0 : Int) ≤ _; omega⟩
  | succ f ih =>
    intro n x hn h1 h2
    refine ⟨fold_lo l b s _ x _ 0 (Int.le_refl _), fold_hi l b s _ x _ (fun k hk => ?_) (fun k hk => ?_) 0 (by omega)⟩
    · obtain ⟨jz, hjz, rfl⟩ := List.mem_map.1 hk
      obtain ⟨j, hj0, hj1, hj2, rfl⟩ := kidsZ_mem.1 hjz
      rw [Int.toNat_natCast]
      have hj2 : pa23 l j = n := by omega
      have hjn := pa23_lt l hj0
      have := hb j
      exact (ih j _ (by omega) (by omega) (by omega)).2
    · have := hb k; have := hs k; omega
/-- A part of the fold has bounds, too. -/
theorem fold_part (l : List N23) (N : Nat) (b s : Nat → Int) (hN : N ≤ 14) (hb : ∀ k, -32768 ≤ b k ∧ b k ≤ 32767) (hs : ∀ k, s k ≤ 200000) (f n : Nat) (x : Int) (hn : n ≤ 14) (h1 : -(40000 * ((n : Int) + 1)) ≤ x) (h2 : x ≤ 40000 * ((n : Int) + 1)) : 0 ≤ reach1 l N b s f n x ∧ reach1 l N b s f n x ≤ 4000000 := reach_hi l N b s hN hb hs f n x hn h1 h2
theorem bX_hi {l : List N23} (hok : ∀ i, Ok23 (nd23 l i)) (k : Nat) : -32768 ≤ bX l k ∧ bX l k ≤ 32767 := by
  unfold bX; split
  · omega
  · exact (hok k).x
theorem bY_hi {l : List N23} (hok : ∀ i, Ok23 (nd23 l i)) (k : Nat) : -32768 ≤ bY l k ∧ bY l k ≤ 32767 := by
  unfold bY; split
  · omega
  · exact (hok k).y
theorem bw23_hi {l : List N23} (hok : ∀ i, Ok23 (nd23 l i)) (k : Nat) : 0 ≤ bw23 l k ∧ bw23 l k ≤ 99 := by unfold bw23; have := (hok k).bd; omega
theorem sX_hi {l : List N23} (hok : ∀ i, Ok23 (nd23 l i)) (k : Nat) : sX l k ≤ 200000 := by
  have h1 := (hok k).x; have h2 := (hok k).w; have h3 := bw23_hi hok k
  unfold sX; split <;> omega
theorem sY_hi {l : List N23} (hok : ∀ i, Ok23 (nd23 l i)) (k : Nat) : sY l k ≤ 200000 := by
  have h1 := (hok k).y; have h2 := (hok k).h; have h3 := bw23_hi hok k
  unfold sY; split <;> omega
/-- How far a box can be scrolled. -/
def most1 (l : List N23) (N : Nat) (b s : Nat → Int) (wd : Int) (n : Nat) : Int := max wd (reach1 l N b s (N + 1) n (0 - bw23 l n)) - wd
def mostX (l : List N23) (N n : Nat) : Int := most1 l N (bX l) (sX l) (nd23 l n).w n
def mostY (l : List N23) (N n : Nat) : Int := most1 l N (bY l) (sY l) (nd23 l n).h n
theorem most1_nn (l : List N23) (N : Nat) (b s : Nat → Int) (wd : Int) (n : Nat) : 0 ≤ most1 l N b s wd n := by unfold most1; omega
end Go.Proofs.Ytjcbphhemmdnjaa
