/- law24 (offset), plain: what scrolling a box on does. -/
import Derived.Test.YtjcbphhemmdnjaaOffFG
namespace Go.Proofs.Ytjcbphhemmdnjaa
set_option linter.unusedSimpArgs false
set_option linter.unusedVariables false
def upQ (q : N24) (dx dy : Int) : N24 := { q with b0 := q.b0 + 64 * dx, b1 := q.b1 + 64 * dy }
def upN (l : List N24) (n : Nat) (dx dy : Int) : List N24 := l.set n (upQ (nd24 l n) dx dy)
theorem nd24_up {l : List N24} {n : Nat} (h : n < l.length) (dx dy : Int) (i : Nat) : nd24 (upN l n dx dy) i = if i = n then upQ (nd24 l n) dx dy else nd24 l i := by
  unfold nd24 upN
  rw [List.getD_eq_getElem?_getD, List.getElem?_set]
  by_cases c : n = i
  · subst c; simp [h, nd24]
  · rw [if_neg c, if_neg (Ne.symm c)]; simp [List.getD_eq_getElem?_getD]
theorem sc_len {l : List N24} {n : Nat} (h : (nd24 l n).sc = true) : n < l.length := by
  rcases Nat.lt_or_ge n l.length with c | c
  · exact c
  · exfalso
    unfold nd24 at h
    simp [List.getD_eq_getElem?_getD, List.getElem?_eq_none c, n24Z] at h
section
variable {l : List N24} {n : Nat} (h : n < l.length) (dx dy : Int)
include h
theorem up_p (i : Nat) : (nd24 (upN l n dx dy) i).p = (nd24 l i).p ∧ (nd24 (upN l n dx dy) i).x = (nd24 l i).x ∧ (nd24 (upN l n dx dy) i).y = (nd24 l i).y ∧ (nd24 (upN l n dx dy) i).bd = (nd24 l i).bd ∧ (nd24 (upN l n dx dy) i).sc = (nd24 l i).sc ∧ (nd24 (upN l n dx dy) i).hid = (nd24 l i).hid := by
  rw [nd24_up h]
  by_cases c : i = n
  · subst c; rw [if_pos rfl]; exact ⟨rfl, rfl, rfl, rfl, rfl, rfl⟩
  · rw [if_neg c]; exact ⟨rfl, rfl, rfl, rfl, rfl, rfl⟩
theorem pa24_up : pa24 (upN l n dx dy) = pa24 l := by
  funext i
  unfold pa24
  rw [(up_p h dx dy i).1]
theorem m24a_up (N : Nat) : m24a (upN l n dx dy) N = m24a l N := by
  funext k
  unfold m24a
  obtain ⟨h1, h2, h3, h4, h5, h6⟩ := up_p h dx dy k.toNat
  rw [h2, h3, h4, h6]
theorem m24b_up {N : Nat} (hn : n < N) (hs : (nd24 l n).sc = true) (k : Int) : m24b (upN l n dx dy) N k = if k = n then some (.agg #[.int .i64 ((nd24 l n).b0 + 64 * dx), .int .i64 ((nd24 l n).b1 + 64 * dy)]) else m24b l N k := by
  unfold m24b
  obtain ⟨h1, h2, h3, h4, h5, h6⟩ := up_p h dx dy k.toNat
  rw [h5]
  by_cases c : k = n
  · rw [if_pos c, c, Int.toNat_natCast, if_pos ⟨by omega, by omega, hs⟩, nd24_up h, if_pos rfl]; rfl
  · rw [if_neg c]
    by_cases q : 0 ≤ k ∧ k < N ∧ (nd24 l k.toNat).sc = true
    · rw [if_pos q, if_pos q, nd24_up h, if_neg (by omega)]
    · rw [if_neg q, if_neg q]
theorem there24_up2 : ∀ i, there24 (upN l n dx dy) i = there24 l i := by
  intro i
  induction i using Nat.strongRecOn with
  | _ i ih =>
    rcases Nat.eq_zero_or_pos i with c | c
    · subst c; rw [there24_root, there24_root, (up_p h dx dy 0).2.2.2.2.2]
    · rw [there24_kid _ c, there24_kid _ c, (up_p h dx dy i).2.2.2.2.2, pa24_up h, ih _ (pa24_lt l c)]
end
/-- Is i below n? -/
def belowB (l : List N24) (n i : Nat) : Bool := decide (i ≠ n) && inSub (pa24 l) n i
theorem belowB_zero (l : List N24) (n : Nat) : belowB l n 0 = false := by
  unfold belowB
  by_cases c : n = 0
  · simp [c]
  · rw [inSub_zero _ c, Bool.and_false]
theorem belowB_up (l : List N24) (n : Nat) {k : Nat} (hk : 0 < k) : belowB l n k = (decide (pa24 l k = n) || belowB l n (pa24 l k)) := by
  have hp : ∀ i, 0 < i → pa24 l i < i := fun i hi => pa24_lt l hi
  have hlt := pa24_lt l hk
  unfold belowB
  by_cases c : k = n
  · subst c
    have h1 : ¬ pa24 l k = k := by omega
    have h2 : inSub (pa24 l) k (pa24 l k) = false := by
      cases e : inSub (pa24 l) k (pa24 l k) with
      | false => rfl
      | true => have := inSub_le hp k _ e; omega
    simp [h1, h2]
  · rw [inSub_up hp hk c]
    by_cases e : pa24 l k = n
    · rw [e, inSub_self]; simp [c]
    · simp [c, e]
def shiftP (dx dy : Int) (p : Pl24) : Pl24 := ⟨p.X - 64 * dx, p.Y - 64 * dy, p.L, p.o0 - dx, p.o1 - dy, p.r0, p.r1⟩
theorem downP_shift (q : N24) (n : Nat) (dx dy : Int) (p : Pl24) : downP q n (shiftP dx dy p) = shiftP dx dy (downP q n p) := by
  unfold downP
  split
  · unfold shiftP
    simp only [Pl24.mk.injEq, true_and]
    refine ⟨?_, ?_, ?_, ?_, ?_, ?_⟩ <;> omega
  · rfl
theorem downP_up (q : N24) (n : Nat) (dx dy : Int) (p : Pl24) (hs : q.sc = true) : downP (upQ q dx dy) n p = shiftP dx dy (downP q n p) := by
  unfold downP upQ
  simp only [hs, if_true]
  unfold shiftP
  simp only [Pl24.mk.injEq, true_and]
  refine ⟨?_, ?_, ?_, ?_, ?_, ?_⟩ <;> omega
theorem stepP_shift (q : N24) (dx dy : Int) (p : Pl24) : stepP q (shiftP dx dy p) = shiftP dx dy (stepP q p) := by
  unfold stepP shiftP
  simp only [Pl24.mk.injEq, true_and, and_true]
  constructor <;> omega
theorem place24_up {l : List N24} {n : Nat} (hs : (nd24 l n).sc = true) (dx dy : Int) : ∀ i, place24 (upN l n dx dy) i = if belowB l n i = true then shiftP dx dy (place24 l i) else place24 l i := by
  have h := sc_len hs
  intro i
  induction i using Nat.strongRecOn with
  | _ i ih =>
    have hst : ∀ p, stepP (nd24 (upN l n dx dy) i) p = stepP (nd24 l i) p := fun p => by
      unfold stepP; rw [(up_p h dx dy i).2.1, (up_p h dx dy i).2.2.1]
    rcases Nat.eq_zero_or_pos i with c | c
    · subst c
      rw [belowB_zero, if_neg (by simp), place24_root, place24_root, hst]
    · have hlt := pa24_lt l c
      rw [place24_kid _ c, place24_kid _ c, hst, pa24_up h, ih _ hlt, belowB_up l n c]
      obtain ⟨q, hq⟩ : ∃ q, pa24 l i = q := ⟨_, rfl⟩
      rw [hq]
      by_cases e : q = n
      · subst e
        have hb : belowB l q q = false := by unfold belowB; simp
        rw [hb]
        simp only [decide_true, Bool.true_or, if_true, Bool.false_eq_true, if_false]
        rw [nd24_up h, if_pos rfl, downP_up _ _ _ _ _ hs, stepP_shift]
      · rw [nd24_up h, if_neg e]
        by_cases b : belowB l n q = true
        · simp only [b, if_true, Bool.or_true]
          rw [downP_shift, stepP_shift]
        · simp only [b, e, decide_false, Bool.false_or, if_false]
          simp
theorem okW_up {l : List N24} {n : Nat} (hs : (nd24 l n).sc = true) (hok : ∀ i, Ok24 (nd24 l i)) (dx dy : Int) (hx : -32768 ≤ dx ∧ dx ≤ 32767) (hy : -32768 ≤ dy ∧ dy ≤ 32767) (i : Nat) : OkW (nd24 (upN l n dx dy) i) := by
  have h := sc_len hs
  have hi := hok i
  obtain ⟨h1, h2, h3, h4, h5, h6⟩ := up_p h dx dy i
  have hb : -4294967296 ≤ (nd24 (upN l n dx dy) i).b0 ∧ (nd24 (upN l n dx dy) i).b0 ≤ 4294967296 ∧ -4294967296 ≤ (nd24 (upN l n dx dy) i).b1 ∧ (nd24 (upN l n dx dy) i).b1 ≤ 4294967296 := by
    have q1 := hi.b0; have q2 := hi.b1
    unfold In32 at q1 q2
    rw [nd24_up h]
    by_cases c : i = n
    · subst c; rw [if_pos rfl]; unfold upQ; dsimp only; omega
    · rw [if_neg c]; omega
  exact ⟨by rw [h2]; exact hi.x, by rw [h3]; exact hi.y, by rw [h4]; exact hi.bd, ⟨hb.1, hb.2.1⟩, hb.2.2⟩
end Go.Proofs.Ytjcbphhemmdnjaa
