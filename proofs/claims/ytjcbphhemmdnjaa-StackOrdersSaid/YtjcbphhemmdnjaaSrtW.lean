/- Sorted by insertion, plain; two sorted lists of the same items are the same. slices.stableCmpFunc over the places 0 to n - 1, for n up to 60. -/
import Derived.Test.YtjcbphhemmdnjaaSrtU
import Derived.Test.YtjcbphhemmdnjaaSrtV
namespace Go.Proofs.Ytjcbphhemmdnjaa
set_option linter.unusedSimpArgs false
set_option linter.unusedVariables false

theorem getD_set_self {ys : List Nat} {j v : Nat} (h : j < ys.length) : (ys.set j v).getD j 0 = v := by
  simp only [List.getD_eq_getElem?_getD, List.getElem?_set_self h, Option.getD_some]
theorem getD_set_other {ys : List Nat} {j v p : Nat} (h : p ≠ j) : (ys.set j v).getD p 0 = ys.getD p 0 := by
  simp only [List.getD_eq_getElem?_getD, List.getElem?_set_ne (Ne.symm h)]
/-- All sorted but the item at j, which is ahead of all right of it. -/
def SinkP (os : List Int) (ys : List Nat) (a j i : Nat) : Prop :=
  (∀ p q, a ≤ p → p < q → q ≤ i → p ≠ j → q ≠ j → LTo os (ys.getD p 0) (ys.getD q 0)) ∧ (∀ q, j < q → q ≤ i → LTo os (ys.getD j 0) (ys.getD q 0)) ∧ (∀ p, a ≤ p → p < j → ys.getD p 0 < ys.getD j 0)
theorem swap2_at {ys : List Nat} {j : Nat} (h : j + 1 < ys.length) (p : Nat) : ((ys.set (j + 1) (ys.getD j 0)).set j (ys.getD (j + 1) 0)).getD p 0 = if p = j then ys.getD (j + 1) 0 else if p = j + 1 then ys.getD j 0 else ys.getD p 0 := by
  by_cases h1 : p = j
  · subst h1; rw [if_pos rfl, getD_set_self (by simp; omega)]
  · rw [if_neg h1, getD_set_other h1]
    by_cases h2 : p = j + 1
    · subst h2; rw [if_pos rfl, getD_set_self h]
    · rw [if_neg h2, getD_set_other h2]
theorem swap2_same {ys : List Nat} {j a b : Nat} (h : j + 1 < ys.length) (ha : a ≤ j) (hb : j + 1 < b) : SameT ys ((ys.set (j + 1) (ys.getD j 0)).set j (ys.getD (j + 1) 0)) a b := by
  refine ⟨fun p hp => ?_, fun p p1 p2 => ?_, fun q q1 q2 => ?_⟩
  · rw [swap2_at h, if_neg (by omega), if_neg (by omega)]
  · by_cases h1 : p = j
    · exact ⟨j + 1, by omega, hb, by rw [swap2_at h, if_pos h1]⟩
    · by_cases h2 : p = j + 1
      · exact ⟨j, ha, by omega, by rw [swap2_at h, if_neg h1, if_pos h2]⟩
      · exact ⟨p, p1, p2, by rw [swap2_at h, if_neg h1, if_neg h2]⟩
  · by_cases h1 : q = j
    · exact ⟨j + 1, by omega, hb, by rw [swap2_at h, if_neg (by omega), if_pos rfl, h1]⟩
    · by_cases h2 : q = j + 1
      · exact ⟨j, ha, by omega, by rw [swap2_at h, if_pos rfl, h2]⟩
      · exact ⟨q, q1, q2, by rw [swap2_at h, if_neg h1, if_neg h2]⟩
theorem sink_up (os : List Int) (a i : Nat) : ∀ (j : Nat) (ys : List Nat), j ≤ i → a ≤ j → i < ys.length → SinkP os ys a j i → SameT ys (sinkF os a j ys) a (i + 1) ∧ UpT os (sinkF os a j ys) a (i + 1)
  | 0, ys, hj, ha, hi, h => by
    refine ⟨SameT.refl _ _ _, fun p q p1 pq q1 => ?_⟩
    show LTo os (ys.getD p 0) (ys.getD q 0)
    by_cases c : p = 0
    · subst c; exact h.2.1 q pq (by omega)
    · exact h.1 p q p1 pq (by omega) c (by omega)
  | j + 1, ys, hj, ha, hi, h => by
    by_cases c : a < j + 1 ∧ os.getD (ys.getD (j + 1) 0) 0 < os.getD (ys.getD j 0) 0
    · rw [sinkF_swap os ys c.1 c.2]
      have hat := swap2_at (ys := ys) (j := j) (by omega)
      have hsm := swap2_same (ys := ys) (j := j) (a := a) (b := i + 1) (by omega) (by omega) (by omega)
      have hln : i < ((ys.set (j + 1) (ys.getD j 0)).set j (ys.getD (j + 1) 0)).length := by simp; omega
      have hP : SinkP os ((ys.set (j + 1) (ys.getD j 0)).set j (ys.getD (j + 1) 0)) a j i := by
        refine ⟨fun p q p1 pq q1 pj qj => ?_, fun q q1 q2 => ?_, fun p p1 p2 => ?_⟩
        · rw [hat, hat, if_neg pj, if_neg qj]
          by_cases c1 : p = j + 1
          · subst c1; rw [if_pos rfl, if_neg (by omega)]
            exact h.1 j q (by omega) (by omega) q1 (by omega) (by omega)
          · rw [if_neg c1]
            by_cases c2 : q = j + 1
            · subst c2; rw [if_pos rfl]; exact h.1 p j p1 (by omega) (by omega) c1 (by omega)
            · rw [if_neg c2]; exact h.1 p q p1 pq q1 c1 c2
        · rw [hat, hat, if_pos rfl, if_neg (by omega)]
          by_cases c2 : q = j + 1
          · subst c2; rw [if_pos rfl]; exact .of_lt c.2
          · rw [if_neg c2]; exact h.2.1 q (by omega) q2
        · rw [hat, hat, if_pos rfl, if_neg (by omega), if_neg (by omega)]
          exact h.2.2 p p1 (by omega)
      obtain ⟨k1, k2⟩ := sink_up os a i j _ (by omega) (by omega) hln hP
      exact ⟨hsm.trans k1, k2⟩
    · have e : sinkF os a (j + 1) ys = ys := by rw [sinkF, if_neg c]
      rw [e]
      refine ⟨SameT.refl _ _ _, fun p q p1 pq q1 => ?_⟩
      by_cases c1 : p = j + 1
      · subst c1; exact h.2.1 q pq (by omega)
      · by_cases c2 : q = j + 1
        · subst c2
          have g : LTo os (ys.getD j 0) (ys.getD (j + 1) 0) := .of_le (fun hq => c ⟨by omega, hq⟩) (h.2.2 j (by omega) (by omega))
          by_cases c3 : p = j
          · rw [c3]; exact g
          · exact (h.1 p j p1 (by omega) (by omega) c1 (by omega)).trans g
        · exact h.1 p q p1 pq (by omega) c1 c2
theorem sinks_up (os : List Int) (a hi : Nat) : ∀ (k i : Nat) (ys : List Nat), i + k = hi → a < i → hi ≤ ys.length → UpT os ys a i → (∀ p q, a ≤ p → p < q → i ≤ q → q < hi → ys.getD p 0 < ys.getD q 0) → SameT ys (sinksF os a i k ys) a hi ∧ UpT os (sinksF os a i k ys) a hi
  | 0, i, ys, hk, ha, hl, hu, hp => by
    obtain rfl : i = hi := by omega
    exact ⟨SameT.refl _ _ _, hu⟩
  | k + 1, i, ys, hk, ha, hl, hu, hp => by
    obtain ⟨s1, u1⟩ := sink_up os a i i ys (Nat.le_refl _) (by omega) (by omega) ⟨fun p q p1 pq q1 pi qi => hu p q p1 pq (by omega), fun q q1 q2 => by omega, fun p p1 p2 => hp p i p1 p2 (Nat.le_refl _) (by omega)⟩
    obtain ⟨s2, u2⟩ := sinks_up os a hi k (i + 1) (sinkF os a i ys) (by omega) (by omega) (by rw [sinkF_length]; exact hl) u1 (fun p q p1 pq q1 q2 => by
      rw [s1.1 q (by omega)]
      by_cases c : p < i + 1
      · obtain ⟨r, r1, r2, e⟩ := s1.2.1 p p1 c
        rw [e]; exact hp r q r1 (by omega) (by omega) q2
      · rw [s1.1 p (by omega)]; exact hp p q p1 pq (by omega) q2)
    exact ⟨(s1.wide (Nat.le_refl _) (by omega)).trans s2, u2⟩
theorem sinksF_length (os : List Int) (a : Nat) : ∀ (k i : Nat) (ys : List Nat), (sinksF os a i k ys).length = ys.length
  | 0, _, _ => rfl
  | k + 1, i, ys => by rw [sinksF, sinksF_length os a k, sinkF_length]
/-- n places hold at least n items. -/
theorem hold_all : ∀ (n : Nat) (zs : List Nat), (∀ i, i < n → i ∈ zs) → n ≤ zs.length
  | 0, _, _ => Nat.zero_le _
  | n + 1, zs, h => by
    have hm := h n (by omega)
    have ih := hold_all n (zs.erase n) (fun i hi => (List.mem_erase_of_ne (by omega)).2 (h i (by omega)))
    rw [List.length_erase_of_mem hm] at ih
    have : 0 < zs.length := List.length_pos_of_mem hm
    omega
/-- Different numbers below n are at most n. -/
theorem few_all : ∀ (n : Nat) (zs : List Nat), zs.Nodup → (∀ z ∈ zs, z < n) → zs.length ≤ n
  | 0, [], _, _ => Nat.le_refl _
  | 0, z :: zs, _, h => absurd (h z (by simp)) (by omega)
  | n + 1, zs, hd, h => by
    by_cases c : n ∈ zs
    · have ih := few_all n (zs.erase n) (hd.erase n) (fun z hz => by
        have g := (List.Nodup.mem_erase_iff hd).1 hz
        have := h z g.2
        have := g.1
        omega)
      rw [List.length_erase_of_mem c] at ih
      omega
    · have ih := few_all n zs hd (fun z hz => by
        have := h z hz
        have : z ≠ n := fun e => c (e ▸ hz)
        omega)
      omega
theorem one_free {n : Nat} {zs : List Nat} (h : zs.length < n) : ∃ i, i < n ∧ i ∉ zs := by
  apply Classical.byContradiction
  intro k
  have := hold_all n zs (fun i hi => Classical.byContradiction fun hq => k ⟨i, hi, hq⟩)
  omega
theorem LTo.irrefl {os : List Int} {x : Nat} (h : LTo os x x) : False := by unfold LTo at h; omega
theorem LTo.asymm {os : List Int} {x y : Nat} (h : LTo os x y) (k : LTo os y x) : False := (h.trans k).irrefl
/-- Two sorted rows of the same items are the same. -/
theorem up_same {os : List Int} {xs ys : List Nat} {n : Nat} (h1 : UpT os xs 0 n) (h2 : UpT os ys 0 n) (hx : ∀ p, p < n → ∃ q, q < n ∧ xs.getD p 0 = ys.getD q 0) (hy : ∀ p, p < n → ∃ q, q < n ∧ ys.getD p 0 = xs.getD q 0) : ∀ m p, p < m → p < n → xs.getD p 0 = ys.getD p 0
  | 0, p, h, _ => by omega
  | m + 1, p, hm, hp => by
    have ih := up_same h1 h2 hx hy m
    obtain ⟨q, q1, e⟩ := hx p hp
    obtain ⟨r, r1, f⟩ := hy p hp
    have hq : p ≤ q := by
      apply Classical.byContradiction; intro c
      have e2 := ih q (by omega) q1
      have := h1 q p (Nat.zero_le _) (by omega) hp
      rw [e2, ← e] at this
      exact this.irrefl
    have hr : p ≤ r := by
      apply Classical.byContradiction; intro c
      have e2 := ih r (by omega) r1
      have := h2 r p (Nat.zero_le _) (by omega) hp
      rw [← e2, ← f] at this
      exact this.irrefl
    by_cases c : q = p
    · rw [e, c]
    · have k := h2 p q (Nat.zero_le _) (by omega) q1
      rw [← e, f] at k
      by_cases c2 : r = p
      · rw [f, c2]
      · exact (k.asymm (h1 p r (Nat.zero_le _) (by omega) r1)).elim
/-- A sorted row of n items below n holds each of them. -/
theorem up_all {os : List Int} {zs : List Nat} {n : Nat} (h : UpT os zs 0 n) (hl : zs.length = n) (hin : ∀ z ∈ zs, z < n) {i : Nat} (hi : i < n) : ∃ q, q < n ∧ zs.getD q 0 = i := by
  apply Classical.byContradiction
  intro k
  have hn : i ∉ zs := fun hm => by
    obtain ⟨q, hq, e⟩ := List.getElem_of_mem hm
    exact k ⟨q, by omega, by simp only [List.getD_eq_getElem?_getD, List.getElem?_eq_getElem hq, Option.getD_some, e]⟩
  have hnd : zs.Nodup := by
    rw [List.nodup_iff_pairwise_ne, List.pairwise_iff_getElem]
    intro p q hp hq hpq e
    have := h p q (Nat.zero_le _) hpq (by omega)
    simp only [List.getD_eq_getElem?_getD, List.getElem?_eq_getElem hp, List.getElem?_eq_getElem hq, Option.getD_some, e] at this
    exact this.irrefl
  have hlen := few_all n (i :: zs) (List.nodup_cons.2 ⟨hn, hnd⟩) (fun x hx => by
    rcases List.mem_cons.1 hx with rfl | hx
    · exact hi
    · exact hin x hx)
  simp at hlen; omega
end Go.Proofs.Ytjcbphhemmdnjaa
namespace Go.Proofs.Ytjcbphhemmdnjaa
open Go.RowKit
set_option linter.unusedSimpArgs false
set_option linter.unusedVariables false
-- below_from_drew
attribute [local go_sem] ov_cell_same ov_cell_other ov_frozen_same ov_frozen_other ov_size ov_setCell_same ov_setCell_other cell_alloc_old frozen_alloc_old setCell_alloc_old old_alloc old_ov old_drew old_drewN old_setCell
variable {nd : Lbl}
theorem InR.mem {n : Nat} {ys : List Nat} (h : InR n ys) : ∀ y ∈ ys, y < n := fun y hy => by
  obtain ⟨i, hi, rfl⟩ := List.getElem_of_mem hy
  have := h i hi
  simpa only [List.getD_eq_getElem?_getD, List.getElem?_eq_getElem hi, Option.getD_some] using this
/-- The first blocks sorted, the rest as it came. -/
structure Blk20 (os : List Int) (n a : Nat) (ys : List Nat) : Prop where
  len : ys.length = n
  rest : ∀ p, a ≤ p → p < n → ys.getD p 0 = p
  own : ∀ p, p < n → ys.getD p 0 < n ∧ ys.getD p 0 / 20 = p / 20
  up : ∀ p q, p < q → q < a → p / 20 = q / 20 → LTo os (ys.getD p 0) (ys.getD q 0)
theorem Blk20.inr {os : List Int} {n a : Nat} {ys : List Nat} (h : Blk20 os n a ys) : InR n ys := fun p hp => (h.own p (by rw [← h.len]; exact hp)).1
theorem Blk20.start {os : List Int} {n : Nat} {ys : List Nat} (h1 : ys.length = n) (h2 : ∀ p, p < n → ys.getD p 0 = p) : Blk20 os n 0 ys :=
  ⟨h1, fun p _ hp => h2 p hp, fun p hp => by rw [h2 p hp]; exact ⟨hp, rfl⟩, fun p q _ h => by omega⟩
theorem Blk20.step {os : List Int} {n a hi : Nat} {ys zs : List Nat} (h : Blk20 os n a ys) (ha : a % 20 = 0) (h1 : a ≤ hi) (h2 : hi ≤ n) (h3 : hi ≤ a + 20) (hl : zs.length = n) (hs : SameT ys zs a hi) (hu : UpT os zs a hi) : Blk20 os n hi zs := by
  refine ⟨hl, fun p p1 p2 => by rw [hs.1 p (by omega)]; exact h.rest p (by omega) p2, fun p hp => ?_, fun p q pq q1 e => ?_⟩
  · by_cases c : a ≤ p ∧ p < hi
    · obtain ⟨q, q1, q2, e⟩ := hs.2.1 p c.1 c.2
      have := h.rest q q1 (by omega)
      rw [e, this]; omega
    · rw [hs.1 p c]; exact h.own p hp
  · by_cases c : a ≤ p
    · exact hu p q c pq q1
    · have c2 : q < a := by omega
      rw [hs.1 p (by omega), hs.1 q (by omega)]
      exact h.up p q pq c2 e
theorem Blk20.asc {os : List Int} {n a : Nat} {ys : List Nat} (h : Blk20 os n a ys) {hi : Nat} (h2 : hi ≤ n) : ∀ p q, a ≤ p → p < q → q < hi → ys.getD p 0 < ys.getD q 0 := fun p q p1 pq q1 => by
  rw [h.rest p p1 (by omega), h.rest q (by omega) (by omega)]; exact pq
theorem Blk20.upT {os : List Int} {n : Nat} {ys : List Nat} (h : Blk20 os n n ys) {a hi : Nat} (h2 : hi ≤ n) (h3 : ∀ q, a ≤ q → q < hi → a / 20 = q / 20) : UpT os ys a hi := fun p q p1 pq q1 =>
  h.up p q pq (by omega) (by rw [← h3 p p1 (by omega), ← h3 q (by omega) q1])
theorem Blk20.one {os : List Int} {n : Nat} {ys : List Nat} (h : Blk20 os n n ys) (h2 : n ≤ 20) : UpT os ys 0 n ∧ InR n ys := ⟨h.upT (Nat.le_refl _) (fun q _ q1 => by omega), h.inr⟩
theorem Blk20.sep {os : List Int} {n hi : Nat} {ys : List Nat} (h : Blk20 os n n ys) (h1 : hi ≤ n) : SepT ys 0 20 hi := fun p q _ p2 q1 q2 => by
  have := (h.own p (by omega)).2
  have := (h.own q (by omega)).2
  omega
/-- Two blocks merged, behind them a third. -/
theorem Blk20.two {os : List Int} {n : Nat} {ys zs : List Nat} (h : Blk20 os n n ys) (h1 : 40 < n) (h2 : n ≤ 60) (hs : SameT ys zs 0 40) : UpT os zs 40 n ∧ SepT zs 0 40 n := by
  refine ⟨fun p q p1 pq q1 => ?_, fun p q _ p2 q1 q2 => ?_⟩
  · rw [hs.1 p (by omega), hs.1 q (by omega)]
    exact h.up p q pq q1 (by omega)
  · obtain ⟨r, _, r1, e⟩ := hs.2.1 p (Nat.zero_le _) p2
    rw [e, hs.1 q (by omega)]
    have := (h.own r (by omega)).2
    have := (h.own q q2).2
    omega
set_option maxRecDepth 100000 in
set_option maxHeartbeats 2000000 in
theorem ins_none (p g gcap a n : Nat) (ys : List Nat) (T : TypeId) (w : World) (ha : a ≤ 1000000) (hg : Has w g (placeCells nd ys) T) :
    Calls Try.prog 92 #[.slice (some ⟨g, 0, none⟩) n gcap, .int .i64 (a : Int), .int .i64 (a : Int), .func (Fn.func 62) #[] #[.pointer (some ⟨p, 0, none⟩)]] w fun e w' => e = .returned (.tuple #[]) ∧ SortL nd w g T ys w' := by
  have HG := Lib.hid hg; clear hg
  have c1 : (a : Int) ≤ (a : Int) + 1 := by omega
  go_enter Try.func92, Try.ntmps92
  go_wp2_with fail
  refine wp_loop_rounds 1 ?_
  rw [rounds_succ]; go_wp2_with fail
  go_end0
  exact ⟨rfl, .of HG.out (But.refl _ _ _)⟩
theorem ins_any (p g gcap a hi n : Nat) (os : List Int) (ys : List Nat) (T : TypeId) (w : World) (hn : ys.length = n) (hab : a ≤ hi) (hhi : hi ≤ n) (hm : n ≤ 1000000) (hgc : n ≤ gcap) (hin : InR os.length ys) (ho : OrdIn nd p g os w) (hg : Has w g (placeCells nd ys) T) (hup : ∀ p q, a ≤ p → p < q → q < hi → ys.getD p 0 < ys.getD q 0) :
    Calls Try.prog 92 #[.slice (some ⟨g, 0, none⟩) n gcap, .int .i64 (a : Int), .int .i64 (hi : Int), .func (Fn.func 62) #[] #[.pointer (some ⟨p, 0, none⟩)]] w fun e w' => e = .returned (.tuple #[]) ∧ ∃ zs, zs.length = n ∧ SameT ys zs a hi ∧ UpT os zs a hi ∧ SortL nd w g T zs w' := by
  subst hn
  rcases Nat.lt_or_ge a hi with c | c
  · refine (sorts_any p g gcap a hi os ys T w c hhi hm ho.n hin.mem hgc ho hg).mono ?_
    rintro e w' ⟨rfl, hl⟩
    obtain ⟨s1, u1⟩ := sinks_up os a hi (hi - (a + 1)) (a + 1) ys (by omega) (by omega) hhi (fun p q p1 pq q1 => by omega) (fun p q p1 pq _ q2 => hup p q p1 pq q2)
    exact ⟨rfl, _, sinksF_length _ _ _ _ _, s1, u1, hl⟩
  · obtain rfl : a = hi := by omega
    refine (ins_none p g gcap a ys.length ys T w (by omega) hg).mono ?_
    rintro e w' ⟨rfl, hl⟩
    exact ⟨rfl, ys, rfl, SameT.refl _ _ _, fun p q p1 pq q1 => by omega, hl⟩
/-- The first loop: block by block. -/
def StabA (nd : Lbl) (os : List Int) (n : Nat) (w : World) (g : Nat) (T : TypeId) (av bv : Value) (wr : World) : Prop :=
  ∃ (a : Nat) (ys : List Nat), av = .int .i64 (a : Int) ∧ bv = .int .i64 ((a : Int) + 20) ∧ a % 20 = 0 ∧ a ≤ n ∧ Blk20 os n a ys ∧ SortL nd w g T ys wr
set_option maxRecDepth 100000 in
set_option maxHeartbeats 4000000 in
theorem stable_any (p g gcap n : Nat) (os : List Int) (ys : List Nat) (T : TypeId) (w : World) (hn : ys.length = n) (hon : os.length = n) (h60 : n ≤ 60) (hgc : n ≤ gcap) (hid : ∀ p, p < n → ys.getD p 0 = p) (ho : OrdIn nd p g os w) (hg : Has w g (placeCells nd ys) T) :
    Calls Try.prog 78 #[.slice (some ⟨g, 0, none⟩) n gcap, .int .i64 (n : Int), .func (Fn.func 62) #[] #[.pointer (some ⟨p, 0, none⟩)]] w fun e w' => e = .returned (.tuple #[]) ∧ ∃ zs, zs.length = n ∧ UpT os zs 0 n ∧ InR n zs ∧ SortL nd w g T zs w' := by
  have HB := Lib.hid (Blk20.start (os := os) hn hid); have HG := Lib.hid hg; have HO := Lib.hid ho; have HON := Lib.hid hon
  clear hn hid ho hg hon
  go_enter Try.func78, Try.ntmps78
  go_wp2_with fail
  go_loopw [7, 8] (fun av bv wr => StabA nd os n w g T av bv wr) (fun av _ _ => n - (intOf av).toNat)
  case atStart => unfold StabA; exact ⟨0, ys, rfl, rfl, rfl, by omega, HB.out, .of HG.out (But.refl _ _ _)⟩
  case round =>
    unfold StabA at hrel
    obtain ⟨a, zs, rfl, rfl, ha, han, hb, hl⟩ := hrel
    have HBB := Lib.hid hb; have HL := Lib.hid hl
    have HO2 := Lib.hid (HO.out.sort hl)
    clear hb hl
    rcases Nat.lt_or_ge n (a + 20) with c1 | c1
    · have c2 : (n : Int) < (a : Int) + 20 := by omega
      have HI := Lib.hid (ins_any p g gcap a n n os zs T wr HBB.out.len han (Nat.le_refl _) (by omega) hgc (by rw [HON.out]; exact HBB.out.inr) HO2.out HL.out.1 (HBB.out.asc (Nat.le_refl _)))
      go_wp2_with fail
      refine HI.out.mono ?_
      rintro e w1 ⟨rfl, us, hul, hs, hu, hl⟩
      have HB2 := Lib.hid (HBB.out.step ha han (Nat.le_refl _) (by omega) hul hs hu)
      have HL2 := Lib.hid (HL.out.trans hl)
      have HO3 := Lib.hid (HO2.out.sort hl)
      clear hul hs hu hl
      rcases Nat.lt_or_ge 20 n with c3 | c3
      · have c4 : (20 : Int) < n := by omega
        rcases Nat.lt_or_ge n 40 with c5 | c5
        · have c6 : (n : Int) < 40 := by omega
          have hsy : SymOk nd p g gcap os T 0 20 n us w1 := sym_any p g gcap os T (n + 1) 0 20 n us w1 (by omega) ⟨by omega, by omega, by rw [HB2.out.len]; omega, by rw [HB2.out.len]; omega, by rw [HON.out]; exact HB2.out.inr, HO3.out, HL2.out.1, HB2.out.upT (by omega) (fun q _ _ => by omega), HB2.out.upT (by omega) (fun q _ _ => by omega), HB2.out.sep (by omega)⟩
          unfold SymOk at hsy
          rw [HB2.out.len] at hsy
          have HS := Lib.hid hsy; clear hsy
          go_wp2_with fail
          refine wp_loop_rounds 2 ?_
          rw [rounds_succ]; go_wp2_with fail
          refine wp_loop_rounds 1 ?_
          rw [rounds_succ]; go_wp2_with fail
          refine HS.out.mono ?_
          rintro e w2 ⟨rfl, vs, hvl, ⟨hs, hu⟩, hl⟩
          have HV := Lib.hid hvl; have HU := Lib.hid hu; have HIN := Lib.hid (HB2.out.inr.same (by rw [hvl, HB2.out.len]) hs (by rw [HB2.out.len]; omega)); have HL3 := Lib.hid (HL2.out.trans hl)
          clear hvl hs hu hl
          go_wp2_with fail
          rw [rounds_succ]; go_wp2_with fail
          go_end0
          exact ⟨rfl, vs, HV.out, HU.out, HIN.out, HL3.out⟩
        · have hsy : SymOk nd p g gcap os T 0 20 40 us w1 := sym_any p g gcap os T (n + 1) 0 20 40 us w1 (by omega) ⟨by omega, by omega, by rw [HB2.out.len]; omega, by rw [HB2.out.len]; omega, by rw [HON.out]; exact HB2.out.inr, HO3.out, HL2.out.1, HB2.out.upT (by omega) (fun q _ _ => by omega), HB2.out.upT (by omega) (fun q _ _ => by omega), HB2.out.sep (by omega)⟩
          unfold SymOk at hsy
          rw [HB2.out.len] at hsy
          have HS := Lib.hid hsy; clear hsy
          have c6 : (40 : Int) ≤ n := by omega
          have c7 : (n : Int) < 80 := by omega
          have c8 : (n : Int) ≤ 60 := by omega
          go_wp2_with fail
          refine wp_loop_rounds 3 ?_
          rw [rounds_succ]; go_wp2_with fail
          refine wp_loop_rounds 2 ?_
          rw [rounds_succ]; go_wp2_with fail
          refine HS.out.mono ?_
          rintro e w2 ⟨rfl, vs, hvl, ⟨hs, hu⟩, hl⟩
          have HV := Lib.hid hvl; have HU := Lib.hid hu; have HSM := Lib.hid hs; have HIN := Lib.hid (HB2.out.inr.same (by rw [hvl, HB2.out.len]) hs (by rw [HB2.out.len]; omega)); have HL3 := Lib.hid (HL2.out.trans hl)
          have HO4 := Lib.hid (HO3.out.sort hl)
          clear hvl hs hu hl
          go_wp2_with fail
          rw [rounds_succ]; go_wp2_with fail
          rcases Nat.lt_or_ge 40 n with c9 | c9
          · have c10 : (40 : Int) < n := by omega
            have h2 := HB2.out.two c9 h60 HSM.out
            have hsy : SymOk nd p g gcap os T 0 40 n vs w2 := sym_any p g gcap os T (n + 1) 0 40 n vs w2 (by omega) ⟨by omega, by omega, by rw [HV.out]; omega, by rw [HV.out]; omega, by rw [HON.out]; exact HIN.out, HO4.out, HL3.out.1, HU.out, h2.1, h2.2⟩
            unfold SymOk at hsy
            rw [HV.out] at hsy
            have HS2 := Lib.hid hsy; clear hsy h2
            rw [rounds_succ]; go_wp2_with fail
            refine wp_loop_rounds 1 ?_
            rw [rounds_succ]; go_wp2_with fail
            refine HS2.out.mono ?_
            rintro e w3 ⟨rfl, xs, hxl, ⟨hs, hu⟩, hl⟩
            have HX := Lib.hid hxl; have HU2 := Lib.hid hu; have HIN2 := Lib.hid (HIN.out.same (by rw [hxl, HV.out]) hs (by rw [HV.out]; omega)); have HL4 := Lib.hid (HL3.out.trans hl)
            clear hxl hs hu hl
            go_wp2_with fail
            rw [rounds_succ]; go_wp2_with fail
            go_end0
            exact ⟨rfl, xs, HX.out, HU2.out, HIN2.out, HL4.out⟩
          · obtain rfl : n = 40 := by omega
            rw [rounds_succ]; go_wp2_with fail
            go_end0
            exact ⟨rfl, vs, HV.out, HU.out, HIN.out, HL3.out⟩
      · have c4 : (n : Int) ≤ 20 := by omega
        go_wp2_with fail
        refine wp_loop_rounds 1 ?_
        rw [rounds_succ]; go_wp2_with fail
        go_end0
        obtain ⟨u1, u2⟩ := HB2.out.one c3
        exact ⟨rfl, us, HB2.out.len, u1, u2, HL2.out⟩
    · have c2 : (a : Int) + 20 ≤ n := by omega
      have HI := Lib.hid (ins_any p g gcap a (a + 20) n os zs T wr HBB.out.len (by omega) c1 (by omega) hgc (by rw [HON.out]; exact HBB.out.inr) HO2.out HL.out.1 (HBB.out.asc c1))
      go_wp2_with fail
      refine HI.out.mono ?_
      rintro e w1 ⟨rfl, us, hul, hs, hu, hl⟩
      have HB2 := Lib.hid (HBB.out.step ha (by omega) c1 (by omega) hul hs hu)
      have HL2 := Lib.hid (HL.out.trans hl)
      clear hul hs hu hl
      go_wp2_with fail
      go_roundw
      case rel => unfold StabA; exact ⟨a + 20, us, by go_num, by go_num, by omega, c1, HB2.out, HL2.out⟩
      case measure => simp [intOf]; omega
set_option maxRecDepth 100000 in
set_option maxHeartbeats 2000000 in
theorem sortstable_zero (p g gcap : Nat) (T : TypeId) (w : World) (hg : Has w g (placeCells nd []) T) :
    Calls Try.prog 61 #[.slice (some ⟨g, 0, none⟩) 0 gcap, .func (Fn.func 62) #[] #[.pointer (some ⟨p, 0, none⟩)]] w fun e w' => e = .returned (.tuple #[]) ∧ SortL nd w g T [] w' := by
  have HI := Lib.hid (ins_none p g gcap 0 0 [] T w (by omega) hg)
  clear hg
  go_enter Try.func61, Try.ntmps61
  go_wp2_with (go_at_call 78; go_in)
  refine wp_loop_rounds 1 ?_
  rw [rounds_succ]; go_wp2_with fail
  refine HI.out.mono ?_
  rintro e w1 ⟨rfl, hl⟩
  have HL := Lib.hid hl; clear hl
  go_wp2_with fail
  refine wp_loop_rounds 1 ?_
  rw [rounds_succ]; go_wp2_with fail
  go_end0
  exact ⟨rfl, HL.out⟩
set_option maxRecDepth 100000 in
set_option maxHeartbeats 2000000 in
theorem sortstable_any (p g gcap n : Nat) (os : List Int) (ys : List Nat) (T : TypeId) (w : World) (hn : ys.length = n) (hon : os.length = n) (h60 : n ≤ 60) (hgc : n ≤ gcap) (hid : ∀ p, p < n → ys.getD p 0 = p) (ho : OrdIn nd p g os w) (hg : Has w g (placeCells nd ys) T) :
    Calls Try.prog 61 #[.slice (some ⟨g, 0, none⟩) n gcap, .func (Fn.func 62) #[] #[.pointer (some ⟨p, 0, none⟩)]] w fun e w' => e = .returned (.tuple #[]) ∧ ∃ zs, zs.length = n ∧ UpT os zs 0 n ∧ InR n zs ∧ SortL nd w g T zs w' := by
  have HS := Lib.hid (stable_any p g gcap n os ys T w hn hon h60 hgc hid ho hg)
  clear hn hon hid ho hg
  go_enter Try.func61, Try.ntmps61
  go_wp2_with fail
  refine HS.out.mono ?_
  rintro e w1 ⟨rfl, zs, h1, h2, h3, hl⟩
  have H1 := Lib.hid h1; have H2 := Lib.hid h2; have H3 := Lib.hid h3; have HL := Lib.hid hl; clear h1 h2 h3 hl
  go_wp2_with fail
  go_end0
  exact ⟨rfl, zs, H1.out, H2.out, H3.out, HL.out⟩
end Go.Proofs.Ytjcbphhemmdnjaa
