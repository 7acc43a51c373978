/- slices.symMergeCmpFunc over places: the cases of one item at one side. -/
import Derived.Test.YtgelkmpmificpaaSortE
namespace Go.Proofs.Ytgelkmpmificpaa
open Go.RowKit
set_option linter.unusedSimpArgs false
set_option linter.unusedVariables false
-- below_from_drew
attribute [local go_sem] ov_cell_same ov_cell_other ov_frozen_same ov_frozen_other ov_size ov_setCell_same ov_setCell_other cell_alloc_old frozen_alloc_old setCell_alloc_old old_alloc old_ov old_drew old_drewN old_setCell

theorem one_left {os : List Int} {xs zs : List Nat} {a e hi : Nat} (h : ∀ p, zs.getD p 0 = rotG a (a + 1) e xs p) (h1 : a + 1 ≤ e) (h2 : e ≤ hi) (u2 : UpT os xs (a + 1) hi) (d2 : a + 1 < e → LTo os (xs.getD (e - 1) 0) (xs.getD a 0)) (d3 : e < hi → LTo os (xs.getD a 0) (xs.getD e 0)) : SameT xs zs a hi ∧ UpT os zs a hi := by
  have f2 : ∀ p, a ≤ p → p < e - 1 → zs.getD p 0 = xs.getD (p + 1) 0 := fun p hp hq => by rw [h, rotG, if_pos (by omega), if_pos (by omega)]; exact congrArg (fun q => xs.getD q 0) (by omega)
  have f3 : zs.getD (e - 1) 0 = xs.getD a 0 := by rw [h, rotG, if_pos (by omega), if_neg (by omega)]; exact congrArg (fun q => xs.getD q 0) (by omega)
  have f4 : ∀ p, e ≤ p → zs.getD p 0 = xs.getD p 0 := fun p hp => by rw [h, rotG, if_neg (by omega)]
  refine ⟨(rot_same h (by omega) h1).wide (Nat.le_refl _) h2, fun p q p1 pq q1 => ?_⟩
  have hl : ∀ q, e ≤ q → q < hi → LTo os (xs.getD a 0) (xs.getD q 0) := fun q q2 q3 => by
    by_cases k : q = e
    · rw [k]; exact d3 (by omega)
    · exact (d3 (by omega)).trans (u2 e q (by omega) (by omega) q3)
  have hr : ∀ p, a + 1 ≤ p → p < e → LTo os (xs.getD p 0) (xs.getD a 0) := fun p p2 p3 => by
    by_cases k : p = e - 1
    · rw [k]; exact d2 (by omega)
    · exact (u2 p (e - 1) p2 (by omega) (by omega)).trans (d2 (by omega))
  rcases Nat.lt_trichotomy q (e - 1) with c | c | c
  · rw [f2 p p1 (by omega), f2 q (by omega) c]; exact u2 _ _ (by omega) (by omega) (by omega)
  · subst c; rw [f2 p p1 (by omega), f3]; exact hr _ (by omega) (by omega)
  · rw [f4 q (by omega)]
    rcases Nat.lt_trichotomy p (e - 1) with k | k | k
    · rw [f2 p p1 k]; exact u2 _ _ (by omega) (by omega) q1
    · subst k; rw [f3]; exact hl q (by omega) q1
    · rw [f4 p (by omega)]; exact u2 _ _ (by omega) pq q1
theorem one_right {os : List Int} {xs zs : List Nat} {a s m : Nat} (h : ∀ p, zs.getD p 0 = rotG s m (m + 1) xs p) (h1 : a ≤ s) (h2 : s ≤ m) (u1 : UpT os xs a m) (d1 : a < s → LTo os (xs.getD (s - 1) 0) (xs.getD m 0)) (d2 : s < m → LTo os (xs.getD m 0) (xs.getD s 0)) : SameT xs zs a (m + 1) ∧ UpT os zs a (m + 1) := by
  have f1 : ∀ p, p < s → zs.getD p 0 = xs.getD p 0 := fun p hp => by rw [h, rotG, if_neg (by omega)]
  have f2 : zs.getD s 0 = xs.getD m 0 := by rw [h, rotG, if_pos (by omega), if_pos (by omega)]; exact congrArg (fun q => xs.getD q 0) (by omega)
  have f3 : ∀ p, s < p → p < m + 1 → zs.getD p 0 = xs.getD (p - 1) 0 := fun p hp hq => by rw [h, rotG, if_pos (by omega), if_neg (by omega)]; exact congrArg (fun q => xs.getD q 0) (by omega)
  refine ⟨(rot_same h h2 (by omega)).wide h1 (Nat.le_refl _), fun p q p1 pq q1 => ?_⟩
  have hl : ∀ p, a ≤ p → p < s → LTo os (xs.getD p 0) (xs.getD m 0) := fun p p2 p3 => by
    by_cases k : p = s - 1
    · rw [k]; exact d1 (by omega)
    · exact (u1 p (s - 1) p2 (by omega) (by omega)).trans (d1 (by omega))
  have hr : ∀ q, s ≤ q → q < m → LTo os (xs.getD m 0) (xs.getD q 0) := fun q q2 q3 => by
    by_cases k : q = s
    · rw [k]; exact d2 (by omega)
    · exact (d2 (by omega)).trans (u1 s q (by omega) (by omega) q3)
  rcases Nat.lt_trichotomy p s with c | c | c
  · rw [f1 p c]
    rcases Nat.lt_trichotomy q s with k | k | k
    · rw [f1 q k]; exact u1 _ _ p1 pq (by omega)
    · subst k; rw [f2]; exact hl p p1 c
    · rw [f3 q k q1]; exact u1 _ _ p1 (by omega) (by omega)
  · subst c; rw [f2, f3 q pq q1]; exact hr _ (by omega) (by omega)
  · rw [f3 p c (by omega), f3 q (by omega) q1]; exact u1 _ _ (by omega) (by omega) (by omega)
theorem rot_grow {xs zs : List Nat} {a k : Nat} (h : ∀ p, zs.getD p 0 = rotG a (a + 1) (k + 1) xs p) (h1 : a ≤ k) (h2 : k + 1 < zs.length) (p : Nat) : (swp k (k + 1) zs).getD p 0 = rotG a (a + 1) (k + 1 + 1) xs p := by
  rw [swp_at (by omega) h2, h, h, h]
  unfold rotG
  repeat' split
  all_goals first | omega | (refine congrArg (fun q => xs.getD q 0) ?_; omega)
theorem rot_back {xs zs : List Nat} {m k : Nat} (h : ∀ p, zs.getD p 0 = rotG (k + 1) m (m + 1) xs p) (h1 : k + 1 ≤ m) (h2 : k + 1 < zs.length) (p : Nat) : (swp (k + 1) k zs).getD p 0 = rotG k m (m + 1) xs p := by
  rw [swp_at h2 (by omega), h, h, h]
  unfold rotG
  repeat' split
  all_goals first | omega | (refine congrArg (fun q => xs.getD q 0) ?_; omega)
theorem rot_nil {ys : List Nat} {a m : Nat} (p : Nat) : ys.getD p 0 = rotG a m m ys p := by
  unfold rotG
  repeat' split
  all_goals first | rfl | omega | (refine congrArg (fun q => ys.getD q 0) ?_; omega)
/-- The items' numbers, where the comparer finds them. -/
structure OrdIn (p b off cap g : Nat) (os : List Int) (w : World) : Prop where
  hp : p < w.heap.size
  hb : b < w.heap.size
  pg : p ≠ g
  bg : b ≠ g
  n : os.length ≤ 1000000
  c : w.cell? ⟨p, 0, none⟩ = some (.slice (some ⟨b, off, none⟩) os.length cap)
  r : ∀ i, i < os.length → w.cell? ⟨b, off + i, none⟩ = some (.int .i64 (os.getD i 0))
theorem OrdIn.sort {p b off cap g : Nat} {os : List Int} {w w' : World} {T : TypeId} {ys : List Nat} (h : OrdIn p b off cap g os w) (k : SortL w g T ys w') : OrdIn p b off cap g os w' :=
  ⟨Nat.lt_of_lt_of_le h.hp k.2.1, Nat.lt_of_lt_of_le h.hb k.2.1, h.pg, h.bg, h.n, (k.2.2.1 p 0 h.hp h.pg).trans h.c, fun i hi => (k.2.2.1 b _ h.hb h.bg).trans (h.r i hi)⟩
theorem OrdIn.below {p b off cap g : Nat} {os : List Int} {w w' : World} (h : OrdIn p b off cap g os w) (k : Below w.heap.size w w') : OrdIn p b off cap g os w' :=
  ⟨Nat.lt_of_lt_of_le h.hp k.size, Nat.lt_of_lt_of_le h.hb k.size, h.pg, h.bg, h.n, (k.cell (p := ⟨p, 0, none⟩) h.hp).trans h.c, fun i hi => (k.cell (p := ⟨b, _, none⟩) h.hb).trans (h.r i hi)⟩
theorem OrdIn.less {p b off cap g : Nat} {os : List Int} {w : World} (h : OrdIn p b off cap g os w) {x y : Nat} (hx : x < os.length) (hy : y < os.length) :
    Calls Try.prog 55 #[.int .i64 (x : Int), .int .i64 (y : Int), .pointer (some ⟨p, 0, none⟩)] w fun e w' => e = .returned (.int .i64 (cmpZ (os.getD x 0) (os.getD y 0))) ∧ Below w.heap.size w w' :=
  less_any p b off os.length cap x y _ _ hx hy h.n w h.hp h.hb h.c (h.r x hx) (h.r y hy)
theorem cmpZ_neg (x y : Int) : cmpZ x y < 0 ↔ x < y := by unfold cmpZ; split <;> (try split) <;> omega
/-- The search for the place of the item at a. -/
def SrchA (os : List Int) (ys : List Nat) (a m hi : Nat) (w : World) (iv jv : Value) (wr : World) : Prop :=
  ∃ (i j : Nat), m ≤ i ∧ i ≤ j ∧ j ≤ hi ∧ iv = .int .i64 (i : Int) ∧ jv = .int .i64 (j : Int) ∧ (m < i → os.getD (ys.getD (i - 1) 0) 0 < os.getD (ys.getD a 0) 0) ∧ (j < hi → ¬ os.getD (ys.getD j 0) 0 < os.getD (ys.getD a 0) 0) ∧ Below w.heap.size w wr
def InR (n : Nat) (ys : List Nat) : Prop := ∀ p, p < ys.length → ys.getD p 0 < n
set_option maxRecDepth 100000 in
set_option maxHeartbeats 4000000 in
theorem symA_any (p b off cap g gcap a m hi : Nat) (os : List Int) (ys : List Nat) (T : TypeId) (w : World) (hma : m = a + 1) (hab : m < hi) (hhi : hi ≤ ys.length) (hmx : ys.length ≤ 1000000) (hin : InR os.length ys) (ho : OrdIn p b off cap g os w) (hg : Has w g (placeCells ys) T)
    (u2 : UpT os ys m hi) (hsep : SepT ys a m hi) :
    Calls Try.prog 114 #[.slice (some ⟨g, 0, none⟩) ys.length gcap, .int .i64 (a : Int), .int .i64 (m : Int), .int .i64 (hi : Int), .func (Fn.func 55) #[] #[.pointer (some ⟨p, 0, none⟩)]] w fun e w' => e = .returned (.tuple #[]) ∧ ∃ zs, zs.length = ys.length ∧ (SameT ys zs a hi ∧ UpT os zs a hi) ∧ SortL w g T zs w' := by
  have HG := Lib.hid hg; have HIN := Lib.hid hin; have HO := Lib.hid ho; have HU := Lib.hid u2; have HS := Lib.hid hsep; have HGL := hg.lt
  clear hg hin ho u2 hsep
  generalize hlen : ys.length = l at *
  have HN := Lib.hid hlen; clear hlen
  have d1 : (m : Int) - a = 1 := by omega
  have hm1 : m ≤ a + 1 := by omega
  have hm2 : a < m := by omega
  have HMA := Lib.hid hma; clear hma
  go_enter Try.func114, Try.ntmps114
  go_wp2_with fail
  go_loopw [10, 11] (fun iv jv wr => SrchA os ys a m hi w iv jv wr) (fun iv jv _ => (intOf jv).toNat - (intOf iv).toNat)
  case atStart => unfold SrchA; exact ⟨m, hi, by omega, by omega, by omega, rfl, rfl, fun h => by omega, fun h => by omega, Below.refl _ _⟩
  case round =>
    unfold SrchA at hrel
    obtain ⟨i, j, hi1, hij, hjh, rfl, rfl, hd2, hd3, hbw⟩ := hrel
    have HD2 := Lib.hid hd2; have HD3 := Lib.hid hd3; have HBW := Lib.hid hbw
    have hsz := hbw.size
    clear hd2 hd3
    rcases Nat.lt_or_ge i j with c1 | c1
    · have c2 : (i : Int) < j := by omega
      obtain ⟨h, hh, h1, h2⟩ : ∃ h : Nat, ((i : Int) + j) / 2 = (h : Int) ∧ i ≤ h ∧ h < j := ⟨(i + j) / 2, by omega, by omega, by omega⟩
      have hL : SortL w g T ys wr := (SortL.of HG.out (But.refl _ _ _)).below hbw
      have k1 := has_cell hL.1 (placeCells_get (ys := ys) (j := h) (by rw [HN.out]; omega))
      have k0 := has_cell hL.1 (placeCells_get (ys := ys) (j := a) (by rw [HN.out]; omega))
      have m1 := HIN.out h (by rw [HN.out]; omega)
      have m0 := HIN.out a (by rw [HN.out]; omega)
      have HO2 := Lib.hid (HO.out.below hbw)
      have hless := fun W (hB : Below wr.heap.size wr W) => (HO2.out.below hB).less m1 m0
      have HLESS := Lib.hid hless
      have l1 := hL.1.lt
      have c5 : (h : Int) < l := by omega
      have c6 : (a : Int) < l := by omega
      clear hless hL hbw m1 m0
      generalize hX : ys.getD h 0 = X at *
      generalize hY : ys.getD a 0 = Y at *
      have HX := Lib.hid hX; have HY := Lib.hid hY
      clear hX hY
      have hcmp := cmpZ_neg (os.getD X 0) (os.getD Y 0)
      have HCMP := Lib.hid hcmp; clear hcmp
      generalize cmpZ (os.getD X 0) (os.getD Y 0) = z at *
      rcases Int.lt_or_le z 0 with c7 | c7
      · go_wp2_with fail
        refine region_ord [(0, 0), (1, 0), (2, 0), (3, 0), (4, 0), (5, 0), (6, 0), (7, 0), (8, 0), (9, 1), (10, 0)] (by kernel_rfl) (by kernel_rfl) (fun _ _ d _ _ h => by cases d <;> exact h) (fun hS => ?_)
        (refine wpG_read (v := ?_) rfl (.inl ⟨by rfl, fun wx hbx => ?_⟩) ?_; rotate_left; (focus (obtain ⟨cx0, fx0, zx0⟩ := bk hbx (g) (by first | omega | (simp; done) | (simp; omega)); go_simp; (try go_bits); (try with_reducible rfl))); try simp only [Act.put, List.setIfInBounds_toArray, List.set_cons_zero, List.set_cons_succ])
        (refine wpG_read (v := ?_) rfl (.inl ⟨by rfl, fun wx hbx => ?_⟩) ?_; rotate_left; (focus (obtain ⟨cx0, fx0, zx0⟩ := bk hbx (g) (by first | omega | (simp; done) | (simp; omega)); go_simp; (try go_bits); (try with_reducible rfl))); try simp only [Act.put, List.setIfInBounds_toArray, List.set_cons_zero, List.set_cons_succ])
        (refine wpG_read (v := ?_) rfl (.inl ⟨by rfl, fun wx hbx => ?_⟩) ?_; rotate_left; (focus (obtain ⟨cx0, fx0, zx0⟩ := bk hbx (g) (by first | omega | (simp; done) | (simp; omega)); go_simp; (try go_bits); (try with_reducible rfl))); try simp only [Act.put, List.setIfInBounds_toArray, List.set_cons_zero, List.set_cons_succ])
        (refine wpG_read (v := ?_) rfl (.inl ⟨by rfl, fun wx hbx => ?_⟩) ?_; rotate_left; (focus (obtain ⟨cx0, fx0, zx0⟩ := bk hbx (g) (by first | omega | (simp; done) | (simp; omega)); go_simp; (try go_bits); (try with_reducible rfl))); try simp only [Act.put, List.setIfInBounds_toArray, List.set_cons_zero, List.set_cons_succ])
        (refine wpG_read (v := ?_) rfl (.inl ⟨by rfl, fun wx hbx => ?_⟩) ?_; rotate_left; (focus (obtain ⟨cx0, fx0, zx0⟩ := bk hbx (g) (by first | omega | (simp; done) | (simp; omega)); go_simp; (try go_bits); (try with_reducible rfl))); try simp only [Act.put, List.setIfInBounds_toArray, List.set_cons_zero, List.set_cons_succ])
        (refine wpG_read (v := ?_) rfl (.inl ⟨by rfl, fun wx hbx => ?_⟩) ?_; rotate_left; (focus (obtain ⟨cx0, fx0, zx0⟩ := bk hbx (g) (by first | omega | (simp; done) | (simp; omega)); go_simp; (try go_bits); (try with_reducible rfl))); try simp only [Act.put, List.setIfInBounds_toArray, List.set_cons_zero, List.set_cons_succ])
        (refine wpG_read (v := ?_) rfl (.inl ⟨by rfl, fun wx hbx => ?_⟩) ?_; rotate_left; (focus (obtain ⟨cx0, fx0, zx0⟩ := bk hbx (g) (by first | omega | (simp; done) | (simp; omega)); go_simp; (try go_bits); (try with_reducible rfl))); try simp only [Act.put, List.setIfInBounds_toArray, List.set_cons_zero, List.set_cons_succ])
        (refine wpG_read (v := ?_) rfl (.inl ⟨by rfl, fun wx hbx => ?_⟩) ?_; rotate_left; (focus (obtain ⟨cx0, fx0, zx0⟩ := bk hbx (g) (by first | omega | (simp; done) | (simp; omega)); go_simp; (try go_bits); (try with_reducible rfl))); try simp only [Act.put, List.setIfInBounds_toArray, List.set_cons_zero, List.set_cons_succ])
        (refine wpG_read (v := ?_) rfl (.inl ⟨by rfl, fun wx hbx => ?_⟩) ?_; rotate_left; (focus (obtain ⟨cx0, fx0, zx0⟩ := bk hbx (g) (by first | omega | (simp; done) | (simp; omega)); go_simp; (try go_bits); (try with_reducible rfl))); try simp only [Act.put, List.setIfInBounds_toArray, List.set_cons_zero, List.set_cons_succ])
        (refine wpG_make rfl (fun K hK => ?_); go_simp; (go_at_call 55; (with_reducible refine (HLESS.out _ (by (repeat' (first | (with_reducible exact Below.refl _ _) | (with_reducible assumption) | (with_reducible refine below_from_drew ?_) | (with_reducible refine Below.alloc ?_ ?_ _) | (with_reducible refine Below.drew ?_) | (with_reducible refine below_drewN ?_ _) | (with_reducible refine Below.setCell ?_ ?_ _) | (with_reducible refine below_via ?_ (by assumption) ?_) | (with_reducible refine below_ov ?_ ?_ _ _) | go_size)))).mono ?_); rintro e u5 ⟨rfl, hb⟩; have hz := hb.size; refine (fun hB => ?_ : Below wr.heap.size wr u5 → _) ?_; rotate_left; (focus ((repeat' (first | (with_reducible exact Below.refl _ _) | (with_reducible assumption) | (with_reducible refine below_from_drew ?_) | (with_reducible refine Below.alloc ?_ ?_ _) | (with_reducible refine Below.drew ?_) | (with_reducible refine below_drewN ?_ _) | (with_reducible refine Below.setCell ?_ ?_ _) | (with_reducible refine below_via ?_ (by assumption) ?_) | (with_reducible refine below_ov ?_ ?_ _ _) | go_size)); done)); (try simp only [World.size_alloc, World.size_setCell, World.size_drew, ov_size] at hz)); (try simp only []); refine hK _ _ ?_ (fun hS2 => ?_); (focus ((repeat' (first | (with_reducible exact Below.refl _ _) | (with_reducible assumption) | (with_reducible refine below_from_drew ?_) | (with_reducible refine Below.alloc ?_ ?_ _) | (with_reducible refine Below.drew ?_) | (with_reducible refine below_drewN ?_ _) | (with_reducible refine Below.setCell ?_ ?_ _) | (with_reducible refine below_via ?_ (by assumption) ?_) | (with_reducible refine below_ov ?_ ?_ _ _) | go_size)); done)); clear hK K hS; have hS := hS2; clear hS2; (try clear hb); try simp only [Act.put, List.setIfInBounds_toArray, List.set_cons_zero, List.set_cons_succ])
        (refine wpG_read (v := ?_) rfl (.inl ⟨by rfl, fun wx hbx => ?_⟩) ?_; rotate_left; (focus (obtain ⟨cx0, fx0, zx0⟩ := bk hbx (g) (by first | omega | (simp; done) | (simp; omega)); go_simp; (try go_bits); (try with_reducible rfl))); try simp only [Act.put, List.setIfInBounds_toArray, List.set_cons_zero, List.set_cons_succ])
        refine wpG_nil ?_
        go_wp2_with fail
        go_roundw
        case rel => unfold SrchA; exact ⟨h + 1, j, by omega, by omega, by omega, by go_num, rfl, fun _ => by rw [Nat.add_sub_cancel, HX.out, HY.out]; exact HCMP.out.1 c7, fun hq => by rw [HY.out]; exact Int.not_lt.2 (HD3.out hq), by have q := HBW.out; (repeat' (first | (with_reducible exact Below.refl _ _) | (with_reducible assumption) | (with_reducible refine below_from_drew ?_) | (with_reducible refine Below.alloc ?_ ?_ _) | (with_reducible refine Below.drew ?_) | (with_reducible refine below_drewN ?_ _) | (with_reducible refine Below.setCell ?_ ?_ _) | (with_reducible refine below_via ?_ (by assumption) ?_) | (with_reducible refine below_ov ?_ ?_ _ _) | go_size))⟩
        case measure => simp [intOf]; omega
      · have c11 : decide (z < 0) = false := by simp; omega
        go_wp2_with fail
        refine region_ord [(0, 0), (1, 0), (2, 0), (3, 0), (4, 0), (5, 0), (6, 0), (7, 0), (8, 0), (9, 1), (10, 0)] (by kernel_rfl) (by kernel_rfl) (fun _ _ d _ _ h => by cases d <;> exact h) (fun hS => ?_)
        (refine wpG_read (v := ?_) rfl (.inl ⟨by rfl, fun wx hbx => ?_⟩) ?_; rotate_left; (focus (obtain ⟨cx0, fx0, zx0⟩ := bk hbx (g) (by first | omega | (simp; done) | (simp; omega)); go_simp; (try go_bits); (try with_reducible rfl))); try simp only [Act.put, List.setIfInBounds_toArray, List.set_cons_zero, List.set_cons_succ])
        (refine wpG_read (v := ?_) rfl (.inl ⟨by rfl, fun wx hbx => ?_⟩) ?_; rotate_left; (focus (obtain ⟨cx0, fx0, zx0⟩ := bk hbx (g) (by first | omega | (simp; done) | (simp; omega)); go_simp; (try go_bits); (try with_reducible rfl))); try simp only [Act.put, List.setIfInBounds_toArray, List.set_cons_zero, List.set_cons_succ])
        (refine wpG_read (v := ?_) rfl (.inl ⟨by rfl, fun wx hbx => ?_⟩) ?_; rotate_left; (focus (obtain ⟨cx0, fx0, zx0⟩ := bk hbx (g) (by first | omega | (simp; done) | (simp; omega)); go_simp; (try go_bits); (try with_reducible rfl))); try simp only [Act.put, List.setIfInBounds_toArray, List.set_cons_zero, List.set_cons_succ])
        (refine wpG_read (v := ?_) rfl (.inl ⟨by rfl, fun wx hbx => ?_⟩) ?_; rotate_left; (focus (obtain ⟨cx0, fx0, zx0⟩ := bk hbx (g) (by first | omega | (simp; done) | (simp; omega)); go_simp; (try go_bits); (try with_reducible rfl))); try simp only [Act.put, List.setIfInBounds_toArray, List.set_cons_zero, List.set_cons_succ])
        (refine wpG_read (v := ?_) rfl (.inl ⟨by rfl, fun wx hbx => ?_⟩) ?_; rotate_left; (focus (obtain ⟨cx0, fx0, zx0⟩ := bk hbx (g) (by first | omega | (simp; done) | (simp; omega)); go_simp; (try go_bits); (try with_reducible rfl))); try simp only [Act.put, List.setIfInBounds_toArray, List.set_cons_zero, List.set_cons_succ])
        (refine wpG_read (v := ?_) rfl (.inl ⟨by rfl, fun wx hbx => ?_⟩) ?_; rotate_left; (focus (obtain ⟨cx0, fx0, zx0⟩ := bk hbx (g) (by first | omega | (simp; done) | (simp; omega)); go_simp; (try go_bits); (try with_reducible rfl))); try simp only [Act.put, List.setIfInBounds_toArray, List.set_cons_zero, List.set_cons_succ])
        (refine wpG_read (v := ?_) rfl (.inl ⟨by rfl, fun wx hbx => ?_⟩) ?_; rotate_left; (focus (obtain ⟨cx0, fx0, zx0⟩ := bk hbx (g) (by first | omega | (simp; done) | (simp; omega)); go_simp; (try go_bits); (try with_reducible rfl))); try simp only [Act.put, List.setIfInBounds_toArray, List.set_cons_zero, List.set_cons_succ])
        (refine wpG_read (v := ?_) rfl (.inl ⟨by rfl, fun wx hbx => ?_⟩) ?_; rotate_left; (focus (obtain ⟨cx0, fx0, zx0⟩ := bk hbx (g) (by first | omega | (simp; done) | (simp; omega)); go_simp; (try go_bits); (try with_reducible rfl))); try simp only [Act.put, List.setIfInBounds_toArray, List.set_cons_zero, List.set_cons_succ])
        (refine wpG_read (v := ?_) rfl (.inl ⟨by rfl, fun wx hbx => ?_⟩) ?_; rotate_left; (focus (obtain ⟨cx0, fx0, zx0⟩ := bk hbx (g) (by first | omega | (simp; done) | (simp; omega)); go_simp; (try go_bits); (try with_reducible rfl))); try simp only [Act.put, List.setIfInBounds_toArray, List.set_cons_zero, List.set_cons_succ])
        (refine wpG_make rfl (fun K hK => ?_); go_simp; (go_at_call 55; (with_reducible refine (HLESS.out _ (by (repeat' (first | (with_reducible exact Below.refl _ _) | (with_reducible assumption) | (with_reducible refine below_from_drew ?_) | (with_reducible refine Below.alloc ?_ ?_ _) | (with_reducible refine Below.drew ?_) | (with_reducible refine below_drewN ?_ _) | (with_reducible refine Below.setCell ?_ ?_ _) | (with_reducible refine below_via ?_ (by assumption) ?_) | (with_reducible refine below_ov ?_ ?_ _ _) | go_size)))).mono ?_); rintro e u5 ⟨rfl, hb⟩; have hz := hb.size; refine (fun hB => ?_ : Below wr.heap.size wr u5 → _) ?_; rotate_left; (focus ((repeat' (first | (with_reducible exact Below.refl _ _) | (with_reducible assumption) | (with_reducible refine below_from_drew ?_) | (with_reducible refine Below.alloc ?_ ?_ _) | (with_reducible refine Below.drew ?_) | (with_reducible refine below_drewN ?_ _) | (with_reducible refine Below.setCell ?_ ?_ _) | (with_reducible refine below_via ?_ (by assumption) ?_) | (with_reducible refine below_ov ?_ ?_ _ _) | go_size)); done)); (try simp only [World.size_alloc, World.size_setCell, World.size_drew, ov_size] at hz)); (try simp only []); refine hK _ _ ?_ (fun hS2 => ?_); (focus ((repeat' (first | (with_reducible exact Below.refl _ _) | (with_reducible assumption) | (with_reducible refine below_from_drew ?_) | (with_reducible refine Below.alloc ?_ ?_ _) | (with_reducible refine Below.drew ?_) | (with_reducible refine below_drewN ?_ _) | (with_reducible refine Below.setCell ?_ ?_ _) | (with_reducible refine below_via ?_ (by assumption) ?_) | (with_reducible refine below_ov ?_ ?_ _ _) | go_size)); done)); clear hK K hS; have hS := hS2; clear hS2; (try clear hb); try simp only [Act.put, List.setIfInBounds_toArray, List.set_cons_zero, List.set_cons_succ])
        (refine wpG_read (v := ?_) rfl (.inl ⟨by rfl, fun wx hbx => ?_⟩) ?_; rotate_left; (focus (obtain ⟨cx0, fx0, zx0⟩ := bk hbx (g) (by first | omega | (simp; done) | (simp; omega)); go_simp; (try go_bits); (try with_reducible rfl))); try simp only [Act.put, List.setIfInBounds_toArray, List.set_cons_zero, List.set_cons_succ])
        refine wpG_nil ?_
        go_wp2_with fail
        go_roundw
        case rel => unfold SrchA; exact ⟨i, h, by omega, by omega, by omega, rfl, by go_num, fun hq => by rw [HY.out]; exact HD2.out hq, fun _ => by rw [HX.out, HY.out, ← HCMP.out]; omega, by have q := HBW.out; (repeat' (first | (with_reducible exact Below.refl _ _) | (with_reducible assumption) | (with_reducible refine below_from_drew ?_) | (with_reducible refine Below.alloc ?_ ?_ _) | (with_reducible refine Below.drew ?_) | (with_reducible refine below_drewN ?_ _) | (with_reducible refine Below.setCell ?_ ?_ _) | (with_reducible refine below_via ?_ (by assumption) ?_) | (with_reducible refine below_ov ?_ ?_ _ _) | go_size))⟩
        case measure => simp [intOf]; omega
    · obtain rfl : i = j := by omega
      have c2 : decide ((i : Int) < i) = false := by simp
      have c3 : (i : Int) - 1 = ((i - 1 : Nat) : Int) := by omega
      have hL : SortL w g T ys wr := (SortL.of HG.out (But.refl _ _ _)).below hbw
      have HL0 := Lib.hid hL
      clear hbw hL
      go_wp2_with fail
      go_loopw [13] (fun kv wr => ∃ (k : Nat) (zs : List Nat), a ≤ k ∧ k + 1 ≤ i ∧ kv = .int .i64 (k : Int) ∧ zs.length = l ∧ (∀ p, zs.getD p 0 = rotG a (a + 1) (k + 1) ys p) ∧ SortL w g T zs wr) (fun kv _ => i - (intOf kv).toNat)
      case atStart => exact ⟨a, ys, by omega, by omega, rfl, HN.out, rot_nil, HL0.out⟩
      case round =>
        obtain ⟨k, zs, hk1, hk2, rfl, hzl, hrot, hl⟩ := hrel
        have HZL := Lib.hid hzl; have HROT := Lib.hid hrot; have HL := Lib.hid hl
        have l1 := hl.1.lt
        clear hzl hrot hl
        rcases Nat.lt_or_ge (k + 1) i with c4 | c4
        · have c5 : (k : Int) < ((i - 1 : Nat) : Int) := by omega
          have c6 : (k : Int) + 1 < l := by omega
          have c7 : (k : Int) < l := by omega
          have c8 : (0 : Int) ≤ (k : Int) + 1 := by omega
          have g1 := placeCells_get (ys := zs) (j := k) (by rw [HZL.out]; omega)
          have g2 := placeCells_get (ys := zs) (j := k + 1) (by rw [HZL.out]; omega)
          have hst := HL.out.store (zs := swp k (k + 1) zs)
          rw [← placeCells_swp] at hst
          have HST := Lib.hid hst
          have hs5 := ov_self HL.out.1
          have HG2 := Lib.hid (rot_grow HROT.out hk1 (by rw [HZL.out]; omega))
          have hsl := Lib.hid (swp_length k (k + 1) zs)
          clear hst
          generalize swp k (k + 1) zs = us at *
          generalize zs.getD k 0 = X at *
          generalize zs.getD (k + 1) 0 = Y at *
          rw [← hs5]; clear hs5
          go_wp2_with fail
          have mixed : Try.prog.follows .mixedOrders = true := by kernel_rfl
          go_big_region_o
          clear mixed
          go_wp2_with fail
          go_roundw
          case rel => exact ⟨k + 1, us, by omega, by omega, by go_num, by rw [hsl.out, HZL.out], HG2.out, HST.out.below (by (repeat' (first | (with_reducible exact Below.refl _ _) | (with_reducible assumption) | (with_reducible refine below_from_drew ?_) | (with_reducible refine Below.alloc ?_ ?_ _) | (with_reducible refine Below.drew ?_) | (with_reducible refine below_drewN ?_ _) | (with_reducible refine Below.setCell ?_ ?_ _) | (with_reducible refine below_via ?_ (by assumption) ?_) | (with_reducible refine below_ov ?_ ?_ _ _) | go_size)))⟩
          case measure => simp [intOf]; omega
        · obtain rfl : i = k + 1 := by omega
          have c5 : decide ((k : Int) < ((k + 1 - 1 : Nat) : Int)) = false := by simp
          go_wp2_with fail
          refine bodyPost_ret (by simp [results, Try.results114, go_sem]; try rfl) rfl ?_
          obtain rfl := HMA.out
          exact ⟨rfl, zs, HZL.out, one_left HROT.out (by omega) (by omega) HU.out (fun hq => .of_lt (HD2.out hq)) (fun hq => .of_le (Int.not_lt.2 (HD3.out hq)) (HS.out a (k + 1) (by omega) (by omega) (by omega) hq)), HL.out⟩
end Go.Proofs.Ytgelkmpmificpaa
