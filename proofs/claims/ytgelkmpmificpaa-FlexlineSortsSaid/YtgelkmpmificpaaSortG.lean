/- slices.symMergeCmpFunc over places: one item on the right. -/
import Derived.Test.YtgelkmpmificpaaSortF
namespace Go.Proofs.Ytgelkmpmificpaa
open Go.RowKit
set_option linter.unusedSimpArgs false
set_option linter.unusedVariables false
-- below_from_drew
attribute [local go_sem] ov_cell_same ov_cell_other ov_frozen_same ov_frozen_other ov_size ov_setCell_same ov_setCell_other cell_alloc_old frozen_alloc_old setCell_alloc_old old_alloc old_ov old_drew old_drewN old_setCell

/-- The search for the place of the item at m. -/
def SrchB (os : List Int) (ys : List Nat) (a m : Nat) (w : World) (iv jv : Value) (wr : World) : Prop :=
  ∃ (i j : Nat), a ≤ i ∧ i ≤ j ∧ j ≤ m ∧ iv = .int .i64 (i : Int) ∧ jv = .int .i64 (j : Int) ∧ (a < i → os.getD (ys.getD (i - 1) 0) 0 ≤ os.getD (ys.getD m 0) 0) ∧ (j < m → os.getD (ys.getD m 0) 0 < os.getD (ys.getD j 0) 0) ∧ Below w.heap.size w wr
theorem rot_nil2 {ys : List Nat} {m b : Nat} (p : Nat) : ys.getD p 0 = rotG m m b ys p := by
  unfold rotG
  repeat' split
  all_goals first | rfl | omega | (refine congrArg (fun q => ys.getD q 0) ?_; omega)
set_option maxRecDepth 100000 in
set_option maxHeartbeats 4000000 in
theorem symB_any (p b off cap g gcap a m hi : Nat) (os : List Int) (ys : List Nat) (T : TypeId) (w : World) (hma : hi = m + 1) (hab : a + 1 < m) (hhi : hi ≤ ys.length) (hmx : ys.length ≤ 1000000) (hin : InR os.length ys) (ho : OrdIn p b off cap g os w) (hg : Has w g (placeCells ys) T)
    (u1 : UpT os ys a m) (hsep : SepT ys a m hi) :
    Calls Try.prog 114 #[.slice (some ⟨g, 0, none⟩) ys.length gcap, .int .i64 (a : Int), .int .i64 (m : Int), .int .i64 (hi : Int), .func (Fn.func 55) #[] #[.pointer (some ⟨p, 0, none⟩)]] w fun e w' => e = .returned (.tuple #[]) ∧ ∃ zs, zs.length = ys.length ∧ (SameT ys zs a hi ∧ UpT os zs a hi) ∧ SortL w g T zs w' := by
  have HG := Lib.hid hg; have HIN := Lib.hid hin; have HO := Lib.hid ho; have HU := Lib.hid u1; have HS := Lib.hid hsep; have HGL := hg.lt
  clear hg hin ho u1 hsep
  generalize hlen : ys.length = l at *
  have HN := Lib.hid hlen; clear hlen
  have d1 : ((m : Int) - a == 1) = false := by simp; omega
  have d2 : (hi : Int) - m = 1 := by omega
  have hm1 : hi ≤ m + 1 := by omega
  have hm2 : m < hi := by omega
  have HMA := Lib.hid hma; clear hma
  go_enter Try.func114, Try.ntmps114
  go_wp2_with fail
  go_loopw [14, 15] (fun iv jv wr => SrchB os ys a m w iv jv wr) (fun iv jv _ => (intOf jv).toNat - (intOf iv).toNat)
  case atStart => unfold SrchB; exact ⟨a, m, by omega, by omega, by omega, rfl, rfl, fun h => by omega, fun h => by omega, Below.refl _ _⟩
  case round =>
    unfold SrchB at hrel
    obtain ⟨i, j, hi1, hij, hjh, rfl, rfl, hd2, hd3, hbw⟩ := hrel
    have HD2 := Lib.hid hd2; have HD3 := Lib.hid hd3; have HBW := Lib.hid hbw
    have hsz := hbw.size
    clear hd2 hd3
    rcases Nat.lt_or_ge i j with c1 | c1
    · have c2 : (i : Int) < j := by omega
      obtain ⟨h, hh, h1, h2⟩ : ∃ h : Nat, ((i : Int) + j) / 2 = (h : Int) ∧ i ≤ h ∧ h < j := ⟨(i + j) / 2, by omega, by omega, by omega⟩
      have hL : SortL w g T ys wr := (SortL.of HG.out (But.refl _ _ _)).below hbw
      have k1 := has_cell hL.1 (placeCells_get (ys := ys) (j := h) (by rw [HN.out]; omega))
      have k0 := has_cell hL.1 (placeCells_get (ys := ys) (j := m) (by rw [HN.out]; omega))
      have m1 := HIN.out h (by rw [HN.out]; omega)
      have m0 := HIN.out m (by rw [HN.out]; omega)
      have HO2 := Lib.hid (HO.out.below hbw)
      have hless := fun W (hB : Below wr.heap.size wr W) => (HO2.out.below hB).less m0 m1
      have HLESS := Lib.hid hless
      have l1 := hL.1.lt
      have c5 : (h : Int) < l := by omega
      have c6 : (m : Int) < l := by omega
      clear hless hL hbw m1 m0
      generalize hX : ys.getD h 0 = X at *
      generalize hY : ys.getD m 0 = Y at *
      have HX := Lib.hid hX; have HY := Lib.hid hY
      clear hX hY
      have hcmp := cmpZ_neg (os.getD Y 0) (os.getD X 0)
      have HCMP := Lib.hid hcmp; clear hcmp
      generalize cmpZ (os.getD Y 0) (os.getD X 0) = z at *
      rcases Int.lt_or_le z 0 with c7 | c7
      · go_wp2_with fail
        refine region_ord [(0, 0), (1, 0), (2, 0), (3, 0), (4, 0), (5, 0), (6, 0), (7, 0), (8, 0), (9, 1), (10, 0), (11, 0)] (by kernel_rfl) (by kernel_rfl) (fun _ _ d _ _ h => by cases d <;> exact h) (fun hS => ?_)
        (refine wpG_read (v := ?_) rfl (.inl ⟨by rfl, fun wx hbx => ?_⟩) ?_; rotate_left; (focus (obtain ⟨cx0, fx0, zx0⟩ := bk hbx (g) (by first | omega | (simp; done) | (simp; omega)); go_simp; (try go_bits); (try with_reducible rfl))); try simp only [Act.put, List.setIfInBounds_toArray, List.set_cons_zero, List.set_cons_succ])
        (refine wpG_read (v := ?_) rfl (.inl ⟨by rfl, fun wx hbx => ?_⟩) ?_; rotate_left; (focus (obtain ⟨cx0, fx0, zx0⟩ := bk hbx (g) (by first | omega | (simp; done) | (simp; omega)); go_simp; (try go_bits); (try with_reducible rfl))); try simp only [Act.put, List.setIfInBounds_toArray, List.set_cons_zero, List.set_cons_succ])
        (refine wpG_read (v := ?_) rfl (.inl ⟨by rfl, fun wx hbx => ?_⟩) ?_; rotate_left; (focus (obtain ⟨cx0, fx0, zx0⟩ := bk hbx (g) (by first | omega | (simp; done) | (simp; omega)); go_simp; (try go_bits); (try with_reducible rfl))); try simp only [Act.put, List.setIfInBounds_toArray, List.set_cons_zero, List.set_cons_succ])
        (refine wpG_read (v := ?_) rfl (.inl ⟨by rfl, fun wx hbx => ?_⟩) ?_; rotate_left; (focus (obtain ⟨cx0, fx0, zx0⟩ := bk hbx (g) (by first | omega | (simp; done) | (simp; omega)); go_simp; (try go_bits); (try with_reducible rfl))); try simp only [Act.put, List.setIfInBounds_toArray, List.set_cons_zero, List.set_cons_succ])
        (refine wpG_read (v := ?_) rfl (.inl ⟨by rfl, fun wx hbx => ?_⟩) ?_; rotate_left; (focus (obtain ⟨cx0, fx0, zx0⟩ := bk hbx (g) (by first | omega | (simp; done) | (simp; omega)); go_simp; (try go_bits); (try with_reducible rfl))); try simp only [Act.put, List.setIfInBounds_toArray, List.set_cons_zero, List.set_cons_succ])
        (refine wpG_read (v := ?_) rfl (.inl ⟨by rfl, fun wx hbx => ?_⟩) ?_; rotate_left; (focus (obtain ⟨cx0, fx0, zx0⟩ := bk hbx (g) (by first | omega | (simp; done) | (simp; omega)); go_simp; (try go_bits); (try with_reducible rfl))); try simp only [Act.put, List.setIfInBounds_toArray, List.set_cons_zero, List.set_cons_succ])
        (refine wpG_read (v := ?_) rfl (.inl ⟨by rfl, fun wx hbx => ?_⟩) ?_; rotate_left; (focus (obtain ⟨cx0, fx0, zx0⟩ := bk hbx (g) (by first | omega | (simp; done) | (simp; omega)); go_simp; (try go_bits); (try with_reducible rfl))); try simp only [Act.put, List.setIfInBounds_toArray, List.set_cons_zero, List.set_cons_succ])
        (refine wpG_read (v := ?_) rfl (.inl ⟨by rfl, fun wx hbx => ?_⟩) ?_; rotate_left; (focus (obtain ⟨cx0, fx0, zx0⟩ := bk hbx (g) (by first | omega | (simp; done) | (simp; omega)); go_simp; (try go_bits); (try with_reducible rfl))); try simp only [Act.put, List.setIfInBounds_toArray, List.set_cons_zero, List.set_cons_succ])
        (refine wpG_read (v := ?_) rfl (.inl ⟨by rfl, fun wx hbx => ?_⟩) ?_; rotate_left; (focus (obtain ⟨cx0, fx0, zx0⟩ := bk hbx (g) (by first | omega | (simp; done) | (simp; omega)); go_simp; (try go_bits); (try with_reducible rfl))); try simp only [Act.put, List.setIfInBounds_toArray, List.set_cons_zero, List.set_cons_succ])
        (refine wpG_make rfl (fun K hK => ?_); go_simp; (go_at_call 55; (with_reducible refine (HLESS.out _ (by (repeat' (first | (with_reducible exact Below.refl _ _) | (with_reducible assumption) | (with_reducible refine below_from_drew ?_) | (with_reducible refine Below.alloc ?_ ?_ _) | (with_reducible refine Below.drew ?_) | (with_reducible refine below_drewN ?_ _) | (with_reducible refine Below.setCell ?_ ?_ _) | (with_reducible refine below_via ?_ (by assumption) ?_) | (with_reducible refine below_ov ?_ ?_ _ _) | go_size)))).mono ?_); rintro e u5 ⟨rfl, hb⟩; have hz := hb.size; refine (fun hB => ?_ : Below wr.heap.size wr u5 → _) ?_; rotate_left; (focus ((repeat' (first | (with_reducible exact Below.refl _ _) | (with_reducible assumption) | (with_reducible refine below_from_drew ?_) | (with_reducible refine Below.alloc ?_ ?_ _) | (with_reducible refine Below.drew ?_) | (with_reducible refine below_drewN ?_ _) | (with_reducible refine Below.setCell ?_ ?_ _) | (with_reducible refine below_via ?_ (by assumption) ?_) | (with_reducible refine below_ov ?_ ?_ _ _) | go_size)); done)); (try simp only [World.size_alloc, World.size_setCell, World.size_drew, ov_size] at hz)); (try simp only []); refine hK _ _ ?_ (fun hS2 => ?_); (focus ((repeat' (first | (with_reducible exact Below.refl _ _) | (with_reducible assumption) | (with_reducible refine below_from_drew ?_) | (with_reducible refine Below.alloc ?_ ?_ _) | (with_reducible refine Below.drew ?_) | (with_reducible refine below_drewN ?_ _) | (with_reducible refine Below.setCell ?_ ?_ _) | (with_reducible refine below_via ?_ (by assumption) ?_) | (with_reducible refine below_ov ?_ ?_ _ _) | go_size)); done)); clear hK K hS; have hS := hS2; clear hS2; (try clear hb); try simp only [Act.put, List.setIfInBounds_toArray, List.set_cons_zero, List.set_cons_succ])
        (refine wpG_read (v := ?_) rfl (.inl ⟨by rfl, fun wx hbx => ?_⟩) ?_; rotate_left; (focus (obtain ⟨cx0, fx0, zx0⟩ := bk hbx (g) (by first | omega | (simp; done) | (simp; omega)); go_simp; (try go_bits); (try with_reducible rfl))); try simp only [Act.put, List.setIfInBounds_toArray, List.set_cons_zero, List.set_cons_succ])
        (refine wpG_read (v := ?_) rfl (.inl ⟨by rfl, fun wx hbx => ?_⟩) ?_; rotate_left; (focus (obtain ⟨cx0, fx0, zx0⟩ := bk hbx (g) (by first | omega | (simp; done) | (simp; omega)); go_simp; (try go_bits); (try with_reducible rfl))); try simp only [Act.put, List.setIfInBounds_toArray, List.set_cons_zero, List.set_cons_succ])
        refine wpG_nil ?_
        go_wp2_with fail
        go_roundw
        case rel => unfold SrchB; exact ⟨i, h, by omega, by omega, by omega, rfl, by go_num, fun hq => by rw [HY.out]; exact HD2.out hq, fun _ => by rw [HX.out, HY.out]; exact HCMP.out.1 c7, by have q := HBW.out; (repeat' (first | (with_reducible exact Below.refl _ _) | (with_reducible assumption) | (with_reducible refine below_from_drew ?_) | (with_reducible refine Below.alloc ?_ ?_ _) | (with_reducible refine Below.drew ?_) | (with_reducible refine below_drewN ?_ _) | (with_reducible refine Below.setCell ?_ ?_ _) | (with_reducible refine below_via ?_ (by assumption) ?_) | (with_reducible refine below_ov ?_ ?_ _ _) | go_size))⟩
        case measure => simp [intOf]; omega
      · have c11 : decide (z < 0) = false := by simp; omega
        go_wp2_with fail
        refine region_ord [(0, 0), (1, 0), (2, 0), (3, 0), (4, 0), (5, 0), (6, 0), (7, 0), (8, 0), (9, 1), (10, 0), (11, 0)] (by kernel_rfl) (by kernel_rfl) (fun _ _ d _ _ h => by cases d <;> exact h) (fun hS => ?_)
        (refine wpG_read (v := ?_) rfl (.inl ⟨by rfl, fun wx hbx => ?_⟩) ?_; rotate_left; (focus (obtain ⟨cx0, fx0, zx0⟩ := bk hbx (g) (by first | omega | (simp; done) | (simp; omega)); go_simp; (try go_bits); (try with_reducible rfl))); try simp only [Act.put, List.setIfInBounds_toArray, List.set_cons_zero, List.set_cons_succ])
        (refine wpG_read (v := ?_) rfl (.inl ⟨by rfl, fun wx hbx => ?_⟩) ?_; rotate_left; (focus (obtain ⟨cx0, fx0, zx0⟩ := bk hbx (g) (by first | omega | (simp; done) | (simp; omega)); go_simp; (try go_bits); (try with_reducible rfl))); try simp only [Act.put, List.setIfInBounds_toArray, List.set_cons_zero, List.set_cons_succ])
        (refine wpG_read (v := ?_) rfl (.inl ⟨by rfl, fun wx hbx => ?_⟩) ?_; rotate_left; (focus (obtain ⟨cx0, fx0, zx0⟩ := bk hbx (g) (by first | omega | (simp; done) | (simp; omega)); go_simp; (try go_bits); (try with_reducible rfl))); try simp only [Act.put, List.setIfInBounds_toArray, List.set_cons_zero, List.set_cons_succ])
        (refine wpG_read (v := ?_) rfl (.inl ⟨by rfl, fun wx hbx => ?_⟩) ?_; rotate_left; (focus (obtain ⟨cx0, fx0, zx0⟩ := bk hbx (g) (by first | omega | (simp; done) | (simp; omega)); go_simp; (try go_bits); (try with_reducible rfl))); try simp only [Act.put, List.setIfInBounds_toArray, List.set_cons_zero, List.set_cons_succ])
        (refine wpG_read (v := ?_) rfl (.inl ⟨by rfl, fun wx hbx => ?_⟩) ?_; rotate_left; (focus (obtain ⟨cx0, fx0, zx0⟩ := bk hbx (g) (by first | omega | (simp; done) | (simp; omega)); go_simp; (try go_bits); (try with_reducible rfl))); try simp only [Act.put, List.setIfInBounds_toArray, List.set_cons_zero, List.set_cons_succ])
        (refine wpG_read (v := ?_) rfl (.inl ⟨by rfl, fun wx hbx => ?_⟩) ?_; rotate_left; (focus (obtain ⟨cx0, fx0, zx0⟩ := bk hbx (g) (by first | omega | (simp; done) | (simp; omega)); go_simp; (try go_bits); (try with_reducible rfl))); try simp only [Act.put, List.setIfInBounds_toArray, List.set_cons_zero, List.set_cons_succ])
        (refine wpG_read (v := ?_) rfl (.inl ⟨by rfl, fun wx hbx => ?_⟩) ?_; rotate_left; (focus (obtain ⟨cx0, fx0, zx0⟩ := bk hbx (g) (by first | omega | (simp; done) | (simp; omega)); go_simp; (try go_bits); (try with_reducible rfl))); try simp only [Act.put, List.setIfInBounds_toArray, List.set_cons_zero, List.set_cons_succ])
        (refine wpG_read (v := ?_) rfl (.inl ⟨by rfl, fun wx hbx => ?_⟩) ?_; rotate_left; (focus (obtain ⟨cx0, fx0, zx0⟩ := bk hbx (g) (by first | omega | (simp; done) | (simp; omega)); go_simp; (try go_bits); (try with_reducible rfl))); try simp only [Act.put, List.setIfInBounds_toArray, List.set_cons_zero, List.set_cons_succ])
        (refine wpG_read (v := ?_) rfl (.inl ⟨by rfl, fun wx hbx => ?_⟩) ?_; rotate_left; (focus (obtain ⟨cx0, fx0, zx0⟩ := bk hbx (g) (by first | omega | (simp; done) | (simp; omega)); go_simp; (try go_bits); (try with_reducible rfl))); try simp only [Act.put, List.setIfInBounds_toArray, List.set_cons_zero, List.set_cons_succ])
        (refine wpG_make rfl (fun K hK => ?_); go_simp; (go_at_call 55; (with_reducible refine (HLESS.out _ (by (repeat' (first | (with_reducible exact Below.refl _ _) | (with_reducible assumption) | (with_reducible refine below_from_drew ?_) | (with_reducible refine Below.alloc ?_ ?_ _) | (with_reducible refine Below.drew ?_) | (with_reducible refine below_drewN ?_ _) | (with_reducible refine Below.setCell ?_ ?_ _) | (with_reducible refine below_via ?_ (by assumption) ?_) | (with_reducible refine below_ov ?_ ?_ _ _) | go_size)))).mono ?_); rintro e u5 ⟨rfl, hb⟩; have hz := hb.size; refine (fun hB => ?_ : Below wr.heap.size wr u5 → _) ?_; rotate_left; (focus ((repeat' (first | (with_reducible exact Below.refl _ _) | (with_reducible assumption) | (with_reducible refine below_from_drew ?_) | (with_reducible refine Below.alloc ?_ ?_ _) | (with_reducible refine Below.drew ?_) | (with_reducible refine below_drewN ?_ _) | (with_reducible refine Below.setCell ?_ ?_ _) | (with_reducible refine below_via ?_ (by assumption) ?_) | (with_reducible refine below_ov ?_ ?_ _ _) | go_size)); done)); (try simp only [World.size_alloc, World.size_setCell, World.size_drew, ov_size] at hz)); (try simp only []); refine hK _ _ ?_ (fun hS2 => ?_); (focus ((repeat' (first | (with_reducible exact Below.refl _ _) | (with_reducible assumption) | (with_reducible refine below_from_drew ?_) | (with_reducible refine Below.alloc ?_ ?_ _) | (with_reducible refine Below.drew ?_) | (with_reducible refine below_drewN ?_ _) | (with_reducible refine Below.setCell ?_ ?_ _) | (with_reducible refine below_via ?_ (by assumption) ?_) | (with_reducible refine below_ov ?_ ?_ _ _) | go_size)); done)); clear hK K hS; have hS := hS2; clear hS2; (try clear hb); try simp only [Act.put, List.setIfInBounds_toArray, List.set_cons_zero, List.set_cons_succ])
        (refine wpG_read (v := ?_) rfl (.inl ⟨by rfl, fun wx hbx => ?_⟩) ?_; rotate_left; (focus (obtain ⟨cx0, fx0, zx0⟩ := bk hbx (g) (by first | omega | (simp; done) | (simp; omega)); go_simp; (try go_bits); (try with_reducible rfl))); try simp only [Act.put, List.setIfInBounds_toArray, List.set_cons_zero, List.set_cons_succ])
        (refine wpG_read (v := ?_) rfl (.inl ⟨by rfl, fun wx hbx => ?_⟩) ?_; rotate_left; (focus (obtain ⟨cx0, fx0, zx0⟩ := bk hbx (g) (by first | omega | (simp; done) | (simp; omega)); go_simp; (try go_bits); (try with_reducible rfl))); try simp only [Act.put, List.setIfInBounds_toArray, List.set_cons_zero, List.set_cons_succ])
        refine wpG_nil ?_
        go_wp2_with fail
        go_roundw
        case rel => unfold SrchB; exact ⟨h + 1, j, by omega, by omega, by omega, by go_num, rfl, fun _ => by rw [Nat.add_sub_cancel, HX.out, HY.out]; exact Int.not_lt.1 (fun hq => by have := HCMP.out.2 hq; omega), fun hq => by rw [HY.out]; exact HD3.out hq, by have q := HBW.out; (repeat' (first | (with_reducible exact Below.refl _ _) | (with_reducible assumption) | (with_reducible refine below_from_drew ?_) | (with_reducible refine Below.alloc ?_ ?_ _) | (with_reducible refine Below.drew ?_) | (with_reducible refine below_drewN ?_ _) | (with_reducible refine Below.setCell ?_ ?_ _) | (with_reducible refine below_via ?_ (by assumption) ?_) | (with_reducible refine below_ov ?_ ?_ _ _) | go_size))⟩
        case measure => simp [intOf]; omega
    · obtain rfl : i = j := by omega
      have c2 : decide ((i : Int) < i) = false := by simp
      have hL : SortL w g T ys wr := (SortL.of HG.out (But.refl _ _ _)).below hbw
      have HL0 := Lib.hid hL
      clear hbw hL
      go_wp2_with fail
      go_loopw [17] (fun kv wr => ∃ (k : Nat) (zs : List Nat), i ≤ k ∧ k ≤ m ∧ kv = .int .i64 (k : Int) ∧ zs.length = l ∧ (∀ p, zs.getD p 0 = rotG k m (m + 1) ys p) ∧ SortL w g T zs wr) (fun kv _ => (intOf kv).toNat)
      case atStart => exact ⟨m, ys, by omega, by omega, rfl, HN.out, rot_nil2, HL0.out⟩
      case round =>
        obtain ⟨k, zs, hk1, hk2, rfl, hzl, hrot, hl⟩ := hrel
        have HZL := Lib.hid hzl; have HROT := Lib.hid hrot; have HL := Lib.hid hl
        have l1 := hl.1.lt
        clear hzl hrot hl
        rcases Nat.lt_or_ge i k with c4 | c4
        · obtain ⟨r, rfl⟩ : ∃ r, k = r + 1 := ⟨k - 1, by omega⟩
          have c5 : (i : Int) < (r : Int) + 1 := by omega
          have c6 : (r : Int) + 1 < l := by omega
          have c7 : (r : Int) < l := by omega
          have c8 : (0 : Int) ≤ (r : Int) + 1 := by omega
          have c9 : (r : Int) + 1 - 1 = r := by omega
          have g1 := placeCells_get (ys := zs) (j := r) (by rw [HZL.out]; omega)
          have g2 := placeCells_get (ys := zs) (j := r + 1) (by rw [HZL.out]; omega)
          have hst := HL.out.store (zs := swp (r + 1) r zs)
          rw [← placeCells_swp] at hst
          have HST := Lib.hid hst
          have hs5 := ov_self HL.out.1
          have HG2 := Lib.hid (rot_back HROT.out hk2 (by rw [HZL.out]; omega))
          have hsl := Lib.hid (swp_length (r + 1) r zs)
          clear hst
          generalize swp (r + 1) r zs = us at *
          generalize zs.getD r 0 = X at *
          generalize zs.getD (r + 1) 0 = Y at *
          rw [← hs5]; clear hs5
          go_wp2_with fail
          have mixed : Try.prog.follows .mixedOrders = true := by kernel_rfl
          go_big_region_o
          clear mixed
          go_wp2_with fail
          go_roundw
          case rel => exact ⟨r, us, by omega, by omega, by go_num, by rw [hsl.out, HZL.out], HG2.out, HST.out.below (by (repeat' (first | (with_reducible exact Below.refl _ _) | (with_reducible assumption) | (with_reducible refine below_from_drew ?_) | (with_reducible refine Below.alloc ?_ ?_ _) | (with_reducible refine Below.drew ?_) | (with_reducible refine below_drewN ?_ _) | (with_reducible refine Below.setCell ?_ ?_ _) | (with_reducible refine below_via ?_ (by assumption) ?_) | (with_reducible refine below_ov ?_ ?_ _ _) | go_size)))⟩
          case measure => simp [intOf]
        · obtain rfl : i = k := by omega
          have c5 : decide (i < i) = false := by simp
          go_wp2_with fail
          refine bodyPost_ret (by simp [results, Try.results114, go_sem]; try rfl) rfl ?_
          obtain rfl := HMA.out
          exact ⟨rfl, zs, HZL.out, one_right HROT.out hi1 hk2 HU.out (fun hq => .of_le (Int.not_lt.2 (HD2.out hq)) (HS.out (i - 1) m (by omega) (by omega) (by omega) (by omega))) (fun hq => .of_lt (HD3.out hq)), HL.out⟩
end Go.Proofs.Ytgelkmpmificpaa
