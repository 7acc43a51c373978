/- slices.symMergeCmpFunc over places: one item on the right. slices.symMergeCmpFunc over places: all cases. -/
import Derived.Test.YtjcbphhemmdnjaaSrtU
import Derived.Deep.DeepCutAuto
namespace Go.Proofs.Ytjcbphhemmdnjaa
open Go.RowKit
set_option linter.unusedSimpArgs false
set_option linter.unusedVariables false
-- below_from_drew
attribute [local go_sem] ov_cell_same ov_cell_other ov_frozen_same ov_frozen_other ov_size ov_setCell_same ov_setCell_other cell_alloc_old frozen_alloc_old setCell_alloc_old old_alloc old_ov old_drew old_drewN old_setCell
variable {nd : Lbl}
/-- The search for the place of the item at m. -/
def SrchB (os : List Int) (ys : List Nat) (a m : Nat) (w : World) (iv jv : Value) (wr : World) : Prop :=
  ∃ (i j : Nat), a ≤ i ∧ i ≤ j ∧ j ≤ m ∧ iv = .int .i64 (i : Int) ∧ jv = .int .i64 (j : Int) ∧ (a < i → os.getD (ys.getD (i - 1) 0) 0 ≤ os.getD (ys.getD m 0) 0) ∧ (j < m → os.getD (ys.getD m 0) 0 < os.getD (ys.getD j 0) 0) ∧ Below w.heap.size w wr
theorem rot_nil2 {ys : List Nat} {m b : Nat} (p : Nat) : ys.getD p 0 = rotG m m b ys p := by
  unfold rotG
  repeat' split
  all_goals first | rfl | omega | (refine congrArg (fun q => ys.getD q 0) ?_; omega)
set_option maxRecDepth 100000 in
set_option maxHeartbeats 4000000 in
theorem symB_any (p g gcap a m hi : Nat) (os : List Int) (ys : List Nat) (T : TypeId) (w : World) (hma : hi = m + 1) (hab : a + 1 < m) (hhi : hi ≤ ys.length) (hmx : ys.length ≤ 1000000) (hin : InR os.length ys) (ho : OrdIn nd p g os w) (hg : Has w g (placeCells nd ys) T)
    (u1 : UpT os ys a m) (hsep : SepT ys a m hi) :
    Calls Try.prog 93 #[.slice (some ⟨g, 0, none⟩) ys.length gcap, .int .i64 (a : Int), .int .i64 (m : Int), .int .i64 (hi : Int), .func (Fn.func 62) #[] #[.pointer (some ⟨p, 0, none⟩)]] w fun e w' => e = .returned (.tuple #[]) ∧ ∃ zs, zs.length = ys.length ∧ (SameT ys zs a hi ∧ UpT os zs a hi) ∧ SortL nd w g T zs w' := by
  have HG := Lib.hid hg; have HIN := Lib.hid hin; have HO := Lib.hid ho; have HU := Lib.hid u1; have HS := Lib.hid hsep; have HGL := hg.lt
  clear hg hin ho u1 hsep
  generalize hlen : ys.length = l at *
  have HN := Lib.hid hlen; clear hlen
  have d1 : ((m : Int) - a == 1) = false := by simp; omega
  have d2 : (hi : Int) - m = 1 := by omega
  have hm1 : hi ≤ m + 1 := by omega
  have hm2 : m < hi := by omega
  have HMA := Lib.hid hma; clear hma
  go_enter Try.func93, Try.ntmps93
  go_wp2_with fail
  go_loopw [14, 15] (fun iv jv wr => SrchB os ys a m w iv jv wr) (fun iv jv _ => (intOf jv).toNat - (intOf iv).toNat)
  case atStart => unfold SrchB; exact ⟨a, m, by omega, by omega, by omega, rfl, rfl, fun h => by omega, fun h => by omega, Below.refl _ _⟩
  case round =>
    unfold SrchB at hrel
    obtain ⟨i, j, hi1, hij, hjh, rfl, rfl, hd2, hd3, hbw⟩ := hrel
    have HD2 := Lib.hid hd2; have HD3 := Lib.hid hd3; have HBW := Lib.hid hbw
    have hsz := hbw.size
    clear hd2 hd3
    rcases Nat.lt_or_ge i j with c1 | c1
    · have c2 : (i : Int) < j := by omega
      obtain ⟨h, hh, h1, h2⟩ : ∃ h : Nat, ((i : Int) + j) / 2 = (h : Int) ∧ i ≤ h ∧ h < j := ⟨(i + j) / 2, by omega, by omega, by omega⟩
      have hL : SortL nd w g T ys wr := (SortL.of HG.out (But.refl _ _ _)).below hbw
      have k1 := has_cell hL.1 (placeCells_get (nd := nd) (ys := ys) (j := h) (by rw [HN.out]; omega))
      have k0 := has_cell hL.1 (placeCells_get (nd := nd) (ys := ys) (j := m) (by rw [HN.out]; omega))
      have m1 := HIN.out h (by rw [HN.out]; omega)
      have m0 := HIN.out m (by rw [HN.out]; omega)
      have HO2 := Lib.hid (HO.out.below hbw)
      have hless := fun W (hB : Below wr.heap.size wr W) => (HO2.out.below hB).less m0 m1
      have HLESS := Lib.hid hless
      have l1 := hL.1.lt
      have c5 : (h : Int) < l := by omega
      have c6 : (m : Int) < l := by omega
      clear hless hL hbw m1 m0
      generalize hX : ys.getD h 0 = X at *
      generalize hY : ys.getD m 0 = Y at *
      have HX := Lib.hid hX; have HY := Lib.hid hY
      clear hX hY
      have hcmp := cmpZ_neg (os.getD Y 0) (os.getD X 0)
      have HCMP := Lib.hid hcmp; clear hcmp
      generalize cmpZ (os.getD Y 0) (os.getD X 0) = z at *
      rcases Int.lt_or_le z 0 with c7 | c7
      · go_wp2_with fail
        refine region_ord [(0, 0), (1, 0), (2, 0), (3, 0), (4, 0), (5, 0), (6, 0), (7, 0), (8, 0), (9, 1), (10, 0), (11, 0)] (by kernel_rfl) (by kernel_rfl) (fun _ _ d _ _ h => by cases d <;> exact h) (fun hS => ?_)
        (refine wpG_read (v := ?_) rfl (.inl ⟨by rfl, fun wx hbx => ?_⟩) ?_; rotate_left; (focus (obtain ⟨cx0, fx0, zx0⟩ := bk hbx (g) (by first | omega | (simp; done) | (simp; omega)); go_simp; (try go_bits); (try with_reducible rfl))); try simp only [Act.put, List.setIfInBounds_toArray, List.set_cons_zero, List.set_cons_succ])
        (refine wpG_read (v := ?_) rfl (.inl ⟨by rfl, fun wx hbx => ?_⟩) ?_; rotate_left; (focus (obtain ⟨cx0, fx0, zx0⟩ := bk hbx (g) (by first | omega | (simp; done) | (simp; omega)); go_simp; (try go_bits); (try with_reducible rfl))); try simp only [Act.put, List.setIfInBounds_toArray, List.set_cons_zero, List.set_cons_succ])
        (refine wpG_read (v := ?_) rfl (.inl ⟨by rfl, fun wx hbx => ?_⟩) ?_; rotate_left; (focus (obtain ⟨cx0, fx0, zx0⟩ := bk hbx (g) (by first | omega | (simp; done) | (simp; omega)); go_simp; (try go_bits); (try with_reducible rfl))); try simp only [Act.put, List.setIfInBounds_toArray, List.set_cons_zero, List.set_cons_succ])
        (refine wpG_read (v := ?_) rfl (.inl ⟨by rfl, fun wx hbx => ?_⟩) ?_; rotate_left; (focus (obtain ⟨cx0, fx0, zx0⟩ := bk hbx (g) (by first | omega | (simp; done) | (simp; omega)); go_simp; (try go_bits); (try with_reducible rfl))); try simp only [Act.put, List.setIfInBounds_toArray, List.set_cons_zero, List.set_cons_succ])
        (refine wpG_read (v := ?_) rfl (.inl ⟨by rfl, fun wx hbx => ?_⟩) ?_; rotate_left; (focus (obtain ⟨cx0, fx0, zx0⟩ := bk hbx (g) (by first | omega | (simp; done) | (simp; omega)); go_simp; (try go_bits); (try with_reducible rfl))); try simp only [Act.put, List.setIfInBounds_toArray, List.set_cons_zero, List.set_cons_succ])
        (refine wpG_read (v := ?_) rfl (.inl ⟨by rfl, fun wx hbx => ?_⟩) ?_; rotate_left; (focus (obtain ⟨cx0, fx0, zx0⟩ := bk hbx (g) (by first | omega | (simp; done) | (simp; omega)); go_simp; (try go_bits); (try with_reducible rfl))); try simp only [Act.put, List.setIfInBounds_toArray, List.set_cons_zero, List.set_cons_succ])
        (refine wpG_read (v := ?_) rfl (.inl ⟨by rfl, fun wx hbx => ?_⟩) ?_; rotate_left; (focus (obtain ⟨cx0, fx0, zx0⟩ := bk hbx (g) (by first | omega | (simp; done) | (simp; omega)); go_simp; (try go_bits); (try with_reducible rfl))); try simp only [Act.put, List.setIfInBounds_toArray, List.set_cons_zero, List.set_cons_succ])
        (refine wpG_read (v := ?_) rfl (.inl ⟨by rfl, fun wx hbx => ?_⟩) ?_; rotate_left; (focus (obtain ⟨cx0, fx0, zx0⟩ := bk hbx (g) (by first | omega | (simp; done) | (simp; omega)); go_simp; (try go_bits); (try with_reducible rfl))); try simp only [Act.put, List.setIfInBounds_toArray, List.set_cons_zero, List.set_cons_succ])
        (refine wpG_read (v := ?_) rfl (.inl ⟨by rfl, fun wx hbx => ?_⟩) ?_; rotate_left; (focus (obtain ⟨cx0, fx0, zx0⟩ := bk hbx (g) (by first | omega | (simp; done) | (simp; omega)); go_simp; (try go_bits); (try with_reducible rfl))); try simp only [Act.put, List.setIfInBounds_toArray, List.set_cons_zero, List.set_cons_succ])
        (refine wpG_make rfl (fun K hK => ?_); go_simp; (go_at_call 62; (with_reducible refine (HLESS.out _ (by (repeat' (first | (with_reducible exact Below.refl _ _) | (with_reducible assumption) | (with_reducible refine below_from_drew ?_) | (with_reducible refine Below.alloc ?_ ?_ _) | (with_reducible refine Below.drew ?_) | (with_reducible refine below_drewN ?_ _) | (with_reducible refine Below.setCell ?_ ?_ _) | (with_reducible refine below_via ?_ (by assumption) ?_) | (with_reducible refine below_ov ?_ ?_ _ _) | go_size)))).mono ?_); rintro e u5 ⟨rfl, hb⟩; have hz := hb.size; refine (fun hB => ?_ : Below wr.heap.size wr u5 → _) ?_; rotate_left; (focus ((repeat' (first | (with_reducible exact Below.refl _ _) | (with_reducible assumption) | (with_reducible refine below_from_drew ?_) | (with_reducible refine Below.alloc ?_ ?_ _) | (with_reducible refine Below.drew ?_) | (with_reducible refine below_drewN ?_ _) | (with_reducible refine Below.setCell ?_ ?_ _) | (with_reducible refine below_via ?_ (by assumption) ?_) | (with_reducible refine below_ov ?_ ?_ _ _) | go_size)); done)); (try simp only [World.size_alloc, World.size_setCell, World.size_drew, ov_size] at hz)); (try simp only []); refine hK _ _ ?_ (fun hS2 => ?_); (focus ((repeat' (first | (with_reducible exact Below.refl _ _) | (with_reducible assumption) | (with_reducible refine below_from_drew ?_) | (with_reducible refine Below.alloc ?_ ?_ _) | (with_reducible refine Below.drew ?_) | (with_reducible refine below_drewN ?_ _) | (with_reducible refine Below.setCell ?_ ?_ _) | (with_reducible refine below_via ?_ (by assumption) ?_) | (with_reducible refine below_ov ?_ ?_ _ _) | go_size)); done)); clear hK K hS; have hS := hS2; clear hS2; (try clear hb); try simp only [Act.put, List.setIfInBounds_toArray, List.set_cons_zero, List.set_cons_succ])
        (refine wpG_read (v := ?_) rfl (.inl ⟨by rfl, fun wx hbx => ?_⟩) ?_; rotate_left; (focus (obtain ⟨cx0, fx0, zx0⟩ := bk hbx (g) (by first | omega | (simp; done) | (simp; omega)); go_simp; (try go_bits); (try with_reducible rfl))); try simp only [Act.put, List.setIfInBounds_toArray, List.set_cons_zero, List.set_cons_succ])
        (refine wpG_read (v := ?_) rfl (.inl ⟨by rfl, fun wx hbx => ?_⟩) ?_; rotate_left; (focus (obtain ⟨cx0, fx0, zx0⟩ := bk hbx (g) (by first | omega | (simp; done) | (simp; omega)); go_simp; (try go_bits); (try with_reducible rfl))); try simp only [Act.put, List.setIfInBounds_toArray, List.set_cons_zero, List.set_cons_succ])
        refine wpG_nil ?_
        go_wp2_with fail
        go_roundw
        case rel => unfold SrchB; exact ⟨i, h, by omega, by omega, by omega, rfl, by go_num, fun hq => by rw [HY.out]; exact HD2.out hq, fun _ => by rw [HX.out, HY.out]; exact HCMP.out.1 c7, by have q := HBW.out; (repeat' (first | (with_reducible exact Below.refl _ _) | (with_reducible assumption) | (with_reducible refine below_from_drew ?_) | (with_reducible refine Below.alloc ?_ ?_ _) | (with_reducible refine Below.drew ?_) | (with_reducible refine below_drewN ?_ _) | (with_reducible refine Below.setCell ?_ ?_ _) | (with_reducible refine below_via ?_ (by assumption) ?_) | (with_reducible refine below_ov ?_ ?_ _ _) | go_size))⟩
        case measure => simp [intOf]; omega
      · have c11 : decide (z < 0) = false := by simp; omega
        go_wp2_with fail
        refine region_ord [(0, 0), (1, 0), (2, 0), (3, 0), (4, 0), (5, 0), (6, 0), (7, 0), (8, 0), (9, 1), (10, 0), (11, 0)] (by kernel_rfl) (by kernel_rfl) (fun _ _ d _ _ h => by cases d <;> exact h) (fun hS => ?_)
        (refine wpG_read (v := ?_) rfl (.inl ⟨by rfl, fun wx hbx => ?_⟩) ?_; rotate_left; (focus (obtain ⟨cx0, fx0, zx0⟩ := bk hbx (g) (by first | omega | (simp; done) | (simp; omega)); go_simp; (try go_bits); (try with_reducible rfl))); try simp only [Act.put, List.setIfInBounds_toArray, List.set_cons_zero, List.set_cons_succ])
        (refine wpG_read (v := ?_) rfl (.inl ⟨by rfl, fun wx hbx => ?_⟩) ?_; rotate_left; (focus (obtain ⟨cx0, fx0, zx0⟩ := bk hbx (g) (by first | omega | (simp; done) | (simp; omega)); go_simp; (try go_bits); (try with_reducible rfl))); try simp only [Act.put, List.setIfInBounds_toArray, List.set_cons_zero, List.set_cons_succ])
        (refine wpG_read (v := ?_) rfl (.inl ⟨by rfl, fun wx hbx => ?_⟩) ?_; rotate_left; (focus (obtain ⟨cx0, fx0, zx0⟩ := bk hbx (g) (by first | omega | (simp; done) | (simp; omega)); go_simp; (try go_bits); (try with_reducible rfl))); try simp only [Act.put, List.setIfInBounds_toArray, List.set_cons_zero, List.set_cons_succ])
        (refine wpG_read (v := ?_) rfl (.inl ⟨by rfl, fun wx hbx => ?_⟩) ?_; rotate_left; (focus (obtain ⟨cx0, fx0, zx0⟩ := bk hbx (g) (by first | omega | (simp; done) | (simp; omega)); go_simp; (try go_bits); (try with_reducible rfl))); try simp only [Act.put, List.setIfInBounds_toArray, List.set_cons_zero, List.set_cons_succ])
        (refine wpG_read (v := ?_) rfl (.inl ⟨by rfl, fun wx hbx => ?_⟩) ?_; rotate_left; (focus (obtain ⟨cx0, fx0, zx0⟩ := bk hbx (g) (by first | omega | (simp; done) | (simp; omega)); go_simp; (try go_bits); (try with_reducible rfl))); try simp only [Act.put, List.setIfInBounds_toArray, List.set_cons_zero, List.set_cons_succ])
        (refine wpG_read (v := ?_) rfl (.inl ⟨by rfl, fun wx hbx => ?_⟩) ?_; rotate_left; (focus (obtain ⟨cx0, fx0, zx0⟩ := bk hbx (g) (by first | omega | (simp; done) | (simp; omega)); go_simp; (try go_bits); (try with_reducible rfl))); try simp only [Act.put, List.setIfInBounds_toArray, List.set_cons_zero, List.set_cons_succ])
        (refine wpG_read (v := ?_) rfl (.inl ⟨by rfl, fun wx hbx => ?_⟩) ?_; rotate_left; (focus (obtain ⟨cx0, fx0, zx0⟩ := bk hbx (g) (by first | omega | (simp; done) | (simp; omega)); go_simp; (try go_bits); (try with_reducible rfl))); try simp only [Act.put, List.setIfInBounds_toArray, List.set_cons_zero, List.set_cons_succ])
        (refine wpG_read (v := ?_) rfl (.inl ⟨by rfl, fun wx hbx => ?_⟩) ?_; rotate_left; (focus (obtain ⟨cx0, fx0, zx0⟩ := bk hbx (g) (by first | omega | (simp; done) | (simp; omega)); go_simp; (try go_bits); (try with_reducible rfl))); try simp only [Act.put, List.setIfInBounds_toArray, List.set_cons_zero, List.set_cons_succ])
        (refine wpG_read (v := ?_) rfl (.inl ⟨by rfl, fun wx hbx => ?_⟩) ?_; rotate_left; (focus (obtain ⟨cx0, fx0, zx0⟩ := bk hbx (g) (by first | omega | (simp; done) | (simp; omega)); go_simp; (try go_bits); (try with_reducible rfl))); try simp only [Act.put, List.setIfInBounds_toArray, List.set_cons_zero, List.set_cons_succ])
        (refine wpG_make rfl (fun K hK => ?_); go_simp; (go_at_call 62; (with_reducible refine (HLESS.out _ (by (repeat' (first | (with_reducible exact Below.refl _ _) | (with_reducible assumption) | (with_reducible refine below_from_drew ?_) | (with_reducible refine Below.alloc ?_ ?_ _) | (with_reducible refine Below.drew ?_) | (with_reducible refine below_drewN ?_ _) | (with_reducible refine Below.setCell ?_ ?_ _) | (with_reducible refine below_via ?_ (by assumption) ?_) | (with_reducible refine below_ov ?_ ?_ _ _) | go_size)))).mono ?_); rintro e u5 ⟨rfl, hb⟩; have hz := hb.size; refine (fun hB => ?_ : Below wr.heap.size wr u5 → _) ?_; rotate_left; (focus ((repeat' (first | (with_reducible exact Below.refl _ _) | (with_reducible assumption) | (with_reducible refine below_from_drew ?_) | (with_reducible refine Below.alloc ?_ ?_ _) | (with_reducible refine Below.drew ?_) | (with_reducible refine below_drewN ?_ _) | (with_reducible refine Below.setCell ?_ ?_ _) | (with_reducible refine below_via ?_ (by assumption) ?_) | (with_reducible refine below_ov ?_ ?_ _ _) | go_size)); done)); (try simp only [World.size_alloc, World.size_setCell, World.size_drew, ov_size] at hz)); (try simp only []); refine hK _ _ ?_ (fun hS2 => ?_); (focus ((repeat' (first | (with_reducible exact Below.refl _ _) | (with_reducible assumption) | (with_reducible refine below_from_drew ?_) | (with_reducible refine Below.alloc ?_ ?_ _) | (with_reducible refine Below.drew ?_) | (with_reducible refine below_drewN ?_ _) | (with_reducible refine Below.setCell ?_ ?_ _) | (with_reducible refine below_via ?_ (by assumption) ?_) | (with_reducible refine below_ov ?_ ?_ _ _) | go_size)); done)); clear hK K hS; have hS := hS2; clear hS2; (try clear hb); try simp only [Act.put, List.setIfInBounds_toArray, List.set_cons_zero, List.set_cons_succ])
        (refine wpG_read (v := ?_) rfl (.inl ⟨by rfl, fun wx hbx => ?_⟩) ?_; rotate_left; (focus (obtain ⟨cx0, fx0, zx0⟩ := bk hbx (g) (by first | omega | (simp; done) | (simp; omega)); go_simp; (try go_bits); (try with_reducible rfl))); try simp only [Act.put, List.setIfInBounds_toArray, List.set_cons_zero, List.set_cons_succ])
        (refine wpG_read (v := ?_) rfl (.inl ⟨by rfl, fun wx hbx => ?_⟩) ?_; rotate_left; (focus (obtain ⟨cx0, fx0, zx0⟩ := bk hbx (g) (by first | omega | (simp; done) | (simp; omega)); go_simp; (try go_bits); (try with_reducible rfl))); try simp only [Act.put, List.setIfInBounds_toArray, List.set_cons_zero, List.set_cons_succ])
        refine wpG_nil ?_
        go_wp2_with fail
        go_roundw
        case rel => unfold SrchB; exact ⟨h + 1, j, by omega, by omega, by omega, by go_num, rfl, fun _ => by rw [Nat.add_sub_cancel, HX.out, HY.out]; exact Int.not_lt.1 (fun hq => by have := HCMP.out.2 hq; omega), fun hq => by rw [HY.out]; exact HD3.out hq, by have q := HBW.out; (repeat' (first | (with_reducible exact Below.refl _ _) | (with_reducible assumption) | (with_reducible refine below_from_drew ?_) | (with_reducible refine Below.alloc ?_ ?_ _) | (with_reducible refine Below.drew ?_) | (with_reducible refine below_drewN ?_ _) | (with_reducible refine Below.setCell ?_ ?_ _) | (with_reducible refine below_via ?_ (by assumption) ?_) | (with_reducible refine below_ov ?_ ?_ _ _) | go_size))⟩
        case measure => simp [intOf]; omega
    · obtain rfl : i = j := by omega
      have c2 : decide ((i : Int) < i) = false := by simp
      have hL : SortL nd w g T ys wr := (SortL.of HG.out (But.refl _ _ _)).below hbw
      have HL0 := Lib.hid hL
      clear hbw hL
      go_wp2_with fail
      go_loopw [17] (fun kv wr => ∃ (k : Nat) (zs : List Nat), i ≤ k ∧ k ≤ m ∧ kv = .int .i64 (k : Int) ∧ zs.length = l ∧ (∀ p, zs.getD p 0 = rotG k m (m + 1) ys p) ∧ SortL nd w g T zs wr) (fun kv _ => (intOf kv).toNat)
      case atStart => exact ⟨m, ys, by omega, by omega, rfl, HN.out, rot_nil2, HL0.out⟩
      case round =>
        obtain ⟨k, zs, hk1, hk2, rfl, hzl, hrot, hl⟩ := hrel
        have HZL := Lib.hid hzl; have HROT := Lib.hid hrot; have HL := Lib.hid hl
        have l1 := hl.1.lt
        clear hzl hrot hl
        rcases Nat.lt_or_ge i k with c4 | c4
        · obtain ⟨r, rfl⟩ : ∃ r, k = r + 1 := ⟨k - 1, by omega⟩
          have c5 : (i : Int) < (r : Int) + 1 := by omega
          have c6 : (r : Int) + 1 < l := by omega
          have c7 : (r : Int) < l := by omega
          have c8 : (0 : Int) ≤ (r : Int) + 1 := by omega
          have c9 : (r : Int) + 1 - 1 = r := by omega
          have g1 := placeCells_get (nd := nd) (ys := zs) (j := r) (by rw [HZL.out]; omega)
          have g2 := placeCells_get (nd := nd) (ys := zs) (j := r + 1) (by rw [HZL.out]; omega)
          have hst := HL.out.store (zs := swp (r + 1) r zs)
          rw [← placeCells_swp (nd := nd) (by first | (rw [HZL.out]; omega) | (rw [hsl, HN.out]; omega)) (by first | (rw [HZL.out]; omega) | (rw [hsl, HN.out]; omega))] at hst
          have HST := Lib.hid hst
          have hs5 := ov_self HL.out.1
          have HG2 := Lib.hid (rot_back HROT.out hk2 (by rw [HZL.out]; omega))
          have hsl := Lib.hid (swp_length (r + 1) r zs)
          clear hst
          generalize swp (r + 1) r zs = us at *
          generalize zs.getD r 0 = X at *
          generalize zs.getD (r + 1) 0 = Y at *
          rw [← hs5]; clear hs5
          go_wp2_with fail
          have mixed : Try.prog.follows .mixedOrders = true := by kernel_rfl
          go_big_region_o
          clear mixed
          go_wp2_with fail
          go_roundw
          case rel => exact ⟨r, us, by omega, by omega, by go_num, by rw [hsl.out, HZL.out], HG2.out, HST.out.below (by (repeat' (first | (with_reducible exact Below.refl _ _) | (with_reducible assumption) | (with_reducible refine below_from_drew ?_) | (with_reducible refine Below.alloc ?_ ?_ _) | (with_reducible refine Below.drew ?_) | (with_reducible refine below_drewN ?_ _) | (with_reducible refine Below.setCell ?_ ?_ _) | (with_reducible refine below_via ?_ (by assumption) ?_) | (with_reducible refine below_ov ?_ ?_ _ _) | go_size)))⟩
          case measure => simp [intOf]
        · obtain rfl : i = k := by omega
          have c5 : decide (i < i) = false := by simp
          go_wp2_with fail
          refine bodyPost_ret (by simp [results, Try.results93, go_sem]; try rfl) rfl ?_
          obtain rfl := HMA.out
          exact ⟨rfl, zs, HZL.out, one_right HROT.out hi1 hk2 HU.out (fun hq => .of_le (Int.not_lt.2 (HD2.out hq)) (HS.out (i - 1) m (by omega) (by omega) (by omega) (by omega))) (fun hq => .of_lt (HD3.out hq)), HL.out⟩
end Go.Proofs.Ytjcbphhemmdnjaa
namespace Go.Proofs.Ytjcbphhemmdnjaa
open Go.RowKit
set_option linter.unusedSimpArgs false
set_option linter.unusedVariables false
-- below_from_drew
attribute [local go_sem] ov_cell_same ov_cell_other ov_frozen_same ov_frozen_other ov_size ov_setCell_same ov_setCell_other cell_alloc_old frozen_alloc_old setCell_alloc_old old_alloc old_ov old_drew old_drewN old_setCell
variable {nd : Lbl}
theorem InR.same {n a b : Nat} {ys zs : List Nat} (h : InR n ys) (hl : zs.length = ys.length) (k : SameT ys zs a b) (hb : b ≤ ys.length) : InR n zs := fun p hp => by
  by_cases c : a ≤ p ∧ p < b
  · obtain ⟨q, q1, q2, e⟩ := k.2.1 p c.1 c.2
    rw [e]; exact h q (by omega)
  · rw [k.1 p c]; exact h p (by omega)
/-- What the merge of two neighbours does. -/
def SymOk (nd : Lbl) (p g gcap : Nat) (os : List Int) (T : TypeId) (a m hi : Nat) (ys : List Nat) (w : World) : Prop :=
  Calls Try.prog 93 #[.slice (some ⟨g, 0, none⟩) ys.length gcap, .int .i64 (a : Int), .int .i64 (m : Int), .int .i64 (hi : Int), .func (Fn.func 62) #[] #[.pointer (some ⟨p, 0, none⟩)]] w fun e w' => e = .returned (.tuple #[]) ∧ ∃ zs, zs.length = ys.length ∧ (SameT ys zs a hi ∧ UpT os zs a hi) ∧ SortL nd w g T zs w'
def SymPre (nd : Lbl) (p g : Nat) (os : List Int) (T : TypeId) (a m hi : Nat) (ys : List Nat) (w : World) : Prop :=
  a < m ∧ m < hi ∧ hi ≤ ys.length ∧ ys.length ≤ 1000000 ∧ InR os.length ys ∧ OrdIn nd p g os w ∧ Has w g (placeCells nd ys) T ∧ UpT os ys a m ∧ UpT os ys m hi ∧ SepT ys a m hi
theorem rot_triv {ys : List Nat} {s m e : Nat} (h : ¬ (s < m ∧ m < e)) (h1 : s ≤ m) (h2 : m ≤ e) (p : Nat) : ys.getD p 0 = rotG s m e ys p := by
  unfold rotG
  repeat' split
  all_goals first | rfl | omega | (refine congrArg (fun q => ys.getD q 0) ?_; omega)
theorem UpT.off {os : List Int} {ys zs : List Nat} {a b : Nat} (h : UpT os ys a b) (k : ∀ p, a ≤ p → zs.getD p 0 = ys.getD p 0) : UpT os zs a b := fun p q p1 pq q1 => by
  rw [k p p1, k q (by omega)]; exact h p q p1 pq q1
theorem SepT.off {ys zs : List Nat} {a m b : Nat} (h : SepT ys a m b) (k : ∀ p, a ≤ p → zs.getD p 0 = ys.getD p 0) : SepT zs a m b := fun p q p1 p2 q1 q2 => by
  by_cases c : a ≤ q
  · rw [k p p1, k q c]; exact h p q p1 p2 q1 q2
  · omega
def SrchC (os : List Int) (ys : List Nat) (lo up n : Nat) (w : World) (sv rv : Value) (wr : World) : Prop :=
  ∃ (s r : Nat), lo ≤ s ∧ s ≤ r ∧ r ≤ up ∧ sv = .int .i64 (s : Int) ∧ rv = .int .i64 (r : Int) ∧ (lo < s → os.getD (ys.getD (s - 1) 0) 0 ≤ os.getD (ys.getD (n - s) 0) 0) ∧ (r < up → os.getD (ys.getD (n - 1 - r) 0) 0 < os.getD (ys.getD r 0) 0) ∧ Below w.heap.size w wr
set_option maxRecDepth 100000 in
set_option maxHeartbeats 8000000 in
theorem symC_any (p g gcap a m hi : Nat) (os : List Int) (ys : List Nat) (T : TypeId) (w : World) (IH : ∀ a' m' hi' ys' w', hi' - a' < hi - a → SymPre nd p g os T a' m' hi' ys' w' → SymOk nd p g gcap os T a' m' hi' ys' w') (h1 : a + 1 < m) (h2 : m + 1 < hi) (h : SymPre nd p g os T a m hi ys w) :
    SymOk nd p g gcap os T a m hi ys w := by
  unfold SymOk
  obtain ⟨_, _, hhi, hmx, hin, ho, hg, u1, u2, hsep⟩ := h
  have HIH := Lib.hid IH; have HG := Lib.hid hg; have HIN := Lib.hid hin; have HO := Lib.hid ho; have HU1 := Lib.hid u1; have HU2 := Lib.hid u2; have HS := Lib.hid hsep; have HGL := hg.lt
  clear IH hg hin ho u1 u2 hsep
  generalize hlen : ys.length = l at *
  have HN := Lib.hid hlen; clear hlen
  have d1 : ((m : Int) - a == 1) = false := by simp; omega
  have d2 : ((hi : Int) - m == 1) = false := by simp; omega
  obtain ⟨c, hc, hc1, hc2⟩ : ∃ c : Nat, ((a : Int) + hi) / 2 = (c : Int) ∧ 2 * c ≤ a + hi ∧ a + hi ≤ 2 * c + 1 := ⟨(a + hi) / 2, by omega, by omega, by omega⟩
  have d3 : (c : Int) + m = ((c + m : Nat) : Int) := by omega
  obtain ⟨n, hn⟩ : ∃ n, n = c + m := ⟨_, rfl⟩
  have d4 : (c : Int) + m = (n : Int) := by omega
  have hn1 : n ≤ c + m := by omega
  have hn2 : c + m ≤ n := by omega
  clear hn d3
  go_enter Try.func93, Try.ntmps93
  go_upto_if 140 with fail
  go_cut [20, 21] (fun sv rv wx => ∃ lo up : Nat, sv = .int .i64 (lo : Int) ∧ rv = .int .i64 (up : Int) ∧ ((m ≤ c ∧ lo = a ∧ up = m) ∨ (c < m ∧ lo + hi = n ∧ up = c)) ∧ wx = w)
  case first =>
    as_aux_lemma =>
      rcases Nat.lt_or_ge c m with c1 | c1
      · have e1 : (c : Int) < m := by omega
        have e2 : (n : Int) - hi = ((n - hi : Nat) : Int) := by omega
        go_wp2_with fail
        go_meet
        exact ⟨n - hi, c, by go_num, rfl, .inr ⟨c1, by omega, rfl⟩, rfl⟩
      · have e1 : decide ((c : Int) < m) = false := by simp; omega
        have e3 : decide (c < m) = false := by simp; omega
        go_wp2_with fail
        go_meet
        exact ⟨a, m, rfl, rfl, .inl ⟨c1, rfl, rfl⟩, rfl⟩
  case rest =>
    as_aux_lemma =>
      obtain ⟨lo, up, rfl, rfl, hcs, hwc⟩ := hcut
      obtain rfl : w = wc := hwc.symm
      have q0 : a ≤ lo ∧ up ≤ m ∧ lo ≤ up := by omega
      obtain ⟨q1, q2, q3⟩ := q0
      have d5 : (n : Int) - 1 = ((n - 1 : Nat) : Int) := by omega
      have HCS := Lib.hid hcs
      go_wp2_with fail
      go_loopw [20, 21] (fun sv rv wr => SrchC os ys lo up n w sv rv wr) (fun sv rv _ => (intOf rv).toNat - (intOf sv).toNat)
      case atStart => unfold SrchC; exact ⟨lo, up, by omega, by omega, by omega, rfl, rfl, fun h => by omega, fun h => by omega, Below.refl _ _⟩
      case round =>
        unfold SrchC at hrel
        obtain ⟨s, r, hs1, hsr, hr1, rfl, rfl, hd2, hd3, hbw⟩ := hrel
        have HD2 := Lib.hid hd2; have HD3 := Lib.hid hd3; have HBW := Lib.hid hbw
        have hsz := hbw.size
        clear hd2 hd3
        rcases Nat.lt_or_ge s r with c1 | c1
        · have c2 : (s : Int) < r := by omega
          obtain ⟨x, hx, x1, x2⟩ : ∃ x : Nat, ((s : Int) + r) / 2 = (x : Int) ∧ s ≤ x ∧ x < r := ⟨(s + r) / 2, by omega, by omega, by omega⟩
          have c3 : ((n - 1 : Nat) : Int) - x = ((n - 1 - x : Nat) : Int) := by omega
          have c4 : n - 1 - x < l := by omega
          have hL : SortL nd w g T ys wr := (SortL.of HG.out (But.refl _ _ _)).below hbw
          have k1 := has_cell hL.1 (placeCells_get (nd := nd) (ys := ys) (j := x) (by rw [HN.out]; omega))
          have k0 := has_cell hL.1 (placeCells_get (nd := nd) (ys := ys) (j := n - 1 - x) (by rw [HN.out]; omega))
          have m1 := HIN.out x (by rw [HN.out]; omega)
          have m0 := HIN.out (n - 1 - x) (by rw [HN.out]; omega)
          have HO2 := Lib.hid (HO.out.below hbw)
          have hless := fun W (hB : Below wr.heap.size wr W) => (HO2.out.below hB).less m0 m1
          have HLESS := Lib.hid hless
          have l1 := hL.1.lt
          have c5 : (x : Int) < l := by omega
          have c6 : ((n - 1 - x : Nat) : Int) < l := by omega
          clear hless hL hbw m1 m0
          have HZ0 := Lib.hid (rfl : n - 1 - x = n - 1 - x)
          generalize hv : n - 1 - x = v at *
          have HV := Lib.hid hv; clear hv HZ0
          generalize hX : ys.getD x 0 = X at *
          generalize hY : ys.getD v 0 = Y at *
          have HX := Lib.hid hX; have HY := Lib.hid hY
          clear hX hY
          have hcmp := cmpZ_neg (os.getD Y 0) (os.getD X 0)
          have HCMP := Lib.hid hcmp; clear hcmp
          generalize cmpZ (os.getD Y 0) (os.getD X 0) = z at *
          rcases Int.lt_or_le z 0 with c7 | c7
          · go_wp2_with fail
            refine region_ord [(0, 0), (1, 0), (2, 0), (3, 0), (4, 0), (5, 0), (6, 0), (7, 0), (8, 0), (9, 0), (10, 0), (11, 1), (12, 0), (13, 0)] (by kernel_rfl) (by kernel_rfl) (fun _ _ d _ _ h => by cases d <;> exact h) (fun hS => ?_)
            (refine wpG_read (v := ?_) rfl (.inl ⟨by rfl, fun wx hbx => ?_⟩) ?_; rotate_left; (focus (obtain ⟨cx0, fx0, zx0⟩ := bk hbx (g) (by first | omega | (simp; done) | (simp; omega)); go_simp; (try go_bits); (try with_reducible rfl))); try simp only [Act.put, List.setIfInBounds_toArray, List.set_cons_zero, List.set_cons_succ])
            (refine wpG_read (v := ?_) rfl (.inl ⟨by rfl, fun wx hbx => ?_⟩) ?_; rotate_left; (focus (obtain ⟨cx0, fx0, zx0⟩ := bk hbx (g) (by first | omega | (simp; done) | (simp; omega)); go_simp; (try go_bits); (try with_reducible rfl))); try simp only [Act.put, List.setIfInBounds_toArray, List.set_cons_zero, List.set_cons_succ])
            (refine wpG_read (v := ?_) rfl (.inl ⟨by rfl, fun wx hbx => ?_⟩) ?_; rotate_left; (focus (obtain ⟨cx0, fx0, zx0⟩ := bk hbx (g) (by first | omega | (simp; done) | (simp; omega)); go_simp; (try go_bits); (try with_reducible rfl))); try simp only [Act.put, List.setIfInBounds_toArray, List.set_cons_zero, List.set_cons_succ])
            (refine wpG_read (v := ?_) rfl (.inl ⟨by rfl, fun wx hbx => ?_⟩) ?_; rotate_left; (focus (obtain ⟨cx0, fx0, zx0⟩ := bk hbx (g) (by first | omega | (simp; done) | (simp; omega)); go_simp; (try go_bits); (try with_reducible rfl))); try simp only [Act.put, List.setIfInBounds_toArray, List.set_cons_zero, List.set_cons_succ])
            (refine wpG_read (v := ?_) rfl (.inl ⟨by rfl, fun wx hbx => ?_⟩) ?_; rotate_left; (focus (obtain ⟨cx0, fx0, zx0⟩ := bk hbx (g) (by first | omega | (simp; done) | (simp; omega)); go_simp; (try go_bits); (try with_reducible rfl))); try simp only [Act.put, List.setIfInBounds_toArray, List.set_cons_zero, List.set_cons_succ])
            (refine wpG_read (v := ?_) rfl (.inl ⟨by rfl, fun wx hbx => ?_⟩) ?_; rotate_left; (focus (obtain ⟨cx0, fx0, zx0⟩ := bk hbx (g) (by first | omega | (simp; done) | (simp; omega)); go_simp; (try go_bits); (try with_reducible rfl))); try simp only [Act.put, List.setIfInBounds_toArray, List.set_cons_zero, List.set_cons_succ])
            (refine wpG_read (v := ?_) rfl (.inl ⟨by rfl, fun wx hbx => ?_⟩) ?_; rotate_left; (focus (obtain ⟨cx0, fx0, zx0⟩ := bk hbx (g) (by first | omega | (simp; done) | (simp; omega)); go_simp; (try go_bits); (try with_reducible rfl))); try simp only [Act.put, List.setIfInBounds_toArray, List.set_cons_zero, List.set_cons_succ])
            (refine wpG_read (v := ?_) rfl (.inl ⟨by rfl, fun wx hbx => ?_⟩) ?_; rotate_left; (focus (obtain ⟨cx0, fx0, zx0⟩ := bk hbx (g) (by first | omega | (simp; done) | (simp; omega)); go_simp; (try go_bits); (try with_reducible rfl))); try simp only [Act.put, List.setIfInBounds_toArray, List.set_cons_zero, List.set_cons_succ])
            (refine wpG_read (v := ?_) rfl (.inl ⟨by rfl, fun wx hbx => ?_⟩) ?_; rotate_left; (focus (obtain ⟨cx0, fx0, zx0⟩ := bk hbx (g) (by first | omega | (simp; done) | (simp; omega)); go_simp; (try go_bits); (try with_reducible rfl))); try simp only [Act.put, List.setIfInBounds_toArray, List.set_cons_zero, List.set_cons_succ])
            (refine wpG_read (v := ?_) rfl (.inl ⟨by rfl, fun wx hbx => ?_⟩) ?_; rotate_left; (focus (obtain ⟨cx0, fx0, zx0⟩ := bk hbx (g) (by first | omega | (simp; done) | (simp; omega)); go_simp; (try go_bits); (try with_reducible rfl))); try simp only [Act.put, List.setIfInBounds_toArray, List.set_cons_zero, List.set_cons_succ])
            (refine wpG_read (v := ?_) rfl (.inl ⟨by rfl, fun wx hbx => ?_⟩) ?_; rotate_left; (focus (obtain ⟨cx0, fx0, zx0⟩ := bk hbx (g) (by first | omega | (simp; done) | (simp; omega)); go_simp; (try go_bits); (try with_reducible rfl))); try simp only [Act.put, List.setIfInBounds_toArray, List.set_cons_zero, List.set_cons_succ])
            (refine wpG_make rfl (fun K hK => ?_); go_simp; (go_at_call 62; (with_reducible refine (HLESS.out _ (by (repeat' (first | (with_reducible exact Below.refl _ _) | (with_reducible assumption) | (with_reducible refine below_from_drew ?_) | (with_reducible refine Below.alloc ?_ ?_ _) | (with_reducible refine Below.drew ?_) | (with_reducible refine below_drewN ?_ _) | (with_reducible refine Below.setCell ?_ ?_ _) | (with_reducible refine below_via ?_ (by assumption) ?_) | (with_reducible refine below_ov ?_ ?_ _ _) | go_size)))).mono ?_); rintro e u5 ⟨rfl, hb⟩; have hz := hb.size; refine (fun hB => ?_ : Below wr.heap.size wr u5 → _) ?_; rotate_left; (focus ((repeat' (first | (with_reducible exact Below.refl _ _) | (with_reducible assumption) | (with_reducible refine below_from_drew ?_) | (with_reducible refine Below.alloc ?_ ?_ _) | (with_reducible refine Below.drew ?_) | (with_reducible refine below_drewN ?_ _) | (with_reducible refine Below.setCell ?_ ?_ _) | (with_reducible refine below_via ?_ (by assumption) ?_) | (with_reducible refine below_ov ?_ ?_ _ _) | go_size)); done)); (try simp only [World.size_alloc, World.size_setCell, World.size_drew, ov_size] at hz)); (try simp only []); refine hK _ _ ?_ (fun hS2 => ?_); (focus ((repeat' (first | (with_reducible exact Below.refl _ _) | (with_reducible assumption) | (with_reducible refine below_from_drew ?_) | (with_reducible refine Below.alloc ?_ ?_ _) | (with_reducible refine Below.drew ?_) | (with_reducible refine below_drewN ?_ _) | (with_reducible refine Below.setCell ?_ ?_ _) | (with_reducible refine below_via ?_ (by assumption) ?_) | (with_reducible refine below_ov ?_ ?_ _ _) | go_size)); done)); clear hK K hS; have hS := hS2; clear hS2; (try clear hb); try simp only [Act.put, List.setIfInBounds_toArray, List.set_cons_zero, List.set_cons_succ])
            (refine wpG_read (v := ?_) rfl (.inl ⟨by rfl, fun wx hbx => ?_⟩) ?_; rotate_left; (focus (obtain ⟨cx0, fx0, zx0⟩ := bk hbx (g) (by first | omega | (simp; done) | (simp; omega)); go_simp; (try go_bits); (try with_reducible rfl))); try simp only [Act.put, List.setIfInBounds_toArray, List.set_cons_zero, List.set_cons_succ])
            (refine wpG_read (v := ?_) rfl (.inl ⟨by rfl, fun wx hbx => ?_⟩) ?_; rotate_left; (focus (obtain ⟨cx0, fx0, zx0⟩ := bk hbx (g) (by first | omega | (simp; done) | (simp; omega)); go_simp; (try go_bits); (try with_reducible rfl))); try simp only [Act.put, List.setIfInBounds_toArray, List.set_cons_zero, List.set_cons_succ])
            refine wpG_nil ?_
            go_wp2_with fail
            go_roundw
            case rel => unfold SrchC; exact ⟨s, x, by omega, by omega, by omega, rfl, by go_num, HD2.out, fun _ => by rw [HV.out, HX.out, HY.out]; exact HCMP.out.1 c7, by have q := HBW.out; (repeat' (first | (with_reducible exact Below.refl _ _) | (with_reducible assumption) | (with_reducible refine below_from_drew ?_) | (with_reducible refine Below.alloc ?_ ?_ _) | (with_reducible refine Below.drew ?_) | (with_reducible refine below_drewN ?_ _) | (with_reducible refine Below.setCell ?_ ?_ _) | (with_reducible refine below_via ?_ (by assumption) ?_) | (with_reducible refine below_ov ?_ ?_ _ _) | go_size))⟩
            case measure => simp [intOf]; omega
          · have c11 : decide (z < 0) = false := by simp; omega
            go_wp2_with fail
            refine region_ord [(0, 0), (1, 0), (2, 0), (3, 0), (4, 0), (5, 0), (6, 0), (7, 0), (8, 0), (9, 0), (10, 0), (11, 1), (12, 0), (13, 0)] (by kernel_rfl) (by kernel_rfl) (fun _ _ d _ _ h => by cases d <;> exact h) (fun hS => ?_)
            (refine wpG_read (v := ?_) rfl (.inl ⟨by rfl, fun wx hbx => ?_⟩) ?_; rotate_left; (focus (obtain ⟨cx0, fx0, zx0⟩ := bk hbx (g) (by first | omega | (simp; done) | (simp; omega)); go_simp; (try go_bits); (try with_reducible rfl))); try simp only [Act.put, List.setIfInBounds_toArray, List.set_cons_zero, List.set_cons_succ])
            (refine wpG_read (v := ?_) rfl (.inl ⟨by rfl, fun wx hbx => ?_⟩) ?_; rotate_left; (focus (obtain ⟨cx0, fx0, zx0⟩ := bk hbx (g) (by first | omega | (simp; done) | (simp; omega)); go_simp; (try go_bits); (try with_reducible rfl))); try simp only [Act.put, List.setIfInBounds_toArray, List.set_cons_zero, List.set_cons_succ])
            (refine wpG_read (v := ?_) rfl (.inl ⟨by rfl, fun wx hbx => ?_⟩) ?_; rotate_left; (focus (obtain ⟨cx0, fx0, zx0⟩ := bk hbx (g) (by first | omega | (simp; done) | (simp; omega)); go_simp; (try go_bits); (try with_reducible rfl))); try simp only [Act.put, List.setIfInBounds_toArray, List.set_cons_zero, List.set_cons_succ])
            (refine wpG_read (v := ?_) rfl (.inl ⟨by rfl, fun wx hbx => ?_⟩) ?_; rotate_left; (focus (obtain ⟨cx0, fx0, zx0⟩ := bk hbx (g) (by first | omega | (simp; done) | (simp; omega)); go_simp; (try go_bits); (try with_reducible rfl))); try simp only [Act.put, List.setIfInBounds_toArray, List.set_cons_zero, List.set_cons_succ])
            (refine wpG_read (v := ?_) rfl (.inl ⟨by rfl, fun wx hbx => ?_⟩) ?_; rotate_left; (focus (obtain ⟨cx0, fx0, zx0⟩ := bk hbx (g) (by first | omega | (simp; done) | (simp; omega)); go_simp; (try go_bits); (try with_reducible rfl))); try simp only [Act.put, List.setIfInBounds_toArray, List.set_cons_zero, List.set_cons_succ])
            (refine wpG_read (v := ?_) rfl (.inl ⟨by rfl, fun wx hbx => ?_⟩) ?_; rotate_left; (focus (obtain ⟨cx0, fx0, zx0⟩ := bk hbx (g) (by first | omega | (simp; done) | (simp; omega)); go_simp; (try go_bits); (try with_reducible rfl))); try simp only [Act.put, List.setIfInBounds_toArray, List.set_cons_zero, List.set_cons_succ])
            (refine wpG_read (v := ?_) rfl (.inl ⟨by rfl, fun wx hbx => ?_⟩) ?_; rotate_left; (focus (obtain ⟨cx0, fx0, zx0⟩ := bk hbx (g) (by first | omega | (simp; done) | (simp; omega)); go_simp; (try go_bits); (try with_reducible rfl))); try simp only [Act.put, List.setIfInBounds_toArray, List.set_cons_zero, List.set_cons_succ])
            (refine wpG_read (v := ?_) rfl (.inl ⟨by rfl, fun wx hbx => ?_⟩) ?_; rotate_left; (focus (obtain ⟨cx0, fx0, zx0⟩ := bk hbx (g) (by first | omega | (simp; done) | (simp; omega)); go_simp; (try go_bits); (try with_reducible rfl))); try simp only [Act.put, List.setIfInBounds_toArray, List.set_cons_zero, List.set_cons_succ])
            (refine wpG_read (v := ?_) rfl (.inl ⟨by rfl, fun wx hbx => ?_⟩) ?_; rotate_left; (focus (obtain ⟨cx0, fx0, zx0⟩ := bk hbx (g) (by first | omega | (simp; done) | (simp; omega)); go_simp; (try go_bits); (try with_reducible rfl))); try simp only [Act.put, List.setIfInBounds_toArray, List.set_cons_zero, List.set_cons_succ])
            (refine wpG_read (v := ?_) rfl (.inl ⟨by rfl, fun wx hbx => ?_⟩) ?_; rotate_left; (focus (obtain ⟨cx0, fx0, zx0⟩ := bk hbx (g) (by first | omega | (simp; done) | (simp; omega)); go_simp; (try go_bits); (try with_reducible rfl))); try simp only [Act.put, List.setIfInBounds_toArray, List.set_cons_zero, List.set_cons_succ])
            (refine wpG_read (v := ?_) rfl (.inl ⟨by rfl, fun wx hbx => ?_⟩) ?_; rotate_left; (focus (obtain ⟨cx0, fx0, zx0⟩ := bk hbx (g) (by first | omega | (simp; done) | (simp; omega)); go_simp; (try go_bits); (try with_reducible rfl))); try simp only [Act.put, List.setIfInBounds_toArray, List.set_cons_zero, List.set_cons_succ])
            (refine wpG_make rfl (fun K hK => ?_); go_simp; (go_at_call 62; (with_reducible refine (HLESS.out _ (by (repeat' (first | (with_reducible exact Below.refl _ _) | (with_reducible assumption) | (with_reducible refine below_from_drew ?_) | (with_reducible refine Below.alloc ?_ ?_ _) | (with_reducible refine Below.drew ?_) | (with_reducible refine below_drewN ?_ _) | (with_reducible refine Below.setCell ?_ ?_ _) | (with_reducible refine below_via ?_ (by assumption) ?_) | (with_reducible refine below_ov ?_ ?_ _ _) | go_size)))).mono ?_); rintro e u5 ⟨rfl, hb⟩; have hz := hb.size; refine (fun hB => ?_ : Below wr.heap.size wr u5 → _) ?_; rotate_left; (focus ((repeat' (first | (with_reducible exact Below.refl _ _) | (with_reducible assumption) | (with_reducible refine below_from_drew ?_) | (with_reducible refine Below.alloc ?_ ?_ _) | (with_reducible refine Below.drew ?_) | (with_reducible refine below_drewN ?_ _) | (with_reducible refine Below.setCell ?_ ?_ _) | (with_reducible refine below_via ?_ (by assumption) ?_) | (with_reducible refine below_ov ?_ ?_ _ _) | go_size)); done)); (try simp only [World.size_alloc, World.size_setCell, World.size_drew, ov_size] at hz)); (try simp only []); refine hK _ _ ?_ (fun hS2 => ?_); (focus ((repeat' (first | (with_reducible exact Below.refl _ _) | (with_reducible assumption) | (with_reducible refine below_from_drew ?_) | (with_reducible refine Below.alloc ?_ ?_ _) | (with_reducible refine Below.drew ?_) | (with_reducible refine below_drewN ?_ _) | (with_reducible refine Below.setCell ?_ ?_ _) | (with_reducible refine below_via ?_ (by assumption) ?_) | (with_reducible refine below_ov ?_ ?_ _ _) | go_size)); done)); clear hK K hS; have hS := hS2; clear hS2; (try clear hb); try simp only [Act.put, List.setIfInBounds_toArray, List.set_cons_zero, List.set_cons_succ])
            (refine wpG_read (v := ?_) rfl (.inl ⟨by rfl, fun wx hbx => ?_⟩) ?_; rotate_left; (focus (obtain ⟨cx0, fx0, zx0⟩ := bk hbx (g) (by first | omega | (simp; done) | (simp; omega)); go_simp; (try go_bits); (try with_reducible rfl))); try simp only [Act.put, List.setIfInBounds_toArray, List.set_cons_zero, List.set_cons_succ])
            (refine wpG_read (v := ?_) rfl (.inl ⟨by rfl, fun wx hbx => ?_⟩) ?_; rotate_left; (focus (obtain ⟨cx0, fx0, zx0⟩ := bk hbx (g) (by first | omega | (simp; done) | (simp; omega)); go_simp; (try go_bits); (try with_reducible rfl))); try simp only [Act.put, List.setIfInBounds_toArray, List.set_cons_zero, List.set_cons_succ])
            refine wpG_nil ?_
            go_wp2_with fail
            go_roundw
            case rel => unfold SrchC; exact ⟨x + 1, r, by omega, by omega, by omega, by go_num, rfl, fun _ => by rw [Nat.add_sub_cancel, show n - (x + 1) = v by rw [← HV.out]; omega, HX.out, HY.out]; exact Int.not_lt.1 (fun hq => by have := HCMP.out.2 hq; omega), HD3.out, by have q := HBW.out; (repeat' (first | (with_reducible exact Below.refl _ _) | (with_reducible assumption) | (with_reducible refine below_from_drew ?_) | (with_reducible refine Below.alloc ?_ ?_ _) | (with_reducible refine Below.drew ?_) | (with_reducible refine below_drewN ?_ _) | (with_reducible refine Below.setCell ?_ ?_ _) | (with_reducible refine below_via ?_ (by assumption) ?_) | (with_reducible refine below_ov ?_ ?_ _ _) | go_size))⟩
            case measure => simp [intOf]; omega
        · obtain rfl : s = r := by omega
          have c2 : decide ((s : Int) < s) = false := by simp
          have hL : SortL nd w g T ys wr := (SortL.of HG.out (But.refl _ _ _)).below hbw
          have HL0 := Lib.hid hL
          obtain ⟨e, he1, he2⟩ : ∃ e, e ≤ n - s ∧ n - s ≤ e := ⟨_, Nat.le_refl _, Nat.le_refl _⟩
          have d6 : (n : Int) - s = (e : Int) := by omega
          have e1 : m ≤ e ∧ e ≤ hi ∧ s ≤ m ∧ a ≤ s ∧ s + e = c + m := by omega
          obtain ⟨e1, e2, e3, e4, e5⟩ := e1
          clear hbw hL
          go_upto_region 39 with fail
          go_cut [185] (fun b wx => b = .bool (decide (s < m ∧ m < e)) ∧ wx = wr)
          case first =>
            as_aux_lemma =>
              rcases Nat.lt_or_ge s m with f1 | f1
              · have f3 : (s : Int) < m := by omega
                rcases Nat.lt_or_ge m e with f2 | f2
                · have f4 : (m : Int) < e := by omega
                  go_wp2_with fail
                  go_meet
                  exact ⟨by simp [f1, f2], rfl⟩
                · have f4 : decide (m < e) = false := by simp; omega
                  have f5 : ¬ m < e := by omega
                  go_wp2_with fail
                  go_meet
                  exact ⟨by simp [f5], rfl⟩
              · have f3 : decide (s < m) = false := by simp; omega
                have f5 : ¬ s < m := by omega
                go_wp2_with fail
                go_meet
                exact ⟨by simp [f5], rfl⟩
          case rest =>
            as_aux_lemma =>
              obtain ⟨rfl, hwr⟩ := hcut
              obtain rfl : wr = wc := hwr.symm
              go_upto_if 185 with fail
              go_cut [24] (fun ev wx => ev = .int .i64 (e : Int) ∧ ∃ zs : List Nat, zs.length = l ∧ (∀ p, zs.getD p 0 = rotG s m e ys p) ∧ SortL nd w g T zs wx)
              case first =>
                as_aux_lemma =>
                  by_cases hP : s < m ∧ m < e
                  · have hPd : decide (s < m ∧ m < e) = true := by simp [hP]
                    have hrt := rot_any g gcap s m e (.func (Fn.func 62) #[] #[.pointer (some ⟨p, 0, none⟩)]) ys T wr hP.1 hP.2 (by rw [HN.out]; omega) (by rw [HN.out]; omega) HL0.out.1
                    rw [HN.out] at hrt
                    have HRT := Lib.hid hrt
                    clear hrt
                    rw [hPd]
                    go_wp2_with fail
                    refine HRT.out.mono ?_
                    rintro e' wx ⟨rfl, zs, hzl, hrot, hl⟩
                    have HZ := Lib.hid hzl; have HR := Lib.hid hrot; have HLX := Lib.hid (HL0.out.trans hl)
                    clear hzl hrot hl
                    go_wp2_with fail
                    go_meet
                    exact ⟨rfl, zs, HZ.out, HR.out, HLX.out⟩
                  · have hPd : decide (s < m ∧ m < e) = false := by simp only [hP, decide_false]
                    rw [hPd]
                    go_wp2_with fail
                    go_meet
                    exact ⟨rfl, ys, HN.out, rot_triv hP e3 e1, HL0.out⟩
              case rest =>
                as_aux_lemma =>
                  obtain ⟨rfl, zs, hzl, hrot, hl⟩ := hcut
                  have hcs2 := HCS.out
                  have hp := rot_parts hrot e4 e3 e1 e2 (show c = s + (e - m) by omega) HU1.out HU2.out HS.out (fun g1 g2 => .of_le (Int.not_lt.2 (by have q := HD2.out (by omega); rw [show n - s = e by omega] at q; exact q)) (HS.out (s - 1) e (by omega) (by omega) (by omega) (by omega))) (fun g1 g2 => .of_lt (by have q := HD3.out (by omega); rw [show n - 1 - s = e - 1 by omega] at q; exact q))
                  obtain ⟨v1, v2, v3, v4, v5, v6, v7⟩ := hp
                  have hsame := (rot_same hrot e3 e1).wide e4 e2
                  have V1 := Lib.hid v1; have V2 := Lib.hid v2; have V3 := Lib.hid v3; have V4 := Lib.hid v4; have V5 := Lib.hid v5; have V6 := Lib.hid v6; have V7 := Lib.hid v7; have SM := Lib.hid hsame; have ZL := Lib.hid hzl; have HLZ := Lib.hid hl
                  have ZIN := Lib.hid (HIN.out.same (by rw [hzl, HN.out]) hsame (by rw [HN.out]; exact hhi))
                  have ca : a < c ∧ c < hi := by omega
                  obtain ⟨ca1, ca2⟩ := ca
                  clear v1 v2 v3 v4 v5 v6 v7 hsame hzl hl hrot hcs2 HL0 HD2 HD3
                  obtain ⟨W1, hW1⟩ : ∃ x, x = wc := ⟨_, rfl⟩
                  subst hW1
                  go_upto_region 41 with fail
                  go_cut [199] (fun b wx => b = .bool (decide (a < s ∧ s < c)) ∧ wx = W1)
                  case first =>
                    as_aux_lemma =>
                      rcases Nat.lt_or_ge a s with f1 | f1
                      · have f3 : (a : Int) < s := by omega
                        rcases Nat.lt_or_ge s c with f2 | f2
                        · have f4 : (s : Int) < c := by omega
                          go_wp2_with fail
                          go_meet
                          exact ⟨by simp [f1, f2], rfl⟩
                        · have f4 : decide (s < c) = false := by simp; omega
                          have f5 : ¬ s < c := by omega
                          go_wp2_with fail
                          go_meet
                          exact ⟨by simp [f5], rfl⟩
                      · have f3 : decide (a < s) = false := by simp; omega
                        have f5 : ¬ a < s := by omega
                        go_wp2_with fail
                        go_meet
                        exact ⟨by simp [f5], rfl⟩
                  case rest =>
                    as_aux_lemma =>
                      obtain ⟨rfl, hwr⟩ := hcut
                      obtain rfl : W1 = wc := hwr.symm
                      go_upto_if 199 with fail
                      go_cut [24] (fun ev wx => ev = .int .i64 (e : Int) ∧ ∃ us : List Nat, us.length = l ∧ SameT zs us a c ∧ UpT os us a c ∧ SortL nd w g T us wx)
                      case first =>
                        as_aux_lemma =>
                          by_cases hP : a < s ∧ s < c
                          · have hPd : decide (a < s ∧ s < c) = true := by simp [hP]
                            have hih : SymOk nd p g gcap os T a s c zs W1 := HIH.out a s c zs W1 (by omega) ⟨hP.1, hP.2, by rw [ZL.out]; omega, by rw [ZL.out]; exact hmx, ZIN.out, HO.out.sort HLZ.out, HLZ.out.1, V1.out, V2.out, V3.out⟩
                            unfold SymOk at hih
                            rw [ZL.out] at hih
                            have HI := Lib.hid hih
                            clear hih
                            rw [hPd]
                            go_wp2_with fail
                            refine HI.out.mono ?_
                            rintro e' wx ⟨rfl, us, hul, ⟨hu1, hu2⟩, hl⟩
                            have HZ := Lib.hid hul; have HR := Lib.hid hu1; have HR2 := Lib.hid hu2; have HLX := Lib.hid (HLZ.out.trans hl)
                            clear hul hu1 hu2 hl
                            go_wp2_with fail
                            go_meet
                            exact ⟨rfl, us, HZ.out, HR.out, HR2.out, HLX.out⟩
                          · have hPd : decide (a < s ∧ s < c) = false := by simp only [hP, decide_false]
                            have hup : UpT os zs a c := by
                              rcases Nat.lt_or_ge a s with k1 | k1
                              · obtain rfl : s = c := by omega
                                exact V1.out
                              · obtain rfl : a = s := by omega
                                exact V2.out
                            have HUP := Lib.hid hup; clear hup
                            rw [hPd]
                            go_wp2_with fail
                            go_meet
                            exact ⟨rfl, zs, ZL.out, SameT.refl _ _ _, HUP.out, HLZ.out⟩
                      case rest =>
                        as_aux_lemma =>
                          obtain ⟨rfl, us, hul, hu1, hu2, hl⟩ := hcut
                          have hoff : ∀ p, c ≤ p → us.getD p 0 = zs.getD p 0 := fun p hp => hu1.1 p (by omega)
                          have w4 := V4.out.off hoff
                          have w5 := V5.out.off (fun p hp => hoff p (by omega))
                          have w6 := V6.out.off hoff
                          have UIN := Lib.hid (ZIN.out.same (by rw [hul, ZL.out]) hu1 (by rw [ZL.out]; omega))
                          have W4 := Lib.hid w4; have W5 := Lib.hid w5; have W6 := Lib.hid w6; have UL := Lib.hid hul; have U1 := Lib.hid hu1; have U2 := Lib.hid hu2; have HLU := Lib.hid hl
                          have HFIN := Lib.hid (fun vs (h1 : SameT us vs c hi) (h2 : UpT os vs c hi) => halves_up (xs := zs) (Nat.le_of_lt ca1) (Nat.le_of_lt ca2) hu1 hu2 h1 h2 V7.out)
                          clear w4 w5 w6 hul hu1 hu2 hl hoff
                          by_cases hP : c < e ∧ e < hi
                          · obtain ⟨f1, f2⟩ := hP
                            have hih : SymOk nd p g gcap os T c e hi us wc := HIH.out c e hi us wc (by omega) ⟨f1, f2, by rw [UL.out]; omega, by rw [UL.out]; exact hmx, UIN.out, HO.out.sort HLU.out, HLU.out.1, W4.out, W5.out, W6.out⟩
                            unfold SymOk at hih
                            rw [UL.out] at hih
                            have HI := Lib.hid hih
                            clear hih
                            have f3 : (c : Int) < e := by omega
                            have f4 : (e : Int) < hi := by omega
                            go_wp2_with fail
                            refine HI.out.mono ?_
                            rintro e' wx ⟨rfl, vs, hvl, ⟨hv1, hv2⟩, hl⟩
                            have HZ := Lib.hid hvl; have HR := Lib.hid (HFIN.out vs hv1 hv2); have HLX := Lib.hid (HLU.out.trans hl)
                            clear hvl hv1 hv2 hl
                            go_wp2_with fail
                            go_end0
                            exact ⟨rfl, vs, HZ.out, ⟨SM.out.trans HR.out.1, HR.out.2⟩, HLX.out⟩
                          · have hup : UpT os us c hi := by
                              rcases Nat.lt_or_ge c e with k1 | k1
                              · obtain rfl : e = hi := by omega
                                exact W4.out
                              · obtain rfl : c = e := by omega
                                exact W5.out
                            have HR := Lib.hid (HFIN.out us (SameT.refl _ _ _) hup)
                            clear hup
                            rcases Nat.lt_or_ge c e with f1 | f1
                            · have f3 : (c : Int) < e := by omega
                              have f4 : decide (e < hi) = false := by simp; omega
                              go_wp2_with fail
                              go_end0
                              exact ⟨rfl, us, UL.out, ⟨SM.out.trans HR.out.1, HR.out.2⟩, HLU.out⟩
                            · have f3 : decide (c < e) = false := by simp; omega
                              go_wp2_with fail
                              go_end0
                              exact ⟨rfl, us, UL.out, ⟨SM.out.trans HR.out.1, HR.out.2⟩, HLU.out⟩
theorem sym_any (p g gcap : Nat) (os : List Int) (T : TypeId) : ∀ (N a m hi : Nat) (ys : List Nat) (w : World), hi - a < N → SymPre nd p g os T a m hi ys w → SymOk nd p g gcap os T a m hi ys w
  | 0, _, _, _, _, _, h, _ => by omega
  | N + 1, a, m, hi, ys, w, h, hp => by
    obtain ⟨q1, q2, q3, q4, q5, q6, q7, q8, q9, q10⟩ := hp
    by_cases c1 : m = a + 1
    · exact symA_any p g gcap a m hi os ys T w c1 q2 q3 q4 q5 q6 q7 q9 q10
    · by_cases c2 : hi = m + 1
      · exact symB_any p g gcap a m hi os ys T w c2 (by omega) q3 q4 q5 q6 q7 q8 q10
      · exact symC_any p g gcap a m hi os ys T w (fun a' m' hi' ys' w' hl hp' => sym_any p g gcap os T N a' m' hi' ys' w' (by omega) hp') (by omega) (by omega) ⟨q1, q2, q3, q4, q5, q6, q7, q8, q9, q10⟩
end Go.Proofs.Ytjcbphhemmdnjaa
