/- The law FlexlineSorts walked. -/
import Derived.Test.YtgelkmpmificpaaSortK
import Derived.Test.YtgelkmpmificpaaSortR
import Derived.Test.YtgelkmpmificpaaSortC
namespace Go.Proofs.Ytgelkmpmificpaa
open Go.RowKit
set_option linter.unusedSimpArgs false
set_option linter.unusedVariables false
-- below_from_drew
attribute [local go_sem] ov_cell_same ov_cell_other ov_frozen_same ov_frozen_other ov_size ov_setCell_same ov_setCell_other cell_alloc_old frozen_alloc_old setCell_alloc_old old_alloc old_ov old_drew old_drewN old_setCell
attribute [local go_sem ↓] run_max2 run_min2

/-- Both answers are the same row. -/
theorem sorts_same {os : List Int} {n : Nat} {xs ys : List Nat} (hx : xs.length = n) (hy : ys.length = n) (ux : UpT os xs 0 n) (uy : UpT os ys 0 n) (ix : InR n xs) (iy : ∀ z ∈ ys, z < n) (p : Nat) (hp : p < n) : xs.getD p 0 = ys.getD p 0 := by
  refine up_same ux uy (fun p hp => ?_) (fun p hp => ?_) (p + 1) p (by omega) hp
  · obtain ⟨q, q1, e⟩ := up_all uy hy iy (ix p (by rw [hx]; exact hp))
    exact ⟨q, q1, e.symm⟩
  · have hm : ys.getD p 0 < n := iy _ (by
      simp only [List.getD_eq_getElem?_getD, List.getElem?_eq_getElem (show p < ys.length by omega), Option.getD_some]
      exact List.getElem_mem _)
    obtain ⟨q, q1, e⟩ := up_all ux hx ix.mem hm
    exact ⟨q, q1, e.symm⟩
set_option maxRecDepth 100000 in
set_option maxHeartbeats 4000000 in
theorem fsorts_any (a : Option Addr) (cap : Nat) (xs : List Int) (w : World) (hx : xs.length ≤ cap ∧ RowIn .i64 w a xs) :
    Calls Try.prog 3 #[.slice a xs.length cap] w fun e w' => e = .returned (.bool true) ∧ Below w.heap.size w w' := by
  obtain ⟨hcap, hx⟩ := hx
  have hR := (intsAt_row hx).take 60
  have hyl : (xs.take 60).length = min 60 xs.length := by simp
  generalize xs.take 60 = ys at *
  have hmin : min (xs.length : Int) 60 = (ys.length : Int) := by omega
  generalize hm : ys.length = m at *
  generalize hn : xs.length = n at *
  have hmn : m ≤ n := by omega
  have hmc : m ≤ cap := by omega
  have hm60 : m ≤ 60 := by omega
  have HR := Lib.hid hR; have HM := Lib.hid hm
  clear hR hm hyl hx hn
  go_enter Try.func3, Try.ntmps3
  go_wp2_with fail
  refine (speaks18_any _).mono ?_
  rintro e w1 ⟨rfl, hb1⟩
  have HR1 := Lib.hid (HR.out.below hb1)
  have HB1 := Lib.hid hb1
  clear hb1 HR
  go_wp2_with fail
  refine (sorted_any a m cap ys _ HM.out hm60 HR1.out).mono ?_
  rintro e w2 ⟨g, zs, rfl, hzl, hu, hin, hg, hb2⟩
  have HR2 := Lib.hid (HR1.out.below hb2)
  have HB2 := Lib.hid (below_via HB1.out hb2 HB1.out.size)
  have HG := Lib.hid hg; have HZ := Lib.hid hzl; have HU := Lib.hid hu; have HIN := Lib.hid hin
  clear hb2 hg hzl hu hin
  go_wp2_with fail
  refine (rsorted_any a m cap ys _ HM.out hm60 HR2.out).mono ?_
  rintro e w3 ⟨al, ca, vs, rfl, hvl, hu, hin, hI, hb3⟩
  have HB3 := Lib.hid (below_via HB2.out hb3 HB2.out.size)
  have HG3 := Lib.hid (has_below hb3 HG.out)
  have HS := Lib.hid (sorts_same HZ.out hvl HU.out hu HIN.out hin)
  have HI := Lib.hid hI; have HV := Lib.hid hvl
  clear hb3 hvl hu hin hI
  go_wp2_with fail
  go_loopw [5] (fun iv wr => ∃ k : Nat, k ≤ m ∧ iv = .int .i64 (k : Int) ∧ Below w3.heap.size w3 wr) (fun iv _ => m - (intOf iv).toNat)
  case atStart => exact ⟨0, Nat.zero_le _, rfl, Below.refl _ _⟩
  case round =>
    obtain ⟨k, hk, rfl, hbw⟩ := hrel
    rcases Nat.lt_or_ge k m with c1 | c1
    · have c2 : (k : Int) < m := by omega
      have g1 := has_cell (has_below hbw HG3.out) (placeCells_get (ys := zs) (j := k) (by rw [HZ.out]; exact c1))
      obtain ⟨b, off, rfl, hbl, hcs⟩ := HI.out (by simp [HV.out]; omega)
      have g2 := (hbw.cell (p := ⟨b, off + k, none⟩) hbl).trans (hcs k (by simp [HV.out]; omega))
      have e2 : (vs.map fun (z : Nat) => (z : Int)).getD k 0 = ((zs.getD k 0 : Nat) : Int) := by
        rw [HS.out k c1]
        simp [List.getD_eq_getElem?_getD, show k < vs.length by rw [HV.out]; exact c1]
      rw [e2] at g2
      have l1 := (has_below hbw HG3.out).lt
      have l2 : b < wr.heap.size := Nat.lt_of_lt_of_le hbl hbw.size
      generalize zs.getD k 0 = z at *
      have HBW := Lib.hid hbw
      clear hcs e2 hbw
      go_wp2_with fail
      refine region_ord [(0, 0), (1, 0), (2, 0), (3, 0), (4, 0), (5, 0), (6, 0), (7, 0), (8, 0)] (by kernel_rfl) (by kernel_rfl) (fun _ _ d _ _ h => by cases d <;> exact h) (fun hS => ?_)
      (refine wpG_read (v := ?_) rfl (.inl ⟨by rfl, fun wx hbx => ?_⟩) ?_; rotate_left; (focus (obtain ⟨cx0, fx0, zx0⟩ := bk hbx (g) (by first | omega | (simp; done) | (simp; omega)); obtain ⟨cx1, fx1, zx1⟩ := bk hbx (b) (by first | omega | (simp; done) | (simp; omega)); go_simp; (try go_bits); (try with_reducible rfl))); try simp only [Act.put, List.setIfInBounds_toArray, List.set_cons_zero, List.set_cons_succ])
      (refine wpG_read (v := ?_) rfl (.inl ⟨by rfl, fun wx hbx => ?_⟩) ?_; rotate_left; (focus (obtain ⟨cx0, fx0, zx0⟩ := bk hbx (g) (by first | omega | (simp; done) | (simp; omega)); obtain ⟨cx1, fx1, zx1⟩ := bk hbx (b) (by first | omega | (simp; done) | (simp; omega)); go_simp; (try go_bits); (try with_reducible rfl))); try simp only [Act.put, List.setIfInBounds_toArray, List.set_cons_zero, List.set_cons_succ])
      (refine wpG_read (v := ?_) rfl (.inl ⟨by rfl, fun wx hbx => ?_⟩) ?_; rotate_left; (focus (obtain ⟨cx0, fx0, zx0⟩ := bk hbx (g) (by first | omega | (simp; done) | (simp; omega)); obtain ⟨cx1, fx1, zx1⟩ := bk hbx (b) (by first | omega | (simp; done) | (simp; omega)); go_simp; (try go_bits); (try with_reducible rfl))); try simp only [Act.put, List.setIfInBounds_toArray, List.set_cons_zero, List.set_cons_succ])
      (refine wpG_read (v := ?_) rfl (.inl ⟨by rfl, fun wx hbx => ?_⟩) ?_; rotate_left; (focus (obtain ⟨cx0, fx0, zx0⟩ := bk hbx (g) (by first | omega | (simp; done) | (simp; omega)); obtain ⟨cx1, fx1, zx1⟩ := bk hbx (b) (by first | omega | (simp; done) | (simp; omega)); go_simp; (try go_bits); (try with_reducible rfl))); try simp only [Act.put, List.setIfInBounds_toArray, List.set_cons_zero, List.set_cons_succ])
      (refine wpG_read (v := ?_) rfl (.inl ⟨by rfl, fun wx hbx => ?_⟩) ?_; rotate_left; (focus (obtain ⟨cx0, fx0, zx0⟩ := bk hbx (g) (by first | omega | (simp; done) | (simp; omega)); obtain ⟨cx1, fx1, zx1⟩ := bk hbx (b) (by first | omega | (simp; done) | (simp; omega)); go_simp; (try go_bits); (try with_reducible rfl))); try simp only [Act.put, List.setIfInBounds_toArray, List.set_cons_zero, List.set_cons_succ])
      (refine wpG_read (v := ?_) rfl (.inl ⟨by rfl, fun wx hbx => ?_⟩) ?_; rotate_left; (focus (obtain ⟨cx0, fx0, zx0⟩ := bk hbx (g) (by first | omega | (simp; done) | (simp; omega)); obtain ⟨cx1, fx1, zx1⟩ := bk hbx (b) (by first | omega | (simp; done) | (simp; omega)); go_simp; (try go_bits); (try with_reducible rfl))); try simp only [Act.put, List.setIfInBounds_toArray, List.set_cons_zero, List.set_cons_succ])
      (refine wpG_read (v := ?_) rfl (.inl ⟨by rfl, fun wx hbx => ?_⟩) ?_; rotate_left; (focus (obtain ⟨cx0, fx0, zx0⟩ := bk hbx (g) (by first | omega | (simp; done) | (simp; omega)); obtain ⟨cx1, fx1, zx1⟩ := bk hbx (b) (by first | omega | (simp; done) | (simp; omega)); go_simp; (try go_bits); (try with_reducible rfl))); try simp only [Act.put, List.setIfInBounds_toArray, List.set_cons_zero, List.set_cons_succ])
      (refine wpG_read (v := ?_) rfl (.inl ⟨by rfl, fun wx hbx => ?_⟩) ?_; rotate_left; (focus (obtain ⟨cx0, fx0, zx0⟩ := bk hbx (g) (by first | omega | (simp; done) | (simp; omega)); obtain ⟨cx1, fx1, zx1⟩ := bk hbx (b) (by first | omega | (simp; done) | (simp; omega)); go_simp; (try go_bits); (try with_reducible rfl))); try simp only [Act.put, List.setIfInBounds_toArray, List.set_cons_zero, List.set_cons_succ])
      (refine wpG_read (v := ?_) rfl (.inl ⟨by rfl, fun wx hbx => ?_⟩) ?_; rotate_left; (focus (obtain ⟨cx0, fx0, zx0⟩ := bk hbx (g) (by first | omega | (simp; done) | (simp; omega)); obtain ⟨cx1, fx1, zx1⟩ := bk hbx (b) (by first | omega | (simp; done) | (simp; omega)); go_simp; (try go_bits); (try with_reducible rfl))); try simp only [Act.put, List.setIfInBounds_toArray, List.set_cons_zero, List.set_cons_succ])
      refine wpG_nil ?_
      go_wp2_with fail
      go_roundw
      case rel => exact ⟨k + 1, by omega, by go_num, by have q := HBW.out; (repeat' (first | (with_reducible exact Below.refl _ _) | (with_reducible assumption) | (with_reducible refine below_from_drew ?_) | (with_reducible refine Below.alloc ?_ ?_ _) | (with_reducible refine Below.drew ?_) | (with_reducible refine below_drewN ?_ _) | (with_reducible refine Below.setCell ?_ ?_ _) | (with_reducible refine below_via ?_ (by assumption) ?_) | (with_reducible refine below_ov ?_ ?_ _ _) | go_size))⟩
      case measure => simp [intOf]; omega
    · obtain rfl : k = m := by omega
      have c2 : decide ((k : Int) < k) = false := by simp
      have HBW := Lib.hid hbw; clear hbw
      go_wp2_with fail
      go_ret
      exact ⟨rfl, below_via HB3.out HBW.out HB3.out.size⟩
end Go.Proofs.Ytgelkmpmificpaa
