/- package tree: slices.Contains, height, Move. -/
import Derived.Test.YtcpehmlkhmfmhaaTreeH
namespace Go.Proofs.Ytcpehmlkhmfmhaa
open Go.RowKit
set_option linter.unusedSimpArgs false
set_option linter.unusedVariables false
-- below_from_drew
attribute [local go_sem] ov_cell_same ov_cell_other ov_frozen_same ov_frozen_other ov_size ov_setCell_same ov_setCell_other cell_alloc_old frozen_alloc_old setCell_alloc_old old_alloc old_ov old_drew old_drewN old_setCell
attribute [local go_sem ↓] run_max2 run_min2
attribute [local go_sem] node_f0 node_f1 look_node look_node_ok put_node del_node len_node mapOk_alloc mapOf_alloc mapOk_drew mapOf_drew mapOk_drewN mapOf_drewN mapOk_ov mapOf_ov mapOk_put_same mapOf_put_same cell_putM frozen_putM old_putM

set_option maxRecDepth 100000 in
set_option maxHeartbeats 1000000 in
theorem index2_any (a : Option Addr) (k c : Nat) (n : Int) (ys : List Int) (w : World) (hk : ys.length = k) (hm : k ≤ 1000000) (hI : IntsAt w a ys) :
    Calls Try.prog 77 #[.slice a k c, .int .i64 n] w fun e w' => ∃ r, e = .returned (.int .i64 r) ∧ FirstAt n ys r ∧ w = w' := by
  have HI := Lib.hid hI; have HK := Lib.hid hk
  clear hI hk
  go_enter Try.func77, Try.ntmps77
  go_wp2_with fail
  go_loopw [8] (fun iv wr => ∃ i : Nat, iv = .int .i64 (i : Int) ∧ i ≤ k ∧ (∀ j, j < i → ys.getD j 0 ≠ n) ∧ wr = w) (fun iv _ => k - (intOf iv).toNat)
  case atStart => exact ⟨0, rfl, Nat.zero_le _, fun j hj => by omega, rfl⟩
  case round =>
    obtain ⟨i, rfl, hi, hall, hw⟩ := hrel
    obtain rfl : w = wr := hw.symm
    have HA := Lib.hid hall; clear hall
    rcases Nat.lt_or_ge i k with c1 | c1
    · have c2 : (i : Int) < k := by omega
      obtain ⟨b, off, rfl, hb, hc⟩ := HI.out (by rw [HK.out]; omega)
      have g1 := hc i (by rw [HK.out]; exact c1)
      clear hc
      generalize hx : ys.getD i 0 = x at *
      have HX := Lib.hid hx; clear hx
      by_cases hxn : x = n
      · have e1 : (n == x) = true := by simp [hxn]
        go_wp2_with fail
        go_ret
        exact ⟨(i : Int), rfl, .inr ⟨i, rfl, by rw [HK.out]; exact c1, by rw [HX.out]; exact hxn, HA.out⟩, rfl⟩
      · have e1 : (n == x) = false := by simp; exact fun q => hxn q.symm
        have HXN := Lib.hid hxn; clear hxn
        go_wp2_with fail
        go_roundw
        case rel => exact ⟨i + 1, by go_num, by omega, fun j hj => by
          by_cases e : j = i
          · rw [e, HX.out]; exact HXN.out
          · exact HA.out j (by omega), trivial⟩
        case measure => simp [intOf]; omega
    · obtain rfl : i = k := by omega
      have c2 : decide ((i : Int) < i) = false := by simp
      go_wp2_with fail
      go_ret
      refine ⟨-1, rfl, .inl ⟨rfl, fun hmem => ?_⟩, rfl⟩
      obtain ⟨j, hj, e⟩ := List.getElem_of_mem hmem
      exact HA.out j (by rw [← HK.out]; exact hj) (by simp [List.getD_eq_getElem?_getD, hj, e])
set_option maxRecDepth 100000 in
theorem contains_any (a : Option Addr) (k c : Nat) (n : Int) (ys : List Int) (w : World) (hk : ys.length = k) (hm : k ≤ 1000000) (hI : IntsAt w a ys) :
    Calls Try.prog 56 #[.slice a k c, .int .i64 n] w fun e w' => e = .returned (.bool (decide (n ∈ ys))) ∧ w = w' := by
  have HX := Lib.hid (index2_any a k c n ys w hk hm hI)
  clear hk hI
  go_enter Try.func56, Try.ntmps56
  go_wp2_with fail
  refine HX.out.mono ?_
  rintro e w1 ⟨r, rfl, hr, hw⟩
  obtain rfl : w = w1 := hw
  have h1 : decide (0 ≤ r) = decide (n ∈ ys) := by
    rcases hr with ⟨rfl, h⟩ | ⟨i, rfl, hi, hat, _⟩
    · simp [h]
    · have : n ∈ ys := by
        rw [← hat]; simp only [List.getD_eq_getElem?_getD, List.getElem?_eq_getElem hi, Option.getD_some]; exact List.getElem_mem _
      simp [this]
  have H1 := Lib.hid h1; clear h1 hr
  go_wp2_with fail
  go_ret
  exact ⟨by rw [← H1.out]; rfl, rfl⟩
theorem maxDeep_snoc (d : Int) : ∀ (l : Rows) (x : Int × Int), maxDeep d (l ++ [x]) = max (maxDeep d l) (x.2 - d)
  | [], x => by show max (x.2 - d) 0 = max 0 (x.2 - d); omega
  | y :: l, x => by
    show max (y.2 - d) (maxDeep d (l ++ [x])) = max (max (y.2 - d) (maxDeep d l)) (x.2 - d)
    rw [maxDeep_snoc d l x]; omega
theorem maxDeep_ge (d : Int) : ∀ (l : Rows), 0 ≤ maxDeep d l ∧ ∀ x ∈ l, x.2 - d ≤ maxDeep d l
  | [] => ⟨Int.le_refl _, by simp⟩
  | y :: l => by
    obtain ⟨h1, h2⟩ := maxDeep_ge d l
    refine ⟨by show 0 ≤ max _ _; omega, fun x hx => ?_⟩
    show _ ≤ max (y.2 - d) (maxDeep d l)
    cases hx with
    | head => omega
    | tail _ hx => have := h2 x hx; omega
theorem maxDeep_le {d m : Int} : ∀ {l : Rows}, (∀ x ∈ l, x.2 - d ≤ m) → 0 ≤ m → maxDeep d l ≤ m
  | [], _, h => h
  | y :: l, h, h0 => by
    have h1 := h y (.head _)
    have h2 := maxDeep_le (fun x hx => h x (.tail _ hx)) h0
    show max (y.2 - d) (maxDeep d l) ≤ m
    omega
set_option maxRecDepth 100000 in
set_option maxHeartbeats 2000000 in
theorem height_any (p bm base : Nat) (R A S' B : Rows) (next n d : Int) (w : World) (h : TreeAt w p bm base R next) (hR : R = A ++ ((n, d) :: S') ++ B) (hS : ∀ x ∈ S', d < x.2) (hB : HeadLe d B) (hst : Steps ((n, d) :: S')) (hm : R.length ≤ 100000) :
    Calls Try.prog 58 #[.pointer (some ⟨p, 0, none⟩), .int .i64 n] w fun e w' => e = .returned (.int .i64 (maxDeep d ((n, d) :: S'))) ∧ Below w.heap.size w w' := by
  have hSl : S'.length ≤ 100000 := by rw [hR] at hm; simp at hm; omega
  have hseg : SegAt w p bm ((n, d) :: S') := h.seg.part hR (e := d) (fun x hx => by
    cases hx with
    | head => exact Int.le_refl _
    | tail _ hx => exact Int.le_of_lt (hS x hx)) hB
  have hdn := depth_le h.wf (show R = A ++ (n, d) :: (S' ++ B) by rw [hR]; simp)
  have hdeep : ∀ x ∈ ((n, d) :: S' : Rows), x.2 ≤ 64 := fun x hx => h.wf.deep x (by rw [hR]; exact List.mem_append_left _ (List.mem_append_right _ hx))
  have HBL := Lib.hid (below_any p bm (S'.length + 1) n d S' w (Nat.lt_succ_self _) hSl hseg hS hst)
  have HT := Lib.hid h; have HR := Lib.hid hR; have HDP := Lib.hid hdeep
  have HSS := Lib.hid hS
  clear h hR hS hB hst hseg hdeep
  go_enter Try.func58, Try.ntmps58
  go_wp2_with fail
  refine HBL.out.mono ?_
  rintro e w1 ⟨a, c, rfl, hown, hb⟩
  have hks : (n :: nums S').length = 1 + S'.length := by simp [nums_length]; omega
  have HI := Lib.hid (intsAt_owned hown hks)
  have HB := Lib.hid hb
  have HKL := Lib.hid hks
  have hKS : nums ((n, d) :: S') = n :: nums S' := rfl
  have hSlen : ((n, d) :: S' : Rows).length = 1 + S'.length := by simp; omega
  have HSL := Lib.hid hSlen
  generalize hS2 : ((n, d) :: S' : Rows) = S at *
  have HS2 := Lib.hid hS2
  have HKS := Lib.hid hKS
  generalize hks2 : (n :: nums S') = ks at *
  generalize hkl : 1 + S'.length = kl at *
  have hkl2 : kl ≤ 200000 := by omega
  clear hown hb hks hKS hSlen hS2 hks2 hkl
  go_wp2_with fail
  go_loopw [5, 12] (fun ov iv wr => ∃ i : Nat, i ≤ kl ∧ iv = .int .i64 (i : Int) ∧ ov = .int .i64 (maxDeep d (S.take i)) ∧ Below w.heap.size w wr ∧ Below w1.heap.size w1 wr) (fun _ iv _ => kl - (intOf iv).toNat)
  case atStart => exact ⟨0, Nat.zero_le _, rfl, rfl, HB.out, Below.refl _ _⟩
  case round =>
    obtain ⟨i, hi, rfl, rfl, hbw, hb1⟩ := hrel
    have HBW := Lib.hid hbw; have HB1 := Lib.hid hb1
    rcases Nat.lt_or_ge i kl with c1 | c1
    · have c2 : (i : Int) < kl := by omega
      obtain ⟨g, off, rfl, hg, hc⟩ := HI.out (by rw [HKL.out]; omega)
      have g1 := (hb1.cell (p := ⟨g, off + i, none⟩) hg).trans (hc i (by rw [HKL.out]; exact c1))
      have hgw : g < wr.heap.size := Nat.lt_of_lt_of_le hg hb1.size
      have hiS : i < S.length := by rw [HSL.out]; exact c1
      obtain ⟨x, hx⟩ : ∃ x, x = S[i] := ⟨_, rfl⟩
      have hspl : S = S.take i ++ x :: S.drop (i + 1) := by rw [hx]; simp
      have hkx : ks.getD i 0 = x.1 := by
        rw [← HKS.out, hx]; simp [nums, List.getD_eq_getElem?_getD, hiS]
      have hsn : S.take (i + 1) = S.take i ++ [x] := by rw [hx, List.take_succ_eq_append_getElem hiS]
      have hxd := HDP.out x (by rw [hx]; exact List.getElem_mem _)
      have hspl2 : S = S.take i ++ (x.1, x.2) :: S.drop (i + 1) := hspl
      have hxr : R = (A ++ S.take i) ++ (x.1, x.2) :: (S.drop (i + 1) ++ B) := (HR.out.trans (congrArg (fun z => A ++ z ++ B) hspl2)).trans (by simp only [List.append_assoc, List.cons_append])
      have hxd0 := (depth_le HT.out.wf hxr).1
      have hnr : R = A ++ (n, d) :: (S' ++ B) := by rw [HR.out, ← HS2.out]; simp
      have HXR := Lib.hid hxr; have HNR := Lib.hid hnr; have HSN := Lib.hid hsn
      have hmd := maxDeep_snoc d (S.take i) x
      rw [← hsn] at hmd
      have HMD := Lib.hid hmd
      have hmb := maxDeep_ge d (S.take i)
      have hmb2 : maxDeep d (S.take i) ≤ 64 - d := maxDeep_le (fun y hy => by have := HDP.out y (List.mem_of_mem_take hy); omega) (by omega)
      have hmb0 := hmb.1
      rw [hkx] at g1
      obtain ⟨k, e⟩ := x
      simp only at hxd hxd0 g1
      generalize maxDeep d (S.take i) = M at *
      clear hbw hb1 hc hx hspl hspl2 hkx hsn hxr hnr hmd hmb
      go_wp2_with fail
      refine (depth_any p bm base R next (e.toNat + 1) _ _ k e wr (Nat.lt_succ_self _) (HT.out.below HBW.out) HXR.out).mono ?_
      rintro e' w2 ⟨rfl, hb2⟩
      have HB2 := Lib.hid (below_via HBW.out hb2 HBW.out.size)
      have HB12 := Lib.hid (below_via HB1.out hb2 HB1.out.size)
      clear hb2
      go_wp2_with fail
      refine (depth_any p bm base R next (d.toNat + 1) _ _ n d w2 (Nat.lt_succ_self _) (HT.out.below HB2.out) HNR.out).mono ?_
      rintro e' w3 ⟨rfl, hb3⟩
      have HB3 := Lib.hid (below_via HB2.out hb3 HB2.out.size)
      have HB13 := Lib.hid (below_via HB12.out hb3 HB12.out.size)
      clear hb3
      have hw64 : wrap64 (e - d) = e - d := by unfold wrap64; omega
      go_wp2_with fail
      go_roundw
      case rel => exact ⟨i + 1, by omega, by go_num, by rw [HMD.out], HB3.out, HB13.out⟩
      case measure => simp [intOf]; omega
    · obtain rfl : i = kl := by omega
      have c2 : decide ((i : Int) < i) = false := by simp
      have hall : S.take i = S := List.take_of_length_le (by rw [HSL.out]; exact Nat.le_refl _)
      rw [hall]
      clear hbw hb1
      go_wp2_with fail
      go_ret
      exact ⟨by rw [HS2.out]; rfl, HBW.out⟩
end Go.Proofs.Ytcpehmlkhmfmhaa
