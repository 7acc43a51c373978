/- package tree: Move walked. -/
import Derived.Test.YtcpehmlkhmfmhaaTreeJ
namespace Go.Proofs.Ytcpehmlkhmfmhaa
open Go.RowKit
set_option linter.unusedSimpArgs false
set_option linter.unusedVariables false
-- below_from_drew
attribute [local go_sem] ov_cell_same ov_cell_other ov_frozen_same ov_frozen_other ov_size ov_setCell_same ov_setCell_other cell_alloc_old frozen_alloc_old setCell_alloc_old old_alloc old_ov old_drew old_drewN old_setCell
attribute [local go_sem ↓] run_max2 run_min2
attribute [local go_sem] node_f0 node_f1 look_node look_node_ok put_node del_node len_node mapOk_alloc mapOf_alloc mapOk_drew mapOf_drew mapOk_drewN mapOf_drewN mapOk_ov mapOf_ov mapOk_put_same mapOf_put_same cell_putM frozen_putM old_putM

theorem MovePost.mk {p bm base : Nat} {R R' : Rows} {next n par at_ f : Int} {w w' : World} {e : Ending} (hF : moveT R n par at_ = (R', f)) (he : e = .returned (.int .i64 f)) (ht : TreeAt w' p bm base R' next) (hb : ButS (fun b => b = p ∨ b = bm) w.heap.size w w') : MovePost p bm base R next n par at_ w e w' := by
  unfold MovePost; rw [hF]; exact ⟨he, ht, hb⟩
set_option maxRecDepth 100000 in
set_option maxHeartbeats 4000000 in
theorem tmove_any (p bm base : Nat) (R : Rows) (next n par at_ : Int) (w : World) (h : TreeAt w p bm base R next) (hm : R.length ≤ 100000) :
    Calls Try.prog 18 #[.pointer (some ⟨p, 0, none⟩), .int .i64 n, .int .i64 par, .int .i64 at_] w (MovePost p bm base R next n par at_ w) := by
  have HHAS := Lib.hid (thas_any p bm base R next n w h)
  have HT := Lib.hid h
  by_cases hn0 : n = 0
  · have hF : moveT R n par at_ = (R, 1) := by unfold moveT; rw [if_pos hn0]
    have HFF := Lib.hid hF
    subst hn0
    clear h hF
    go_enter Try.func18, Try.ntmps18
    go_wp2_with fail
    go_ret
    exact .mk HFF.out rfl HT.out (ButS.refl _ _ _)
  · have h1 : (n == 0) = false := by simp [hn0]
    cases hf : findR n R with
    | none =>
      have hno := findR_none.1 hf
      have hF : moveT R n par at_ = (R, 9) := by unfold moveT; rw [if_neg hn0, hf]
      have HFF := Lib.hid hF
      have h2 : decide (n ∈ nums R) = false := by simp [hno]
      clear h hf hno hF hn0
      go_enter Try.func18, Try.ntmps18
      go_wp2_with fail
      refine HHAS.out.mono ?_
      rintro e w1 ⟨rfl, hb⟩
      have HB := Lib.hid hb; clear hb
      go_wp2_with fail
      go_ret
      exact .mk HFF.out rfl (HT.out.butsB HB.out).1 (HT.out.butsB HB.out).2
    | some y =>
      obtain ⟨A, d, C⟩ := y
      obtain ⟨hR, _⟩ := findR_some hf
      have h2 : decide (n ∈ nums R) = true := by simp [hR, nums]
      by_cases hpar : par ∈ nums R
      · have h3 : decide (par ∈ nums R) = true := by simp [hpar]
        obtain ⟨A1, m, A2o, Bo, hRS, hIns, hBd, hSt⟩ := cut_sub h.wf hR hn0
        have hSall : ∀ x ∈ subR d C, d < x.2 := subR_all
        have hln : (A ++ ((n, d) :: subR d C) ++ Bo).length ≤ 100000 := by rw [← hRS]; exact hm
        have hSl : (subR d C).length ≤ 100000 := by simp at hln ⊢; omega
        have hhd : HeadLe d Bo := by have q := hIns.head; rw [Int.sub_add_cancel] at q; exact q
        have hdn := depth_le h.wf hR
        have hnd := h.wf.nodup
        have HN0 := Lib.hid hn0; have HFI := Lib.hid hf; have HR := Lib.hid hR; have HRS := Lib.hid hRS; have HIN := Lib.hid hIns; have HBD := Lib.hid hBd; have HST := Lib.hid hSt; have HSA := Lib.hid hSall; have HHD := Lib.hid hhd; have HLN := Lib.hid hln; have HPAR := Lib.hid hpar; have HND := Lib.hid hnd
        clear h hf hR hRS hIns hBd hSt hSall hln hhd hn0 hpar hnd
        go_enter Try.func18, Try.ntmps18
        go_wp2_with fail
        refine HHAS.out.mono ?_
        rintro e w1 ⟨rfl, hb⟩
        have HB := Lib.hid hb
        have HT1 := Lib.hid (HT.out.below hb); clear hb
        go_wp2_with fail
        refine (thas_any p bm base R next par w1 HT1.out).mono ?_
        rintro e w2 ⟨rfl, hb⟩
        have HB2 := Lib.hid (below_via HB.out hb HB.out.size)
        have HT2 := Lib.hid (HT1.out.below hb); clear hb
        go_wp2_with fail
        refine (below_any p bm ((subR d C).length + 1) n d (subR d C) w2 (Nat.lt_succ_self _) hSl ((HT2.out.seg).part HRS.out (e := d) (fun x hx => by
          cases hx with
          | head => exact Int.le_refl _
          | tail _ hx => exact Int.le_of_lt (HSA.out x hx)) HHD.out) HSA.out HST.out).mono ?_
        rintro e w3 ⟨a, c, rfl, hown, hb⟩
        have hks : (n :: nums (subR d C)).length = 1 + (subR d C).length := by simp [nums_length]; omega
        have HB3 := Lib.hid (below_via HB2.out hb HB2.out.size)
        have HT3 := Lib.hid (HT2.out.below hb)
        have HI := Lib.hid (intsAt_owned hown hks)
        clear hown hb
        go_wp2_with fail
        refine (contains_any a (1 + (subR d C).length) c par (n :: nums (subR d C)) w3 hks (by omega) HI.out).mono ?_
        rintro e w4 ⟨rfl, rfl⟩
        by_cases hin : par ∈ n :: nums (subR d C)
        · have h4 : decide (par ∈ n :: nums (subR d C)) = true := by rw [decide_eq_true_eq]; exact hin
          have hF : moveT R n par at_ = (R, 6) := by unfold moveT; rw [if_neg HN0.out, HFI.out]; show (if _ then _ else _) = _; rw [if_neg (by simp [HPAR.out]), if_pos (show par ∈ nums ((n, d) :: subR d C) from hin)]
          have HFF := Lib.hid hF
          rw [h4]
          clear hF hin
          go_wp2_with fail
          go_ret
          exact .mk HFF.out rfl (HT.out.butsB HB3.out).1 (HT.out.butsB HB3.out).2
        · have h4 : decide (par ∈ n :: nums (subR d C)) = false := by rw [decide_eq_false_iff_not]; exact hin
          rw [h4]
          obtain ⟨A', d', C', hf2⟩ : ∃ A' d' C', findR par (A ++ Bo) = some (A', d', C') := by
            cases hq : findR par (A ++ Bo) with
            | some y => exact ⟨y.1, y.2.1, y.2.2, rfl⟩
            | none =>
              have q := findR_none.1 hq
              have q2 := HPAR.out
              rw [HRS.out, nums_append, nums_append, List.mem_append, List.mem_append] at q2
              rw [nums_append, List.mem_append, not_or] at q
              rcases q2 with (q2 | q2) | q2
              · exact absurd q2 q.1
              · exact absurd q2 hin
              · exact absurd q2 q.2
          have hspl := (findR_some hf2).1
          have hnd2 := HND.out
          rw [HRS.out] at hnd2
          obtain ⟨X2, Y2, hX2, hout⟩ := HIN.out.same hnd2 hspl
          rw [← HRS.out] at hX2
          have hkl : (kidsR d' Y2).length ≤ 1000000 := by
            have q1 := kids_len_le d' Y2
            have q2 : R.length = X2.length + (Y2.length + 1) := by rw [hX2]; simp
            omega
          have hmv : moveT R n par at_ = if at_ < 0 ∨ ((kidsR d' C').length : Int) < at_ then (R, 2) else if 64 < d' + 1 + maxDeep d ((n, d) :: subR d C) then (R, 7)
              else (A' ++ (par, d') :: C'.take (cutR d' at_.toNat C') ++ shiftR (d' + 1 - d) ((n, d) :: subR d C) ++ C'.drop (cutR d' at_.toNat C'), 0) := by
            unfold moveT; rw [if_neg HN0.out, HFI.out]; show (if _ then _ else _) = _
            rw [if_neg (by simp [HPAR.out]), if_neg (show ¬ par ∈ nums ((n, d) :: subR d C) from hin), ← HBD.out, hf2]
          have hd' := depth_le HT.out.wf hX2
          have hmd := maxDeep_ge d ((n, d) :: subR d C)
          have hmd2 : maxDeep d ((n, d) :: subR d C) ≤ 64 - d := maxDeep_le (fun y hy => by have := HT.out.wf.deep y (by rw [HRS.out]; exact List.mem_append_left _ (List.mem_append_right _ hy)); omega) (by omega)
          have hmd0 := hmd.1
          have HMV := Lib.hid hmv; have HSPL := Lib.hid hspl; have HX2 := Lib.hid hX2; have HOUT := Lib.hid hout; have HIN4 := Lib.hid hin
          clear hmv hspl hX2 hout hnd2 hf2 hin hmd h4
          obtain ⟨a2, c2, hv, _, hI2⟩ := HT3.out.node HX2.out
          have HI2 := Lib.hid hI2; clear hI2
          have g0 := has_cell HT3.out.str (o := 0) rfl
          have hl := HT3.out.str.lt
          have hk := HT3.out.ok
          by_cases hat0 : at_ < 0
          · have HFF := Lib.hid ((HMV.out).trans (if_pos (.inl hat0)))
            clear g0 hl hk hv
            go_wp2_with fail
            go_ret
            exact .mk HFF.out rfl (HT.out.butsB HB3.out).1 (HT.out.butsB HB3.out).2
          · have h5 : decide (at_ < 0) = false := by rw [decide_eq_false_iff_not]; exact hat0
            have h6 : 0 ≤ at_ := by omega
            clear hat0
            go_wp2_with fail
            refine (without_any a2 _ c2 n (kidsR d' Y2) w3 rfl hkl HI2.out).mono ?_
            rw [HOUT.out]
            rintro e w4 ⟨a5, c5, rfl, hc5, _, _, hb⟩
            have HB4 := Lib.hid (below_via HB3.out hb HB3.out.size)
            have HT4 := Lib.hid (HT3.out.below hb)
            clear hb hv g0 hl hk hc5
            rcases Int.lt_or_le ((kidsR d' C').length : Int) at_ with hat1 | hat1
            · have HFF := Lib.hid ((HMV.out).trans (if_pos (.inr hat1)))
              go_wp2_with fail
              go_ret
              exact .mk HFF.out rfl (HT.out.butsB HB4.out).1 (HT.out.butsB HB4.out).2
            · have h7 : decide (((kidsR d' C').length : Int) < at_) = false := by rw [decide_eq_false_iff_not]; omega
              have hmv := (HMV.out).trans (if_neg (by omega))
              go_wp2_with fail
              refine (depth_any p bm base R next (d'.toNat + 1) X2 Y2 par d' w4 (Nat.lt_succ_self _) HT4.out HX2.out).mono ?_
              rintro e w5 ⟨rfl, hb⟩
              have HB5 := Lib.hid (below_via HB4.out hb HB4.out.size)
              have HT5 := Lib.hid (HT4.out.below hb)
              have HM5 := Lib.hid hmv
              clear hb hmv
              go_wp2_with fail
              refine (height_any p bm base R A (subR d C) Bo next n d w5 HT5.out HRS.out HSA.out HHD.out HST.out hm).mono ?_
              rintro e w6 ⟨rfl, hb⟩
              have HB6 := Lib.hid (below_via HB5.out hb HB5.out.size)
              have HT6 := Lib.hid (HT5.out.below hb)
              clear hb
              generalize hMX : maxDeep d ((n, d) :: subR d C) = mx at *
              have HMX := Lib.hid hMX; clear hMX
              rcases Int.lt_or_le 64 (d' + 1 + mx) with hdp | hdp
              · have HFF := Lib.hid ((HM5.out).trans (if_pos hdp))
                go_wp2_with fail
                go_ret
                exact .mk HFF.out rfl (HT.out.butsB HB6.out).1 (HT.out.butsB HB6.out).2
              · have h8 : decide (64 < d' + 1 + mx) = false := by rw [decide_eq_false_iff_not]; omega
                have hmv := (HM5.out).trans (if_neg (by omega))
                obtain ⟨A2, B, hC, e1, e2, hlen, eR0, hInsN, hndN, hwfN⟩ := move_plain (k := at_.toNat) HT.out.wf HR.out HN0.out (by rw [← HBD.out]; exact HSPL.out) (by omega) (by rw [HMX.out]; exact hdp)
                rw [← e1, ← e2] at hmv
                rw [← HBD.out] at eR0
                have HFF := Lib.hid hmv; have HLEN := Lib.hid hlen; have HE := Lib.hid eR0; have HIN2 := Lib.hid hInsN; have HND2 := Lib.hid hndN; have HWF2 := Lib.hid hwfN
                clear hmv hC e1 e2 hlen eR0 hInsN hndN hwfN
                go_wp2_with fail
                refine (take_any p bm base A ((n, d) :: subR d C) Bo A1 A2o (subR d C) m (d - 1) n next w6 (by rw [← HRS.out]; exact HT6.out) HIN.out HLN.out).mono ?_
                rintro e w7 ⟨rfl, hM, hbs7⟩
                have hsh : d + (d' + 1 - d) = d' + 1 := by omega
                obtain ⟨v0, par0, hv0, ⟨a0, c0, rfl, hn2, hn3, hn4⟩, _⟩ := hM.fo.det [] n d (subR d C) rfl
                have hkk : kidsR (d' + 1) (shiftR (d' + 1 - d) (subR d C)) = kidsR d (subR d C) := by have q := kidsR_shift d (d' + 1 - d) (subR d C); rwa [hsh] at q
                rw [← hkk] at hv0 hn2 hn3 hn4
                have hM2 : MidAt w7 p bm base (A' ++ (par, d') :: A2 ++ B) ((n, d) :: subR d C) next := by rw [HE.out]; exact hM
                have hput := put_any p bm base (A' ++ (par, d') :: A2) (shiftR (d' + 1 - d) ((n, d) :: subR d C)) B A' A2 (shiftR (d' + 1 - d) (subR d C)) ((n, d) :: subR d C) par d' n next par0 a0 c0 w7 hM2 HIN2.out HND2.out (fun X m2 e2 Y hX e => by
                  obtain ⟨X0, Y0, k1, k2, k3⟩ := shiftR_split e
                  obtain ⟨v, par2, q1, q2, q3⟩ := hM.fo.det X0 m2 (e2 - (d' + 1 - d)) Y0 k1
                  have hX0 : X0 ≠ [] := fun q => hX (by rw [k2, q]; rfl)
                  have q4 := q3 hX0
                  have ee : e2 - (d' + 1 - d) + (d' + 1 - d) = e2 := by omega
                  refine ⟨v, q1, ?_⟩
                  have r1 : parR e2 X.reverse = par2 := by rw [q4, k2]; have := parR_shift_rev (e2 - (d' + 1 - d)) (d' + 1 - d) X0; rwa [ee] at this
                  have r2 : kidsR e2 Y = kidsR (e2 - (d' + 1 - d)) Y0 := by rw [k3]; have := kidsR_shift (e2 - (d' + 1 - d)) (d' + 1 - d) Y0; rwa [ee] at this
                  rw [r1, r2]; exact q2) (fun k k1 k2 => hM2.fo.miss k k1 (by rw [nums_shift] at k2; exact k2)) (by
                  rw [hM2.fo.len, mhas_some hv0]; simp [shiftR]; omega) (mgetD_some hv0) hn2 hn3 hn4 (by rw [HE.out]; have q := HLN.out; simp at q ⊢; omega)
                rw [HLEN.out, Int.toNat_of_nonneg h6] at hput
                have HPUT := Lib.hid hput
                have HBS7 := Lib.hid hbs7
                clear hput hbs7 hM hM2 hv0 hn2 hn3 hn4 hkk hsh
                go_wp2_with fail
                refine HPUT.out.mono ?_
                rintro e w8 ⟨rfl, hM8, hbs8⟩
                have HM8 := Lib.hid (hM8.tree HWF2.out)
                have HBX := Lib.hid (((ButS.of HB6.out).trans (HBS7.out.less HB6.out.size)).trans (hbs8.less (Nat.le_trans HB6.out.size HBS7.out.size)))
                clear hM8 hbs8
                go_wp2_with fail
                go_ret
                exact .mk HFF.out rfl HM8.out HBX.out
      · have h3 : decide (par ∈ nums R) = false := by simp [hpar]
        have hF : moveT R n par at_ = (R, 9) := by unfold moveT; rw [if_neg hn0, hf]; show (if _ then _ else _) = _; rw [if_pos hpar]
        have HFF := Lib.hid hF
        clear h hf hF hn0 hR hpar
        go_enter Try.func18, Try.ntmps18
        go_wp2_with fail
        refine HHAS.out.mono ?_
        rintro e w1 ⟨rfl, hb⟩
        have HB := Lib.hid hb
        have HT1 := Lib.hid (HT.out.below hb); clear hb
        go_wp2_with fail
        refine (thas_any p bm base R next par w1 HT1.out).mono ?_
        rintro e w2 ⟨rfl, hb⟩
        have HB2 := Lib.hid (below_via HB.out hb HB.out.size); clear hb
        go_wp2_with fail
        go_ret
        exact .mk HFF.out rfl (HT.out.butsB HB2.out).1 (HT.out.butsB HB2.out).2
end Go.Proofs.Ytcpehmlkhmfmhaa
