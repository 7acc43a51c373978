/- clapboardlaw10: TreeDeep walked. -/
import Derived.Test.YtcpehmlkhmfmhaaDeepP
import Derived.Test.YtcpehmlkhmfmhaaTPlayC
import Derived.Test.YtcpehmlkhmfmhaaFix
namespace Go.Proofs.Ytcpehmlkhmfmhaa
open Go.RowKit
set_option linter.unusedSimpArgs false
set_option linter.unusedVariables false
-- below_from_drew
attribute [local go_sem] ov_cell_same ov_cell_other ov_frozen_same ov_frozen_other ov_size ov_setCell_same ov_setCell_other cell_alloc_old frozen_alloc_old setCell_alloc_old old_alloc old_ov old_drew old_drewN old_setCell
attribute [local go_sem ↓] run_max2 run_min2

theorem mod66 {a : Int} (h : 0 ≤ a) : ∃ p : Nat, a.tmod 66 = (p : Int) ∧ p ≤ 65 := by
  obtain ⟨n, rfl⟩ : ∃ n : Nat, a = (n : Int) := ⟨a.toNat, by omega⟩
  refine ⟨n % 66, by rw [Int.tmod_eq_emod_of_nonneg (by omega)]; omega, by omega⟩
def deepF (p q : Nat) : Int := if q = 0 then 0 else p + 1
/-- Where the first loop stands. -/
def Deep1I (w : World) (p bm bs P : Nat) (lv iv : Value) (wr : World) : Prop :=
  ∃ i : Nat, iv = .int .i64 (i : Int) ∧ i ≤ P ∧ lv = .int .i64 ((min i 64 : Nat) : Int) ∧ Below w.heap.size w wr ∧ TreeAt wr p bm bs (deep1 (min i 64)) ((min i 64 : Nat) + 1)
/-- Where the second loop stands. -/
def Deep2I (w : World) (p bm bs P Q : Nat) (fv ov_ iv : Value) (wr : World) : Prop :=
  ∃ j : Nat, iv = .int .i64 (j : Int) ∧ j ≤ Q ∧ j ≤ 64 ∧ fv = .int .i64 (deepF P j) ∧ ov_ = .int .i64 (deepO P j) ∧ Below w.heap.size w wr ∧ TreeAt wr p bm bs (deep2 P j) ((P : Int) + j + 1)
set_option maxRecDepth 100000 in
theorem kids_none (n : Int) (w : World) : Calls Try.prog 24 #[.pointer none, .int .i64 n] w fun e w' => e = .returned (.slice none 0 0) ∧ w = w' := by
  go_enter Try.func24, Try.ntmps24
  go_wp2_with fail
  refine (has_none n w).mono ?_
  rintro e1 w1 ⟨rfl, rfl⟩
  go_wp2_with fail
  go_ret
  exact ⟨rfl, rfl⟩
set_option maxRecDepth 100000 in
set_option maxHeartbeats 16000000 in
theorem tdeep_any (a b : Int) (many : Bool) (w : World) (ha : 0 ≤ a ∧ a ≤ 255) (hb : 0 ≤ b ∧ b ≤ 255) :
    Calls Try.prog 4 #[.int .u8 a, .int .u8 b, .bool many] w fun e w' => e = .returned (.bool true) ∧ Below w.heap.size w w' := by
  obtain ⟨ha0, ha1⟩ := ha
  obtain ⟨hb0, hb1⟩ := hb
  obtain ⟨P, hP, hP1⟩ := mod66 ha0
  obtain ⟨Q, hQ, hQ1⟩ := mod66 hb0
  go_enter Try.func4, Try.ntmps4
  go_wp2_with fail
  refine (speaks10_any w).mono ?_
  rintro e1 w1 ⟨rfl, hb1⟩
  have HB1 := Lib.hid hb1
  clear hb1
  go_wp2_with fail
  refine (tnew_any w1).mono ?_
  rintro e2 w2 ⟨p, bm, rfl, hT2, hp1, hm1, hb2⟩
  have HT2 := Lib.hid hT2
  have HB2 := Lib.hid (below_via HB1.out hb2 HB1.out.size)
  have hpw : w.heap.size ≤ p := Nat.le_trans HB1.out.size hp1
  have hbmw : w.heap.size ≤ bm := Nat.le_trans HB1.out.size hm1
  generalize w1.heap.size = bs at *
  clear hT2 hb2 hp1 hm1
  go_wp2_with fail
  go_loopw [10, 11] (fun lv iv wr => Deep1I w p bm bs P lv iv wr) (fun _ iv _ => P - (intOf iv).toNat)
  case atStart => unfold Deep1I; exact ⟨0, rfl, Nat.zero_le _, rfl, HB2.out, HT2.out⟩
  case round =>
    unfold Deep1I at hrel
    obtain ⟨i, rfl, hi, rfl, hbw, hT⟩ := hrel
    have HB := Lib.hid hbw; have HT := Lib.hid hT
    clear hbw hT
    rcases Nat.lt_or_ge i P with c1 | c1
    · have c2 : (i : Int) < P := by omega
      rcases Nat.lt_or_ge i 64 with c3 | c3
      · have e1 : min i 64 = i := by omega
        rw [e1] at HT ⊢
        have c4 : (i : Int) < 64 := by omega
        have hA := tadd_any p bm bs (deep1 i) ((i : Int) + 1) i 0 wr HT.out (by simp [deep1, chain_len]; omega) (by omega) (by omega)
        unfold AddPost at hA
        rw [deep1_add (by omega), if_pos c3] at hA
        have HA := Lib.hid hA
        clear hA e1
        go_wp2_with fail
        refine HA.out.mono ?_
        rintro e3 w3 ⟨rfl, hT3, hs3⟩
        have HB3 := Lib.hid (HB.out.trans (buts_below hs3 HB.out.size hpw hbmw))
        have HT3 := Lib.hid hT3
        clear hT3 hs3
        go_wp2_with fail
        go_roundw
        case rel =>
          unfold Deep1I
          have e2 : min (i + 1) 64 = i + 1 := by omega
          refine ⟨i + 1, by go_num, by omega, ?_, HB3.out, ?_⟩
          · rw [e2]; go_num
          · rw [e2]; exact HT3.out
        case measure => simp [intOf]; omega
      · have e1 : min i 64 = 64 := by omega
        rw [e1] at HT ⊢
        have c4 : decide ((i : Int) < 64) = false := by simp; omega
        have c5 : decide (i < 64) = false := by simp; omega
        have hA := tadd_any p bm bs (deep1 64) (((64 : Nat) : Int) + 1) ((64 : Nat) : Int) 0 wr HT.out (by simp [deep1, chain_len]) (by omega) (by omega)
        unfold AddPost at hA
        rw [deep1_add (by omega), if_neg (by omega)] at hA
        have HA := Lib.hid hA
        clear hA e1
        go_wp2_with fail
        refine HA.out.mono ?_
        rintro e3 w3 ⟨rfl, hT3, hs3⟩
        have HB3 := Lib.hid (HB.out.trans (buts_below hs3 HB.out.size hpw hbmw))
        have HT3 := Lib.hid hT3
        clear hT3 hs3
        go_wp2_with fail
        go_roundw
        case rel =>
          unfold Deep1I
          have e2 : min (i + 1) 64 = 64 := by omega
          refine ⟨i + 1, by go_num, by omega, ?_, HB3.out, ?_⟩
          · rw [e2]; rfl
          · rw [e2]; exact HT3.out
        case measure => simp [intOf]; omega
    · obtain rfl : P = i := by omega
      have c2 : decide ((P : Int) < P) = false := by simp
      obtain ⟨P', hP'⟩ : ∃ P', min P 64 = P' := ⟨_, rfl⟩
      rw [hP'] at HT ⊢
      rw [← deep2_zero] at HT
      have hPm : min (P : Int) 64 = (P' : Int) := by omega
      have hP64 : P' ≤ 64 := by omega
      clear hP'
      go_wp2_with fail
      go_loopw [14, 15, 16] (fun fv ov_ iv wr => Deep2I w p bm bs P' Q fv ov_ iv wr) (fun _ _ iv _ => Q - (intOf iv).toNat)
      case atStart => unfold Deep2I; exact ⟨0, rfl, Nat.zero_le _, by omega, rfl, rfl, HB.out, by simpa using HT.out⟩
      case round =>
        unfold Deep2I at hrel
        obtain ⟨j, rfl, hj, hj64, rfl, rfl, hbw, hT⟩ := hrel
        clear HB HT
        have HB := Lib.hid hbw; have HT := Lib.hid hT
        clear hbw hT
        rcases Nat.lt_or_ge j Q with d1 | d1
        · have d2 : (j : Int) < Q := by omega
          have hA := tadd_any p bm bs (deep2 P' j) ((P' : Int) + j + 1) (deepO P' j) 0 wr HT.out (by rw [deep2_len]; omega) (by omega) (by omega)
          unfold AddPost at hA
          rw [deep2_add hP64 hj64] at hA
          rcases Nat.lt_or_ge j 64 with d3 | d3
          · rw [if_pos d3] at hA
            have HA := Lib.hid hA
            clear hA
            go_wp2_with fail
            refine HA.out.mono ?_
            rintro e5 w5 ⟨rfl, hT5, hs5⟩
            have HB5 := Lib.hid (HB.out.trans (buts_below hs5 HB.out.size hpw hbmw))
            have HT5 := Lib.hid hT5
            clear hT5 hs5
            have hO : deepO P' (j + 1) = (P' : Int) + j + 1 := by unfold deepO; rw [if_neg (by omega)]; push_cast; omega
            rcases Nat.eq_zero_or_pos j with j0 | j0
            · subst j0
              go_wp2_with fail
              go_roundw
              case rel => unfold Deep2I; exact ⟨0 + 1, by go_num, by omega, by omega, by unfold deepF; rw [if_neg (by omega)], by rw [hO]; simp, HB5.out, Eq.subst (motive := fun n => TreeAt w5 p bm bs (deep2 P' (0 + 1)) n) (show nextT _ 0 = _ by unfold nextT; rw [if_pos rfl]; push_cast; omega) HT5.out⟩
              case measure => simp [intOf]; omega
            · have j1 : ((j : Int) == 0) = false := by simp; omega
              have j2 : ¬ j = 0 := by omega
              go_wp2_with fail
              go_roundw
              case rel => unfold Deep2I; exact ⟨j + 1, by go_num, by omega, by omega, by unfold deepF; rw [if_neg j2, if_neg (by omega)], by rw [hO], HB5.out, by push_cast; exact HT5.out⟩
              case measure => simp [intOf]; omega
          · rw [if_neg (by omega)] at hA
            have HA := Lib.hid hA
            clear hA
            obtain ⟨Q', rfl⟩ : ∃ Q' : Nat, j = Q' := ⟨_, rfl⟩
            generalize hQj : j = Q' at *
            have hQm : min (Q : Int) 64 = (Q' : Int) := by omega
            go_wp2_with fail
            refine HA.out.mono ?_
            rintro e5 w5 ⟨rfl, hT5, hs5⟩
            have HB5 := Lib.hid (HB.out.trans (buts_below hs5 HB.out.size hpw hbmw))
            have HT5 := Lib.hid hT5
            clear hT5 hs5 HB HT HA
            have HB := Lib.hid HB5.out; have HT := Lib.hid HT5.out
            clear HB5 HT5 wr
            obtain ⟨wr, hwr⟩ : ∃ wr, wr = w5 := ⟨_, rfl⟩
            rw [← hwr] at HB HT ⊢
            clear hwr
            go_upto_if 85 with fail
            go_cut [19] (fun s wx => ∃ R next, Below w.heap.size w wx ∧ TreeAt wx p bm bs R next ∧ R.length ≤ 200 ∧ 1 ≤ next ∧ next ≤ 200)
            case first =>
              rcases Nat.eq_zero_or_pos Q' with z0 | z0
              · exfalso; omega
              · have z1 : (0 : Int) < (Q' : Int) := by omega
                have hz1 : ¬ Q' = 0 := by omega
                have hO : deepO P' Q' = (P' : Int) + Q' := by unfold deepO; rw [if_neg hz1]
                have hFF : deepF P' Q' = (P' : Int) + 1 := by unfold deepF; rw [if_neg hz1]
                have hM := tmove_any p bm bs (deep2 P' Q') ((P' : Int) + Q' + 1) (deepF P' Q') P' 0 wr HT.out (by rw [deep2_len]; omega)
                unfold MovePost at hM
                rw [show moveT (deep2 P' Q') (deepF P' Q') P' 0 = (if P' + Q' ≤ 64 then (chainR 0 0 (P' + 1) ++ chainR (P' + 1) (P' + 1) Q', 0) else (deep2 P' Q', 7)) from (by rw [hFF]; exact deep2_move z0)] at hM
                have HOO := Lib.hid hO
                clear hO hFF hz1
                by_cases c9 : P' + Q' ≤ 64
                · rw [if_pos c9] at hM
                  have HM := Lib.hid hM
                  clear hM
                  have c10 : (P' : Int) + Q' ≤ 64 := by omega
                  go_wp2_with fail
                  refine HM.out.mono ?_
                  rintro e7 w7 ⟨rfl, hT7, hs7⟩
                  have HB7 := Lib.hid (HB.out.trans (buts_below hs7 HB.out.size hpw hbmw))
                  have HT7 := Lib.hid hT7
                  clear hT7 hs7
                  obtain ⟨A, hA⟩ := deep2_moved (p := P') (q := Q') z0
                  have HD : Hid (Calls Try.prog 25 #[.pointer (some ⟨p, 0, none⟩), .int .i64 (deepO P' Q')] w7 fun e w' => e = .returned (.int .i64 ((P' : Int) + Q')) ∧ Below w7.heap.size w7 w') := by rw [HOO.out]; exact depth_any p bm bs _ ((P' : Int) + Q' + 1) (P' + Q' + 1) A [] ((P' : Int) + Q') ((P' : Int) + Q') w7 (by omega) HT7.out hA
                  have HAL := Lib.hid (show (chainR 0 0 (P' + 1) ++ chainR (P' + 1) (P' + 1) Q').length ≤ 200 by simp [chain_len]; omega)
                  clear hA
                  go_wp2_with fail
                  refine HD.out.mono ?_
                  rintro e8 w8 ⟨rfl, hb8⟩
                  have HB8 := Lib.hid (below_via HB7.out hb8 HB7.out.size)
                  have HT8 := Lib.hid (HT7.out.below hb8)
                  clear hb8
                  go_wp2_with fail
                  go_meet
                  exact ⟨_, _, HB8.out, HT8.out, HAL.out, by omega, by omega⟩
                · rw [if_neg c9] at hM
                  have HM := Lib.hid hM
                  clear hM
                  have c10 : decide ((P' : Int) + Q' ≤ 64) = false := by simp; omega
                  go_wp2_with fail
                  refine HM.out.mono ?_
                  rintro e7 w7 ⟨rfl, hT7, hs7⟩
                  have HB7 := Lib.hid (HB.out.trans (buts_below hs7 HB.out.size hpw hbmw))
                  have HT7 := Lib.hid hT7
                  clear hT7 hs7
                  go_wp2_with fail
                  go_meet
                  exact ⟨_, _, HB7.out, HT7.out, by rw [deep2_len]; omega, by omega, by omega⟩
            case rest =>
              obtain ⟨R0, next0, hb9, hT9, hR9, hn9, hn9'⟩ := hcut
              have HB9 := Lib.hid hb9; have HT9 := Lib.hid hT9
              clear hb9 hT9
              go_wp2_with fail
              go_loopw [] (fun w2 => ∃ R next, Below w.heap.size w w2 ∧ TreeAt w2 p bm bs R next ∧ R.length ≤ 1024 ∧ 1 ≤ next ∧ next ≤ R.length + 200 ∧ (many = false → R.length ≤ 200)) (fun w2 => 1024 - (mapOf w2 bm).length)
              case atStart => exact ⟨R0, next0, HB9.out, HT9.out, by omega, hn9, by omega, fun _ => hR9⟩
              case round =>
                obtain ⟨R, next, hb10, hT10, hR10, hn10, hn10', hmf⟩ := hrel
                have HB10 := Lib.hid hb10; have HT10 := Lib.hid hT10; have HMF := Lib.hid hmf
                have HML := Lib.hid (show (mapOf wr bm).length = R.length by have := hT10.fo.len; simpa using this)
                obtain ⟨C, hRC, hC1⟩ := hT10.wf.head
                have hst := hT10.wf.steps
                have hCl : HeadLe (0 + 1) C := fun x X q => by rw [hRC, q] at hst; exact hst.1
                have HRC := Lib.hid (show R = [] ++ ((0 : Int), (0 : Int)) :: C from hRC)
                have HCL := Lib.hid hCl
                clear hb10 hT10 hmf hRC hC1 hst hCl
                have hA := tadd_any p bm bs R next 0 0 wr HT10.out (by omega) hn10 (by omega)
                unfold AddPost at hA
                by_cases d1 : 1024 ≤ R.length
                · have hmany : many = true := by
                    cases many with
                    | true => rfl
                    | false => have := HMF.out rfl; omega
                  subst hmany
                  have hF : addT R next 0 0 = (R, 0, 8) := by
                    have q := addT_full (A := []) (C := C) (par := 0) (d := 0) (next := next) (by simp [nums]) (by rw [← HRC.out]; exact d1)
                    rw [← HRC.out] at q; exact q
                  rw [hF] at hA
                  have HA := Lib.hid hA
                  clear hA hF
                  have hRe : R.length = 1024 := by omega
                  have HLN := Lib.hid (len_any p bm bs R next wr HT10.out)
                  rw [hRe] at HLN
                  go_wp2_with fail
                  refine HLN.out.mono ?_
                  rintro e10 w10 ⟨rfl, rfl⟩
                  go_wp2_with fail
                  refine HA.out.mono ?_
                  rintro e11 w11 ⟨rfl, hT11, hs11⟩
                  have HB11 := Lib.hid (HB10.out.trans (buts_below hs11 HB10.out.size hpw hbmw))
                  clear hT11 hs11
                  go_wp2_with fail
                  refine (add_nil 0 0 w11).mono ?_
                  rintro e12 w12 ⟨rfl, rfl⟩
                  go_wp2_with fail
                  refine (drop_nil 1 w11).mono ?_
                  rintro e13 w13 ⟨rfl, rfl⟩
                  go_wp2_with fail
                  refine (move_nil 1 0 0 w11).mono ?_
                  rintro e14 w14 ⟨rfl, rfl⟩
                  go_wp2_with fail
                  refine (copy_nil w11).mono ?_
                  rintro e15 w15 ⟨rfl, rfl⟩
                  go_wp2_with fail
                  refine (len_none w11).mono ?_
                  rintro e16 w16 ⟨rfl, rfl⟩
                  go_wp2_with fail
                  refine (order_none w11).mono ?_
                  rintro e17 w17 ⟨rfl, rfl⟩
                  go_wp2_with fail
                  refine (kids_none 0 w11).mono ?_
                  rintro e18 w18 ⟨rfl, rfl⟩
                  go_wp2_with fail
                  refine (has_none 0 w11).mono ?_
                  rintro e19 w19 ⟨rfl, rfl⟩
                  go_wp2_with fail
                  go_ret
                  exact ⟨rfl, HB11.out⟩
                · have hF : addT R next 0 0 = ([] ++ ((0 : Int), (0 : Int)) :: (next, 0 + 1) :: C, next, 0) := by
                    have q := addT_first (A := []) (C := C) (par := 0) (d := 0) (next := next) (by simp [nums]) HCL.out (by rw [← HRC.out]; exact d1)
                    rw [← HRC.out, if_neg (by omega)] at q; exact q
                  rw [hF] at hA
                  have hlen : ([] ++ ((0 : Int), (0 : Int)) :: (next, 0 + 1) :: C).length = R.length + 1 := by rw [HRC.out]; simp
                  have HLE := Lib.hid hlen
                  generalize ([] ++ ((0 : Int), (0 : Int)) :: (next, 0 + 1) :: C : Rows) = R2 at *
                  have HA := Lib.hid hA
                  clear hA hF hlen
                  cases many
                  · go_wp2_with fail
                    refine HA.out.mono ?_
                    rintro e11 w11 ⟨rfl, hT11, hs11⟩
                    have HB11 := Lib.hid (HB10.out.trans (buts_below hs11 HB10.out.size hpw hbmw))
                    clear hT11 hs11
                    go_wp2_with fail
                    refine (add_nil 0 0 w11).mono ?_
                    rintro e12 w12 ⟨rfl, rfl⟩
                    go_wp2_with fail
                    refine (drop_nil 1 w11).mono ?_
                    rintro e13 w13 ⟨rfl, rfl⟩
                    go_wp2_with fail
                    refine (move_nil 1 0 0 w11).mono ?_
                    rintro e14 w14 ⟨rfl, rfl⟩
                    go_wp2_with fail
                    refine (copy_nil w11).mono ?_
                    rintro e15 w15 ⟨rfl, rfl⟩
                    go_wp2_with fail
                    refine (len_none w11).mono ?_
                    rintro e16 w16 ⟨rfl, rfl⟩
                    go_wp2_with fail
                    refine (order_none w11).mono ?_
                    rintro e17 w17 ⟨rfl, rfl⟩
                    go_wp2_with fail
                    refine (kids_none 0 w11).mono ?_
                    rintro e18 w18 ⟨rfl, rfl⟩
                    go_wp2_with fail
                    refine (has_none 0 w11).mono ?_
                    rintro e19 w19 ⟨rfl, rfl⟩
                    go_wp2_with fail
                    go_ret
                    exact ⟨rfl, HB11.out⟩
                  · have HLN := Lib.hid (len_any p bm bs R next wr HT10.out)
                    have d2 : ((R.length : Nat) : Int) < 1024 := by omega
                    go_wp2_with fail
                    refine HLN.out.mono ?_
                    rintro e10 w10 ⟨rfl, rfl⟩
                    go_wp2_with fail
                    refine HA.out.mono ?_
                    rintro e11 w11 ⟨rfl, hT11, hs11⟩
                    have HB11 := Lib.hid (HB10.out.trans (buts_below hs11 HB10.out.size hpw hbmw))
                    have HT11 := Lib.hid hT11
                    have HML2 := Lib.hid (show (mapOf w11 bm).length = R2.length by have := hT11.fo.len; simpa using this)
                    clear hT11 hs11
                    go_wp2_with fail
                    go_roundw
                    case rel => exact ⟨R2, _, HB11.out, HT11.out, by rw [HLE.out]; omega, by show 1 ≤ next + 1; omega, by show next + 1 ≤ _; rw [HLE.out]; push_cast; omega, fun q => by cases q⟩
                    case measure => rw [HML.out, HML2.out, HLE.out]; omega
        · obtain ⟨Q', hQj⟩ : ∃ Q', j = Q' := ⟨_, rfl⟩
          have hQm : min (Q : Int) 64 = (Q' : Int) := by omega
          have d2 : decide ((j : Int) < Q) = false := by simp; omega
          have d3 : decide (j < Q) = false := by simp; omega
          have hQQ : Q = Q' := by omega
          rw [hQj] at HT ⊢
          rw [hQj] at d2 d3 hj64
          clear hQQ hQj
          go_upto_if 85 with fail
          go_cut [19] (fun s wx => ∃ R next, Below w.heap.size w wx ∧ TreeAt wx p bm bs R next ∧ R.length ≤ 200 ∧ 1 ≤ next ∧ next ≤ 200)
          case first =>
            rcases Nat.eq_zero_or_pos Q' with z0 | z0
            · have z1 : decide ((0 : Int) < (Q' : Int)) = false := by simp; omega
              have z2 : decide (0 < Q') = false := by simp; omega
              go_wp2_with fail
              go_meet
              exact ⟨_, _, HB.out, HT.out, by rw [deep2_len]; omega, by omega, by omega⟩
            · have z1 : (0 : Int) < (Q' : Int) := by omega
              have hz1 : ¬ Q' = 0 := by omega
              have hO : deepO P' Q' = (P' : Int) + Q' := by unfold deepO; rw [if_neg hz1]
              have hFF : deepF P' Q' = (P' : Int) + 1 := by unfold deepF; rw [if_neg hz1]
              have hM := tmove_any p bm bs (deep2 P' Q') ((P' : Int) + Q' + 1) (deepF P' Q') P' 0 wr HT.out (by rw [deep2_len]; omega)
              unfold MovePost at hM
              rw [show moveT (deep2 P' Q') (deepF P' Q') P' 0 = (if P' + Q' ≤ 64 then (chainR 0 0 (P' + 1) ++ chainR (P' + 1) (P' + 1) Q', 0) else (deep2 P' Q', 7)) from (by rw [hFF]; exact deep2_move z0)] at hM
              have HOO := Lib.hid hO
              clear hO hFF hz1
              by_cases c9 : P' + Q' ≤ 64
              · rw [if_pos c9] at hM
                have HM := Lib.hid hM
                clear hM
                have c10 : (P' : Int) + Q' ≤ 64 := by omega
                go_wp2_with fail
                refine HM.out.mono ?_
                rintro e7 w7 ⟨rfl, hT7, hs7⟩
                have HB7 := Lib.hid (HB.out.trans (buts_below hs7 HB.out.size hpw hbmw))
                have HT7 := Lib.hid hT7
                clear hT7 hs7
                obtain ⟨A, hA⟩ := deep2_moved (p := P') (q := Q') z0
                have HD : Hid (Calls Try.prog 25 #[.pointer (some ⟨p, 0, none⟩), .int .i64 (deepO P' Q')] w7 fun e w' => e = .returned (.int .i64 ((P' : Int) + Q')) ∧ Below w7.heap.size w7 w') := by rw [HOO.out]; exact depth_any p bm bs _ ((P' : Int) + Q' + 1) (P' + Q' + 1) A [] ((P' : Int) + Q') ((P' : Int) + Q') w7 (by omega) HT7.out hA
                have HAL := Lib.hid (show (chainR 0 0 (P' + 1) ++ chainR (P' + 1) (P' + 1) Q').length ≤ 200 by simp [chain_len]; omega)
                clear hA
                go_wp2_with fail
                refine HD.out.mono ?_
                rintro e8 w8 ⟨rfl, hb8⟩
                have HB8 := Lib.hid (below_via HB7.out hb8 HB7.out.size)
                have HT8 := Lib.hid (HT7.out.below hb8)
                clear hb8
                go_wp2_with fail
                go_meet
                exact ⟨_, _, HB8.out, HT8.out, HAL.out, by omega, by omega⟩
              · rw [if_neg c9] at hM
                have HM := Lib.hid hM
                clear hM
                have c10 : decide ((P' : Int) + Q' ≤ 64) = false := by simp; omega
                go_wp2_with fail
                refine HM.out.mono ?_
                rintro e7 w7 ⟨rfl, hT7, hs7⟩
                have HB7 := Lib.hid (HB.out.trans (buts_below hs7 HB.out.size hpw hbmw))
                have HT7 := Lib.hid hT7
                clear hT7 hs7
                go_wp2_with fail
                go_meet
                exact ⟨_, _, HB7.out, HT7.out, by rw [deep2_len]; omega, by omega, by omega⟩
          case rest =>
            obtain ⟨R0, next0, hb9, hT9, hR9, hn9, hn9'⟩ := hcut
            have HB9 := Lib.hid hb9; have HT9 := Lib.hid hT9
            clear hb9 hT9
            go_wp2_with fail
            go_loopw [] (fun w2 => ∃ R next, Below w.heap.size w w2 ∧ TreeAt w2 p bm bs R next ∧ R.length ≤ 1024 ∧ 1 ≤ next ∧ next ≤ R.length + 200 ∧ (many = false → R.length ≤ 200)) (fun w2 => 1024 - (mapOf w2 bm).length)
            case atStart => exact ⟨R0, next0, HB9.out, HT9.out, by omega, hn9, by omega, fun _ => hR9⟩
            case round =>
              obtain ⟨R, next, hb10, hT10, hR10, hn10, hn10', hmf⟩ := hrel
              have HB10 := Lib.hid hb10; have HT10 := Lib.hid hT10; have HMF := Lib.hid hmf
              have HML := Lib.hid (show (mapOf wr bm).length = R.length by have := hT10.fo.len; simpa using this)
              obtain ⟨C, hRC, hC1⟩ := hT10.wf.head
              have hst := hT10.wf.steps
              have hCl : HeadLe (0 + 1) C := fun x X q => by rw [hRC, q] at hst; exact hst.1
              have HRC := Lib.hid (show R = [] ++ ((0 : Int), (0 : Int)) :: C from hRC)
              have HCL := Lib.hid hCl
              clear hb10 hT10 hmf hRC hC1 hst hCl
              have hA := tadd_any p bm bs R next 0 0 wr HT10.out (by omega) hn10 (by omega)
              unfold AddPost at hA
              by_cases d1 : 1024 ≤ R.length
              · have hmany : many = true := by
                  cases many with
                  | true => rfl
                  | false => have := HMF.out rfl; omega
                subst hmany
                have hF : addT R next 0 0 = (R, 0, 8) := by
                  have q := addT_full (A := []) (C := C) (par := 0) (d := 0) (next := next) (by simp [nums]) (by rw [← HRC.out]; exact d1)
                  rw [← HRC.out] at q; exact q
                rw [hF] at hA
                have HA := Lib.hid hA
                clear hA hF
                have hRe : R.length = 1024 := by omega
                have HLN := Lib.hid (len_any p bm bs R next wr HT10.out)
                rw [hRe] at HLN
                go_wp2_with fail
                refine HLN.out.mono ?_
                rintro e10 w10 ⟨rfl, rfl⟩
                go_wp2_with fail
                refine HA.out.mono ?_
                rintro e11 w11 ⟨rfl, hT11, hs11⟩
                have HB11 := Lib.hid (HB10.out.trans (buts_below hs11 HB10.out.size hpw hbmw))
                clear hT11 hs11
                go_wp2_with fail
                refine (add_nil 0 0 w11).mono ?_
                rintro e12 w12 ⟨rfl, rfl⟩
                go_wp2_with fail
                refine (drop_nil 1 w11).mono ?_
                rintro e13 w13 ⟨rfl, rfl⟩
                go_wp2_with fail
                refine (move_nil 1 0 0 w11).mono ?_
                rintro e14 w14 ⟨rfl, rfl⟩
                go_wp2_with fail
                refine (copy_nil w11).mono ?_
                rintro e15 w15 ⟨rfl, rfl⟩
                go_wp2_with fail
                refine (len_none w11).mono ?_
                rintro e16 w16 ⟨rfl, rfl⟩
                go_wp2_with fail
                refine (order_none w11).mono ?_
                rintro e17 w17 ⟨rfl, rfl⟩
                go_wp2_with fail
                refine (kids_none 0 w11).mono ?_
                rintro e18 w18 ⟨rfl, rfl⟩
                go_wp2_with fail
                refine (has_none 0 w11).mono ?_
                rintro e19 w19 ⟨rfl, rfl⟩
                go_wp2_with fail
                go_ret
                exact ⟨rfl, HB11.out⟩
              · have hF : addT R next 0 0 = ([] ++ ((0 : Int), (0 : Int)) :: (next, 0 + 1) :: C, next, 0) := by
                  have q := addT_first (A := []) (C := C) (par := 0) (d := 0) (next := next) (by simp [nums]) HCL.out (by rw [← HRC.out]; exact d1)
                  rw [← HRC.out, if_neg (by omega)] at q; exact q
                rw [hF] at hA
                have hlen : ([] ++ ((0 : Int), (0 : Int)) :: (next, 0 + 1) :: C).length = R.length + 1 := by rw [HRC.out]; simp
                have HLE := Lib.hid hlen
                generalize ([] ++ ((0 : Int), (0 : Int)) :: (next, 0 + 1) :: C : Rows) = R2 at *
                have HA := Lib.hid hA
                clear hA hF hlen
                cases many
                · go_wp2_with fail
                  refine HA.out.mono ?_
                  rintro e11 w11 ⟨rfl, hT11, hs11⟩
                  have HB11 := Lib.hid (HB10.out.trans (buts_below hs11 HB10.out.size hpw hbmw))
                  clear hT11 hs11
                  go_wp2_with fail
                  refine (add_nil 0 0 w11).mono ?_
                  rintro e12 w12 ⟨rfl, rfl⟩
                  go_wp2_with fail
                  refine (drop_nil 1 w11).mono ?_
                  rintro e13 w13 ⟨rfl, rfl⟩
                  go_wp2_with fail
                  refine (move_nil 1 0 0 w11).mono ?_
                  rintro e14 w14 ⟨rfl, rfl⟩
                  go_wp2_with fail
                  refine (copy_nil w11).mono ?_
                  rintro e15 w15 ⟨rfl, rfl⟩
                  go_wp2_with fail
                  refine (len_none w11).mono ?_
                  rintro e16 w16 ⟨rfl, rfl⟩
                  go_wp2_with fail
                  refine (order_none w11).mono ?_
                  rintro e17 w17 ⟨rfl, rfl⟩
                  go_wp2_with fail
                  refine (kids_none 0 w11).mono ?_
                  rintro e18 w18 ⟨rfl, rfl⟩
                  go_wp2_with fail
                  refine (has_none 0 w11).mono ?_
                  rintro e19 w19 ⟨rfl, rfl⟩
                  go_wp2_with fail
                  go_ret
                  exact ⟨rfl, HB11.out⟩
                · have HLN := Lib.hid (len_any p bm bs R next wr HT10.out)
                  have d2 : ((R.length : Nat) : Int) < 1024 := by omega
                  go_wp2_with fail
                  refine HLN.out.mono ?_
                  rintro e10 w10 ⟨rfl, rfl⟩
                  go_wp2_with fail
                  refine HA.out.mono ?_
                  rintro e11 w11 ⟨rfl, hT11, hs11⟩
                  have HB11 := Lib.hid (HB10.out.trans (buts_below hs11 HB10.out.size hpw hbmw))
                  have HT11 := Lib.hid hT11
                  have HML2 := Lib.hid (show (mapOf w11 bm).length = R2.length by have := hT11.fo.len; simpa using this)
                  clear hT11 hs11
                  go_wp2_with fail
                  go_roundw
                  case rel => exact ⟨R2, _, HB11.out, HT11.out, by rw [HLE.out]; omega, by show 1 ≤ next + 1; omega, by show next + 1 ≤ _; rw [HLE.out]; push_cast; omega, fun q => by cases q⟩
                  case measure => rw [HML.out, HML2.out, HLE.out]; omega
theorem wf_u8' {x : Int} (h : (Lit.int .u8 x).wf = true) : 0 ≤ x ∧ x ≤ 255 := by
  simpa [Lit.wf, IntKind.min, IntKind.max, IntKind.bits, IntKind.signed] using h
theorem tdeep_law (a b : Int) (many : Bool) (w : World) (ha : (Lit.int .u8 a).wf = true) (hb : (Lit.int .u8 b).wf = true) :
    Calls Try.prog 4 #[.int .u8 a, .int .u8 b, .bool many] w fun e w' => e = .returned (.bool true) ∧ Below w.heap.size w w' := tdeep_any a b many w (wf_u8' ha) (wf_u8' hb)
end Go.Proofs.Ytcpehmlkhmfmhaa
