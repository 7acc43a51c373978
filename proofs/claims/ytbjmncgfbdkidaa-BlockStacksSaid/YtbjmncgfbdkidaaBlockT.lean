/- clapboardref17.Stack. -/
import Derived.Test.YtbjmncgfbdkidaaBlockQ
import Derived.Test.YtbjmncgfbdkidaaFlexG
namespace Go.Proofs.Ytbjmncgfbdkidaa
open Go.RowKit
set_option linter.unusedSimpArgs false
set_option linter.unusedVariables false
-- below_from_drew
attribute [local go_sem] ov_cell_same ov_cell_other ov_frozen_same ov_frozen_other ov_size ov_setCell_same ov_setCell_other cell_alloc_old frozen_alloc_old setCell_alloc_old old_alloc old_ov old_drew old_drewN old_setCell
attribute [local go_sem ↓] run_max2 run_min2

/-- What the document's stack hands back. -/
def ROut (w : World) (o : Option OutZ) (e : Ending) (w' : World) : Prop :=
  Below w.heap.size w w' ∧ ((∃ z a c, o = some z ∧ e = .returned (.tuple #[(.agg #[.slice a z.ys.length c, .int .i64 (z.h), .int .i64 (z.bu), .int .i64 (z.bd), .int .i64 (z.au), .int .i64 (z.ad), .bool (z.t)]), .int .i64 0]) ∧ IntsIn w' a z.ys) ∨ (o = none ∧ e = .returned (.tuple #[(.agg #[.slice none 0 0, .int .i64 (0), .int .i64 (0), .int .i64 (0), .int .i64 (0), .int .i64 (0), .bool (false)]), .int .i64 2])))
theorem ints_rowN {w : World} {base cap n : Nat} {e : TypeId} {a : Option Addr} {zs : List Int} (hn : n = zs.length) (h : w.ownsRow base e 1 (.slice a n cap) n (ints64 zs)) : IntsIn w a zs := by
  intro h0
  obtain ⟨a', c', hv, _, _, hr⟩ := row_reads h
  cases hv
  obtain ⟨g, ha, _, hg, hcs⟩ := hr (by omega)
  exact ⟨g, 0, ha, hg, fun i hi => by rw [Nat.zero_add]; exact hcs i _ (by simp [ints64, hi])⟩
theorem run_none {ks : List KidZ} {ot : Bool} {i : Nat} : ∀ {n : Nat}, i ≤ n → runR ks ot i = none → runR ks ot n = none
  | 0, h, hr => by obtain rfl : i = 0 := by omega
                   exact hr
  | n + 1, h, hr => by
    by_cases e : i = n + 1
    · subst e; exact hr
    · have := run_none (n := n) (by omega) hr
      rw [runR, this]; rfl
theorem told_sum {a b : Int} : toldN (a + b) = (sumZ a b).getD 0 ∧ toldE (a + b) = (if (sumZ a b).isSome = true then 0 else 2) := by
  unfold toldN toldE sumZ
  by_cases h : inL (a + b)
  · rw [lenB_t h, if_pos rfl, if_pos rfl, if_pos h]; exact ⟨rfl, rfl⟩
  · rw [lenB_f h]; simp [h]
/-- ref17.sum, told by sumZ. -/
theorem rsum_z {x y : Int} {o : Option Int} (h : sumZ x y = o) (hx : inL x) (hy : -9223372036854775808 ≤ y ∧ y ≤ 9223372036854775807) (w : World) :
    Calls Try.prog 76 #[.int .i64 x, .int .i64 y] w fun e w' => e = .returned (.tuple #[.int .i64 (o.getD 0), .int .i64 (if o.isSome = true then 0 else 2)]) ∧ Below w.heap.size w w' := by
  have hx' : -17592186044416 ≤ x ∧ x ≤ 17592186044416 := hx
  have hs := rsum_any x y (by omega) hy w
  rw [told_sum.1, told_sum.2, h] at hs
  exact hs
/-- ref17.end, told by endR. -/
theorem rend_z {a ay : Option Addr} {cap cy : Nat} {ks : List KidZ} {ys : List Int} {l : Int} {o : Option Int} (h : endR ks ys l = o) (hl1 : -1 ≤ l) (hl2 : l < ys.length) (hyn : ys.length ≤ ks.length) (hn : ks.length ≤ 1000) (hg : ∀ k ∈ ks, GoodK k) (hyi : ∀ y ∈ ys, inL y) (w : World) (hk : RKidsIn w a ks) (hys : IntsIn w ay ys) :
    Calls Try.prog 77 #[.slice a ks.length cap, .slice ay ys.length cy, .int .i64 l] w fun e w' => e = .returned (.tuple #[.int .i64 (o.getD 0), .int .i64 (if o.isSome = true then 0 else 2)]) ∧ Below w.heap.size w w' := by
  rcases Int.lt_or_le l 0 with h0 | h0
  · obtain rfl : l = -1 := by omega
    have : endR ks ys (-1) = some 0 := by unfold endR; rw [if_pos (by omega)]
    rw [this] at h
    subst h
    exact rend_neg a ay ks.length cap ys.length cy w
  · obtain ⟨k, rfl⟩ : ∃ k : Nat, l = k := ⟨l.toNat, by omega⟩
    have g := getD_good hg k
    unfold GoodK at g
    have hyk : inL (ys.getD k 0) := hyi _ (by simp only [List.getD_eq_getElem?_getD, List.getElem?_eq_getElem (show k < ys.length by omega), Option.getD_some]; exact List.getElem_mem _)
    have hyk' : -17592186044416 ≤ ys.getD k 0 ∧ ys.getD k 0 ≤ 17592186044416 := hyk
    have he := rend_any a ay cap cy ks ys k w (by omega) (by omega) hn (by omega) (by omega) (by omega) hk hys
    unfold endR at h
    rw [if_neg (by omega), Int.toNat_natCast] at h
    rw [told_sum.1, told_sum.2, h] at he
    exact he
abbrev zero7 : Array Value := #[.slice none 0 0, .int .i64 0, .int .i64 0, .int .i64 0, .int .i64 0, .int .i64 0, .bool false]
set_option maxRecDepth 100000 in
set_option maxHeartbeats 8000000 in
theorem rstack_any (a : Option Addr) (cap : Nat) (ks : List KidZ) (ot ob : Bool) (w : World) (hn : ks.length ≤ 30) (hg : ∀ k ∈ ks, GoodK k) (hk : RKidsIn w a ks) :
    Calls Try.prog 26 #[.slice a ks.length cap, .bool ot, .bool ob] w (ROut w (stackR ks ot ob)) := by
  obtain ⟨i0, hi, hz0, hz1, hz2⟩ := info_parts infoI64
  have HK := Lib.hid hk; have HG := Lib.hid hg
  clear hk hg
  generalize hlen : ks.length = n at *
  have HN := Lib.hid hlen; clear hlen
  go_enter Try.func26, Try.ntmps26
  go_wp2_with fail
  go_loopw [9, 10] (fun fv iv wr => ∃ (i : Nat) (ys : List Int) (al : Option Addr) (ca : Nat), i ≤ n ∧ fv = .int .i64 (firstF ks i) ∧ iv = .int .i64 (i : Int) ∧ runR ks ot i = some ys ∧ ys.length = i ∧ (∀ y ∈ ys, inL y) ∧ Below w.heap.size w wr ∧ w.heap.size + 1 < wr.heap.size ∧ Has wr w.heap.size zero7 56 ∧ Has wr (w.heap.size + 1) #[.slice al i ca, .int .i64 0, .int .i64 0, .int .i64 0, .int .i64 0, .int .i64 0, .bool false] 56 ∧ wr.ownsRow (w.heap.size + 1 + 1) 2 1 (.slice al i ca) i (ints64 ys)) (fun _ iv _ => n - (intOf iv).toNat)
  case atStart => exact ⟨0, [], none, 0, by omega, rfl, rfl, rfl, rfl, by simp, by (repeat' (first | (with_reducible exact Below.refl _ _) | (with_reducible assumption) | (with_reducible refine below_from_drew ?_) | (with_reducible refine Below.alloc ?_ ?_ _) | (with_reducible refine Below.drew ?_) | (with_reducible refine below_drewN ?_ _) | (with_reducible refine Below.setCell ?_ ?_ _) | (with_reducible refine below_via ?_ (by assumption) ?_) | (with_reducible refine below_ov ?_ ?_ _ _) | go_size)), by go_size, by (repeat' (first | (with_reducible refine has_drew ?_) | (with_reducible refine has_drewN ?_) | (with_reducible refine has_new ?_; (first | (with_reducible rfl) | omega | (simp; done) | (simp; omega))) | (with_reducible refine has_ov_same ?_; (first | (with_reducible rfl) | omega | (simp; done) | (simp; omega))) | (with_reducible refine has_alloc ?_) | (with_reducible refine has_ov_other ?_ ?_; (focus (first | (with_reducible rfl) | omega | (simp; done) | (simp; omega)))) | (with_reducible assumption))), by (repeat' (first | (with_reducible refine has_drew ?_) | (with_reducible refine has_drewN ?_) | (with_reducible refine has_new ?_; (first | (with_reducible rfl) | omega | (simp; done) | (simp; omega))) | (with_reducible refine has_ov_same ?_; (first | (with_reducible rfl) | omega | (simp; done) | (simp; omega))) | (with_reducible refine has_alloc ?_) | (with_reducible refine has_ov_other ?_ ?_; (focus (first | (with_reducible rfl) | omega | (simp; done) | (simp; omega)))) | (with_reducible assumption))), World.ownsRow_nil _ _ _ _⟩
  case round =>
    obtain ⟨i, ys, al, ca, hin, rfl, rfl, hrun, hyl, hyi, hbw, hsz, h0, h1, hown⟩ := hrel
    have HRUN := Lib.hid hrun; have HYI := Lib.hid hyi; have HBW := Lib.hid hbw; have H0 := Lib.hid h0; have H1 := Lib.hid h1; have HOWN := Lib.hid hown; have HYL := Lib.hid hyl
    have HKW := Lib.hid (HK.out.below hbw)
    have HIN := Lib.hid (ints_rowN hyl.symm hown)
    clear hrun hyi hbw h0 h1 hown hyl
    rcases Nat.lt_or_ge i n with c1 | c1
    · have d1 : (i : Int) < n := by omega
      have hlast := rlast_any a cap ks i wr (by rw [HN.out]; omega) (by rw [HN.out]; omega) HKW.out
      rw [HN.out] at hlast
      have HLA := Lib.hid hlast; clear hlast
      go_wp2_with fail
      refine HLA.out.mono ?_
      rintro e wx ⟨rfl, rfl⟩
      obtain ⟨li1, li2⟩ := lastF_in ks i
      go_upto_region 8 with fail
      go_cut [41] (fun b wx => b = .bool (decide (0 ≤ lastF ks i ∨ ot = false)) ∧ wx = wr)
      case first =>
        by_cases hl : 0 ≤ lastF ks i
        · go_wp2_with fail
          go_meet
          exact ⟨by simp [hl], rfl⟩
        · have hl2 : decide (0 ≤ lastF ks i) = false := by simp; omega
          cases ot
          · go_wp2_with fail
            go_meet
            exact ⟨by simp, rfl⟩
          · go_wp2_with fail
            go_meet
            exact ⟨by simp [hl], rfl⟩
      case rest =>
        obtain ⟨rfl, hwc⟩ := hcut
        obtain rfl : wr = wc := hwc.symm
        have HP := Lib.hid (rfl : placeR ks ot ys i = placeR ks ot ys i)
        go_upto_if 41 with fail
        go_cut [12] (fun yv wx => ∃ y, yv = .int .i64 y ∧ placeR ks ot ys i = some y ∧ inL y ∧ Below wr.heap.size wr wx)
        case first =>
          by_cases hP : 0 ≤ lastF ks i ∨ ot = false
          · have hPd : decide (0 ≤ lastF ks i ∨ ot = false) = true := by simp [hP]
            rw [hPd]
            have hwf := wF_in HG.out i
            have hgk := getD_good HG.out i
            unfold GoodK at hgk
            have hUb : (0 ≤ max (mwu ks i (i + 1)) 0 ∧ max (mwu ks i (i + 1)) 0 ≤ 17592186044415) ∧ (-17592186044415 ≤ min (mwd ks i (i + 1)) 0 ∧ min (mwd ks i (i + 1)) 0 ≤ 0) := by
              unfold mwu mwd; rw [if_neg (by omega), if_neg (by omega)]; omega
            have hmeet := rmeet_any a cap ks i (i + 1) wr (by rw [HN.out]; omega) (.inr ⟨rfl, by rw [HN.out]; exact c1⟩) (by rw [HN.out]; omega) HKW.out
            rw [HN.out] at hmeet
            have hpl : placeR ks ot ys i = (sumZ (max (mwu ks i (i + 1)) 0) (min (mwd ks i (i + 1)) 0)).bind fun m => (endR ks ys (lastF ks i)).bind fun e => sumZ e m := by unfold placeR; rw [if_pos hP]
            generalize max (mwu ks i (i + 1)) 0 = U at *
            generalize min (mwd ks i (i + 1)) 0 = D at *
            obtain ⟨⟨U1, U2⟩, D1, D2⟩ := hUb
            have hUD : sumZ U D = some (U + D) := by unfold sumZ; rw [if_pos (by unfold inL; omega)]
            rw [hUD, Option.bind_some] at hpl
            have hsum1 := fun w => rsum_z hUD (by unfold inL; omega) (by omega) w
            simp only [Option.getD_some, Option.isSome_some, if_true] at hsum1
            have HME := Lib.hid hmeet; have HS1 := Lib.hid hsum1; have HPL := Lib.hid hpl
            clear hmeet hsum1 hUD hpl hwf hgk
            go_wp2_with fail
            refine HME.out.mono ?_
            rintro e w2 ⟨rfl, hb2⟩
            have HB2 := Lib.hid hb2
            clear hb2
            go_wp2_with fail
            refine (HS1.out _).mono ?_
            rintro e w3 ⟨rfl, hb3⟩
            have hb3' := below_via HB2.out hb3 HB2.out.size
            have HB3 := Lib.hid hb3'
            have k1 := (has_below hb3' H1.out).cells
            have l1 := (has_below hb3' H1.out).lt
            clear hb3 hb3' HB2
            cases hen : endR ks ys (lastF ks i) with
            | none =>
              have hend := fun w h1 h2 => rend_z (a := a) (ay := al) (cap := cap) (cy := ca) hen li1 (by rw [HYL.out]; exact li2) (by rw [HYL.out, HN.out]; exact hin) (by rw [HN.out]; omega) HG.out HYI.out w h1 h2
              rw [HN.out, HYL.out] at hend
              simp only [Option.getD_none, Option.isSome_none, Bool.false_eq_true, if_false] at hend
              have hs0 : sumZ 0 (U + D) = some (0 + (U + D)) := by unfold sumZ; rw [if_pos (by unfold inL; omega)]
              have hsum2 := fun w => rsum_z hs0 (by unfold inL; omega) (by omega) w
              simp only [Option.getD_some, Option.isSome_some, if_true] at hsum2
              have HEN := Lib.hid hend; have HS2 := Lib.hid hsum2
              have hpl1 : placeR ks ot ys i = none := by rw [HPL.out, hen]; rfl
              have HPN := Lib.hid hpl1
              clear hend hsum2 hs0 hpl1 hen
              go_wp2_with fail
              refine (HEN.out _ (HKW.out.below HB3.out) (HIN.out.below HB3.out)).mono ?_
              rintro e w4 ⟨rfl, hb4⟩
              have HB4 := Lib.hid (below_via HB3.out hb4 HB3.out.size)
              clear hb4 k1 l1
              go_wp2_with fail
              refine (HS2.out _).mono ?_
              rintro e w5 ⟨rfl, hb5⟩
              have hb5' := below_via HB4.out hb5 HB4.out.size
              clear hb5 HB4
              have hpl1 := HPN.out
              have K0 := has_below hb5' H0.out
              have l0 := K0.lt
              have o0 : Old w5 w.heap.size := l0
              have HE := Lib.hid (below_via HBW.out hb5' HBW.out.size)
              have HNO := Lib.hid (show stackR ks ot ob = none by unfold stackR; rw [run_none (i := i + 1) (by rw [HN.out]; omega) (by rw [runR, HRUN.out, Option.bind_some, hpl1]; rfl)]; rfl)
              rw [← ov_self K0]
              clear K0 hb5'
              go_wp2_with fail
              refine bodyPost_ret (by simp [results, Try.results26, go_sem, l0, o0]; try rfl) rfl ?_
              exact ⟨by have q := HE.out; (repeat' (first | (with_reducible exact Below.refl _ _) | (with_reducible assumption) | (with_reducible refine below_from_drew ?_) | (with_reducible refine Below.alloc ?_ ?_ _) | (with_reducible refine Below.drew ?_) | (with_reducible refine below_drewN ?_ _) | (with_reducible refine Below.setCell ?_ ?_ _) | (with_reducible refine below_via ?_ (by assumption) ?_) | (with_reducible refine below_ov ?_ ?_ _ _) | go_size)), .inr ⟨HNO.out, rfl⟩⟩
            | some e =>
              have hei := endR_in hen
              have hend := fun w h1 h2 => rend_z (a := a) (ay := al) (cap := cap) (cy := ca) hen li1 (by rw [HYL.out]; exact li2) (by rw [HYL.out, HN.out]; exact hin) (by rw [HN.out]; omega) HG.out HYI.out w h1 h2
              rw [HN.out, HYL.out] at hend
              simp only [Option.getD_some, Option.isSome_some, if_true] at hend
              have HEN := Lib.hid hend
              rw [hen, Option.bind_some] at HPL
              clear hend hen
              cases hs2 : sumZ e (U + D) with
              | none =>
                have hsum2 := fun w => rsum_z hs2 hei (by omega) w
                simp only [Option.getD_none, Option.isSome_none, Bool.false_eq_true, if_false] at hsum2
                have HS2 := Lib.hid hsum2
                have hpl1 : placeR ks ot ys i = none := by rw [HPL.out, hs2]
                have HPN := Lib.hid hpl1
                clear hsum2 hs2 hpl1
                go_wp2_with fail
                refine (HEN.out _ (HKW.out.below HB3.out) (HIN.out.below HB3.out)).mono ?_
                rintro e' w4 ⟨rfl, hb4⟩
                have HB4 := Lib.hid (below_via HB3.out hb4 HB3.out.size)
                clear hb4 k1 l1
                go_wp2_with fail
                refine (HS2.out _).mono ?_
                rintro e' w5 ⟨rfl, hb5⟩
                have hb5' := below_via HB4.out hb5 HB4.out.size
                clear hb5 HB4
                have hpl1 := HPN.out
                have K0 := has_below hb5' H0.out
                have l0 := K0.lt
                have o0 : Old w5 w.heap.size := l0
                have HE := Lib.hid (below_via HBW.out hb5' HBW.out.size)
                have HNO := Lib.hid (show stackR ks ot ob = none by unfold stackR; rw [run_none (i := i + 1) (by rw [HN.out]; omega) (by rw [runR, HRUN.out, Option.bind_some, hpl1]; rfl)]; rfl)
                rw [← ov_self K0]
                clear K0 hb5'
                go_wp2_with fail
                refine bodyPost_ret (by simp [results, Try.results26, go_sem, l0, o0]; try rfl) rfl ?_
                exact ⟨by have q := HE.out; (repeat' (first | (with_reducible exact Below.refl _ _) | (with_reducible assumption) | (with_reducible refine below_from_drew ?_) | (with_reducible refine Below.alloc ?_ ?_ _) | (with_reducible refine Below.drew ?_) | (with_reducible refine below_drewN ?_ _) | (with_reducible refine Below.setCell ?_ ?_ _) | (with_reducible refine below_via ?_ (by assumption) ?_) | (with_reducible refine below_ov ?_ ?_ _ _) | go_size)), .inr ⟨HNO.out, rfl⟩⟩
              | some y =>
                have hyl := sumZ_in hs2
                have hsum2 := fun w => rsum_z hs2 hei (by omega) w
                simp only [Option.getD_some, Option.isSome_some, if_true] at hsum2
                have HS2 := Lib.hid hsum2
                have HPY := Lib.hid (show placeR ks ot ys i = some y by rw [HPL.out, hs2])
                clear hsum2 hs2
                go_wp2_with fail
                refine (HEN.out _ (HKW.out.below HB3.out) (HIN.out.below HB3.out)).mono ?_
                rintro e' w4 ⟨rfl, hb4⟩
                have HB4 := Lib.hid (below_via HB3.out hb4 HB3.out.size)
                clear hb4 k1 l1
                go_wp2_with fail
                refine (HS2.out _).mono ?_
                rintro e' w5 ⟨rfl, hb5⟩
                have HB5 := Lib.hid (below_via HB4.out hb5 HB4.out.size)
                clear hb5 HB4
                go_wp2_with fail
                go_meet
                exact ⟨y, rfl, HPY.out, hyl, HB5.out⟩
          · have hPd : decide (0 ≤ lastF ks i ∨ ot = false) = false := by simp [hP]
            rw [hPd]
            go_wp2_with fail
            go_meet
            exact ⟨0, rfl, by unfold placeR; rw [if_neg hP], by unfold inL; omega, Below.refl _ _⟩
        case rest =>
          obtain ⟨y, rfl, hpl, hyin, hbv⟩ := hcut
          have K0 := Lib.hid (has_below hbv H0.out)
          have k1 := has_below hbv H1.out
          have hszv := hbv.size
          have HPL := Lib.hid hpl; have HYIN := Lib.hid hyin; have HROW := Lib.hid (row_below hbv HOWN.out); have HBV := Lib.hid (below_via HBW.out hbv HBW.out.size)
          have K1 := Lib.hid k1
          have q1 := k1.cells
          have l1 := k1.lt
          clear hpl hyin hbv k1 HOWN HLA HP HKW HIN H0 H1 hwc
          have hwz : w.heap.size + 1 < wc.heap.size := by omega
          go_wp2_with (at_builtin; refine wpList_append_own _ rfl _ _ 47 rfl (w.heap.size + 1 + 1) 2 i0 (.int .i64 0) 1 8 Try.underlying47 hi hz0 hz1 hz2 rfl (by decide) _ _ _ rfl (HROW.out.alloc _) ⟨wc.heap.size, 0, none⟩ 1 1 [.int .i64 y] rfl rfl ?p1 ?p2 ?p3 ?p4 ?p5 ?_)
          case p1 => exact news_at (by simp)
          case p2 => exact one_of rfl
          case p3 => unfold maxLen; omega
          case p4 => omega
          case p5 => simp; omega
          intro v' w2 hown' hgrow hnil
          clear hnil
          have X0 := has_grown hgrow (has_alloc K0.out) (row_ne HROW.out (by omega))
          have X1 := has_grown hgrow (has_alloc K1.out) (row_ne HROW.out (by omega))
          have hB2 : Below w.heap.size w w2 := Below.grown (by have q := HBV.out; (repeat' (first | (with_reducible exact Below.refl _ _) | (with_reducible assumption) | (with_reducible refine below_from_drew ?_) | (with_reducible refine Below.alloc ?_ ?_ _) | (with_reducible refine Below.drew ?_) | (with_reducible refine below_drewN ?_ _) | (with_reducible refine Below.setCell ?_ ?_ _) | (with_reducible refine below_via ?_ (by assumption) ?_) | (with_reducible refine below_ov ?_ ?_ _ _) | go_size))) hgrow (by simp; omega) (fun bb h => by have := row_block HROW.out bb h; omega)
          obtain ⟨al', ca', rfl, hcc, _⟩ := row_reads hown'
          have hsz2 := hgrow.size
          rw [World.size_alloc] at hsz2
          obtain ⟨b, rfl, hbl, hcs⟩ := HK.out (by rw [HN.out]; omega)
          obtain ⟨_, _, _, _, _, g5⟩ := hcs i (by rw [HN.out]; exact c1)
          replace g5 := (hB2.cell (p := ⟨b, _, none⟩) hbl).trans g5
          have lb : b < w2.heap.size := by have := hB2.size; omega
          have nb : b ≠ w.heap.size + 1 := by omega
          have nb2 : w.heap.size + 1 ≠ b := by omega
          have l2 : w.heap.size + 1 < w2.heap.size := by omega
          have o2 : Old w2 (w.heap.size + 1) := l2
          have HO2 := Lib.hid hown'; have HB2 := Lib.hid hB2; have HX0 := Lib.hid X0
          have hff : firstF ks (i + 1) = if (ks.getD i k0).t = false ∧ firstF ks i < 0 then (i : Int) else firstF ks i := rfl
          have HFF := Lib.hid hff
          have hr1 : runR ks ot (i + 1) = some (ys ++ [y]) := by rw [runR, HRUN.out, Option.bind_some, HPL.out]; rfl
          have HR1 := Lib.hid hr1
          rw [← ov_self X1]
          clear hown' X0 X1 hB2 hgrow hcs q1 K0 K1 hff hr1
          have hin2 : ∀ y' ∈ ys ++ [y], inL y' := fun y' hy' => by
            rcases List.mem_append.1 hy' with h1 | h1
            · exact HYI.out y' h1
            · simp at h1; rw [h1]; exact HYIN.out
          have HIN2 := Lib.hid hin2; clear hin2
          generalize (ks.getD i k0).t = kt at *
          generalize hF : firstF ks i = F at *
          have HF := Lib.hid hF; clear hF
          cases kt
          · rcases Int.lt_or_le F 0 with c3 | c3
            · have d5 : decide (F < 0) = true := by simp [c3]
              go_wp2_with fail
              go_roundw
              case rel => exact ⟨i + 1, ys ++ [y], al', ca', by omega, by rw [HFF.out, if_pos ⟨rfl, c3⟩], by go_num, HR1.out, by simp [HYL.out], HIN2.out, by have q := HB2.out; (repeat' (first | (with_reducible exact Below.refl _ _) | (with_reducible assumption) | (with_reducible refine below_from_drew ?_) | (with_reducible refine Below.alloc ?_ ?_ _) | (with_reducible refine Below.drew ?_) | (with_reducible refine below_drewN ?_ _) | (with_reducible refine Below.setCell ?_ ?_ _) | (with_reducible refine below_via ?_ (by assumption) ?_) | (with_reducible refine below_ov ?_ ?_ _ _) | go_size)), by rw [ov_size]; omega, has_ov_other (by omega) HX0.out, has_ov_same l2, by rw [ints64_snoc]; exact row_in HO2.out (by omega)⟩
              case measure => simp [intOf]; try omega
            · have d5 : decide (F < 0) = false := by simp; omega
              go_wp2_with fail
              go_roundw
              case rel => exact ⟨i + 1, ys ++ [y], al', ca', by omega, by rw [HFF.out, if_neg (by omega)], by go_num, HR1.out, by simp [HYL.out], HIN2.out, by have q := HB2.out; (repeat' (first | (with_reducible exact Below.refl _ _) | (with_reducible assumption) | (with_reducible refine below_from_drew ?_) | (with_reducible refine Below.alloc ?_ ?_ _) | (with_reducible refine Below.drew ?_) | (with_reducible refine below_drewN ?_ _) | (with_reducible refine Below.setCell ?_ ?_ _) | (with_reducible refine below_via ?_ (by assumption) ?_) | (with_reducible refine below_ov ?_ ?_ _ _) | go_size)), by rw [ov_size]; omega, has_ov_other (by omega) HX0.out, has_ov_same l2, by rw [ints64_snoc]; exact row_in HO2.out (by omega)⟩
              case measure => simp [intOf]; try omega
          · go_wp2_with fail
            go_roundw
            case rel => exact ⟨i + 1, ys ++ [y], al', ca', by omega, by rw [HFF.out, if_neg (by simp)], by go_num, HR1.out, by simp [HYL.out], HIN2.out, by have q := HB2.out; (repeat' (first | (with_reducible exact Below.refl _ _) | (with_reducible assumption) | (with_reducible refine below_from_drew ?_) | (with_reducible refine Below.alloc ?_ ?_ _) | (with_reducible refine Below.drew ?_) | (with_reducible refine below_drewN ?_ _) | (with_reducible refine Below.setCell ?_ ?_ _) | (with_reducible refine below_via ?_ (by assumption) ?_) | (with_reducible refine below_ov ?_ ?_ _ _) | go_size)), by rw [ov_size]; omega, has_ov_other (by omega) HX0.out, has_ov_same l2, by rw [ints64_snoc]; exact row_in HO2.out (by omega)⟩
            case measure => simp [intOf]; try omega
    · obtain rfl : i = n := by omega
      have d1 : decide ((i : Int) < i) = false := by simp
      have hfin : stackR ks ot ob = finR ks ot ob ys := by unfold stackR; rw [HN.out, HRUN.out]; rfl
      have hwf := wF_in HG.out i
      have hUb : (0 ≤ max (mwu ks i i) 0 ∧ max (mwu ks i i) 0 ≤ 17592186044415) ∧ (-17592186044415 ≤ min (mwd ks i i) 0 ∧ min (mwd ks i i) 0 ≤ 0) := by
        unfold mwu mwd; rw [if_pos (Nat.le_refl _), if_pos (Nat.le_refl _)]; omega
      have hmeet := rmeet_any a cap ks i i wr (by rw [HN.out]; omega) (.inl rfl) (by rw [HN.out]; omega) HKW.out
      rw [HN.out] at hmeet
      unfold finR at hfin
      rw [HN.out] at hfin
      have hfl := first_last ks i
      have hfi := firstF_lt ks i
      obtain ⟨li1, li2⟩ := lastF_in ks i
      have htu : topU ks ot i = if ot = true ∧ 0 ≤ firstF ks i then max (mwu ks (firstF ks i).toNat ((firstF ks i).toNat + 1)) 0 else 0 := rfl
      have htd : topD ks ot i = if ot = true ∧ 0 ≤ firstF ks i then min (mwd ks (firstF ks i).toNat ((firstF ks i).toNat + 1)) 0 else 0 := rfl
      generalize max (mwu ks i i) 0 = U at *
      generalize min (mwd ks i i) 0 = D at *
      generalize firstF ks i = F at *
      obtain ⟨⟨U1, U2⟩, D1, D2⟩ := hUb
      have hUD : sumZ U D = some (U + D) := by unfold sumZ; rw [if_pos (by unfold inL; omega)]
      rw [hUD] at hfin
      have hsum1 := fun w => rsum_z hUD (by unfold inL; omega) (by omega) w
      simp only [Option.getD_some, Option.isSome_some, if_true] at hsum1
      have HME := Lib.hid hmeet; have HS1 := Lib.hid hsum1; have HFIN := Lib.hid hfin; have HTU := Lib.hid htu; have HTD := Lib.hid htd
      clear hmeet hsum1 hUD hfin htu htd hwf
      go_wp2_with fail
      refine HME.out.mono ?_
      rintro e w2 ⟨rfl, hb2⟩
      have HB2 := Lib.hid hb2
      clear hb2
      go_wp2_with fail
      refine (HS1.out _).mono ?_
      rintro e w3 ⟨rfl, hb3⟩
      have hb3' := below_via HB2.out hb3 HB2.out.size
      have HBV := Lib.hid (below_via HBW.out hb3' HBW.out.size)
      have HK0 := Lib.hid (has_below hb3' H0.out)
      have HK1 := Lib.hid (has_below hb3' H1.out)
      have HRW := Lib.hid (row_below hb3' HOWN.out)
      have HKD := Lib.hid (RKidsIn.below (HKW.out.below hb3') (Below.refl _ _).drew)
      have HKV := Lib.hid (HKW.out.below hb3')
      have HID := Lib.hid (IntsIn.below (HIN.out.below hb3') (Below.refl _ _).drew)
      have k1 := (has_below hb3' H1.out).cells
      have l1 := (has_below hb3' H1.out).lt
      have hsz3 := hb3'.size
      clear hb3 hb3' HB2 HBW H0 H1 HOWN HKW HIN
      rcases Int.lt_or_le F 0 with c3 | c3
      · rw [if_neg (by omega)] at HFIN
        have K0 := HK0.out
        have K1 := HK1.out
        have l0 := K0.lt
        have o0 : Old w3 w.heap.size := l0
        have o1 : Old w3 (w.heap.size + 1) := l1
        have d5 : decide (0 ≤ F) = false := by simp; omega
        rw [← ov_self K1]
        rw [← ov_self K0]
        clear K0 K1 k1 HK0 HK1 HKD HKV HID
        cases ot <;> cases ob
        · go_wp2_with fail
          refine bodyPost_ret (by simp [results, Try.results26, go_sem, l0, l1, o0, o1]; try rfl) rfl ?_
          exact ⟨by have q := HBV.out; (repeat' (first | (with_reducible exact Below.refl _ _) | (with_reducible assumption) | (with_reducible refine below_from_drew ?_) | (with_reducible refine Below.alloc ?_ ?_ _) | (with_reducible refine Below.drew ?_) | (with_reducible refine below_drewN ?_ _) | (with_reducible refine Below.setCell ?_ ?_ _) | (with_reducible refine below_via ?_ (by assumption) ?_) | (with_reducible refine below_ov ?_ ?_ _ _) | go_size)), .inl ⟨⟨ys, max (U + D) 0, 0, 0, 0, 0, false⟩, al, ca, by rw [HFIN.out]; simp, by simp [HYL.out], ints_rowN HYL.out.symm (row_in (row_in HRW.out (by omega)) (by omega))⟩⟩
        · go_wp2_with fail
          refine bodyPost_ret (by simp [results, Try.results26, go_sem, l0, l1, o0, o1]; try rfl) rfl ?_
          exact ⟨by have q := HBV.out; (repeat' (first | (with_reducible exact Below.refl _ _) | (with_reducible assumption) | (with_reducible refine below_from_drew ?_) | (with_reducible refine Below.alloc ?_ ?_ _) | (with_reducible refine Below.drew ?_) | (with_reducible refine below_drewN ?_ _) | (with_reducible refine Below.setCell ?_ ?_ _) | (with_reducible refine below_via ?_ (by assumption) ?_) | (with_reducible refine below_ov ?_ ?_ _ _) | go_size)), .inl ⟨⟨ys, 0, 0, 0, U, D, false⟩, al, ca, by rw [HFIN.out]; simp, by simp [HYL.out], ints_rowN HYL.out.symm (row_in (row_in HRW.out (by omega)) (by omega))⟩⟩
        · go_wp2_with fail
          refine bodyPost_ret (by simp [results, Try.results26, go_sem, l0, l1, o0, o1]; try rfl) rfl ?_
          exact ⟨by have q := HBV.out; (repeat' (first | (with_reducible exact Below.refl _ _) | (with_reducible assumption) | (with_reducible refine below_from_drew ?_) | (with_reducible refine Below.alloc ?_ ?_ _) | (with_reducible refine Below.drew ?_) | (with_reducible refine below_drewN ?_ _) | (with_reducible refine Below.setCell ?_ ?_ _) | (with_reducible refine below_via ?_ (by assumption) ?_) | (with_reducible refine below_ov ?_ ?_ _ _) | go_size)), .inl ⟨⟨ys, 0, U, D, 0, 0, false⟩, al, ca, by rw [HFIN.out]; simp, by simp [HYL.out], ints_rowN HYL.out.symm (row_in (row_in HRW.out (by omega)) (by omega))⟩⟩
        · go_wp2_with fail
          refine bodyPost_ret (by simp [results, Try.results26, go_sem, l0, l1, o0, o1]; try rfl) rfl ?_
          exact ⟨by have q := HBV.out; (repeat' (first | (with_reducible exact Below.refl _ _) | (with_reducible assumption) | (with_reducible refine below_from_drew ?_) | (with_reducible refine Below.alloc ?_ ?_ _) | (with_reducible refine Below.drew ?_) | (with_reducible refine below_drewN ?_ _) | (with_reducible refine Below.setCell ?_ ?_ _) | (with_reducible refine below_via ?_ (by assumption) ?_) | (with_reducible refine below_ov ?_ ?_ _ _) | go_size)), .inl ⟨⟨ys, 0, U, D, 0, 0, true⟩, al, ca, by rw [HFIN.out]; simp, by simp [HYL.out], ints_rowN HYL.out.symm (row_in (row_in HRW.out (by omega)) (by omega))⟩⟩
      · have hl0 : 0 ≤ lastF ks i := by omega
        have hlast := fun W h => rlast_any a cap ks i W (by rw [HN.out]; omega) (by rw [HN.out]; omega) h
        rw [HN.out] at hlast
        have HLA := Lib.hid hlast
        clear hlast
        cases hen : endR ks ys (lastF ks i) with
        | none =>
          have hend := fun w h1 h2 => rend_z (a := a) (ay := al) (cap := cap) (cy := ca) hen li1 (by rw [HYL.out]; exact li2) (by rw [HYL.out, HN.out]; omega) (by rw [HN.out]; omega) HG.out HYI.out w h1 h2
          rw [HN.out, HYL.out] at hend
          simp only [Option.getD_none, Option.isSome_none, Bool.false_eq_true, if_false] at hend
          have HEN := Lib.hid hend
          have HNO := Lib.hid (show stackR ks ot ob = none by rw [HFIN.out, if_pos c3, hen]; rfl)
          clear hend hen
          go_wp2_with fail
          refine region_ord [(0, 0), (1, 0), (2, 0), (3, 0), (4, 0), (5, 0), (6, 1), (7, 1), (8, 0), (9, 0), (10, 0), (11, 0), (12, 0)] (by kernel_rfl) (by kernel_rfl) (fun _ _ d _ _ h => by cases d <;> exact h) (fun hS => ?_)
          (refine wpG_read (v := ?_) rfl (.inl ⟨by rfl, fun wx hbx => ?_⟩) ?_; rotate_left; (focus (obtain ⟨cx0, fx0, zx0⟩ := bk hbx (w.heap.size + 1) (by first | omega | (simp; done) | (simp; omega)); go_simp; (try go_bits); (try with_reducible rfl))); try simp only [Act.put, List.setIfInBounds_toArray, List.set_cons_zero, List.set_cons_succ])
          (refine wpG_read (v := ?_) rfl (.inl ⟨by rfl, fun wx hbx => ?_⟩) ?_; rotate_left; (focus (obtain ⟨cx0, fx0, zx0⟩ := bk hbx (w.heap.size + 1) (by first | omega | (simp; done) | (simp; omega)); go_simp; (try go_bits); (try with_reducible rfl))); try simp only [Act.put, List.setIfInBounds_toArray, List.set_cons_zero, List.set_cons_succ])
          (refine wpG_read (v := ?_) rfl (.inl ⟨by rfl, fun wx hbx => ?_⟩) ?_; rotate_left; (focus (obtain ⟨cx0, fx0, zx0⟩ := bk hbx (w.heap.size + 1) (by first | omega | (simp; done) | (simp; omega)); go_simp; (try go_bits); (try with_reducible rfl))); try simp only [Act.put, List.setIfInBounds_toArray, List.set_cons_zero, List.set_cons_succ])
          (refine wpG_read (v := ?_) rfl (.inl ⟨by rfl, fun wx hbx => ?_⟩) ?_; rotate_left; (focus (obtain ⟨cx0, fx0, zx0⟩ := bk hbx (w.heap.size + 1) (by first | omega | (simp; done) | (simp; omega)); go_simp; (try go_bits); (try with_reducible rfl))); try simp only [Act.put, List.setIfInBounds_toArray, List.set_cons_zero, List.set_cons_succ])
          (refine wpG_read (v := ?_) rfl (.inl ⟨by rfl, fun wx hbx => ?_⟩) ?_; rotate_left; (focus (obtain ⟨cx0, fx0, zx0⟩ := bk hbx (w.heap.size + 1) (by first | omega | (simp; done) | (simp; omega)); go_simp; (try go_bits); (try with_reducible rfl))); try simp only [Act.put, List.setIfInBounds_toArray, List.set_cons_zero, List.set_cons_succ])
          (refine wpG_read (v := ?_) rfl (.inl ⟨by rfl, fun wx hbx => ?_⟩) ?_; rotate_left; (focus (obtain ⟨cx0, fx0, zx0⟩ := bk hbx (w.heap.size + 1) (by first | omega | (simp; done) | (simp; omega)); go_simp; (try go_bits); (try with_reducible rfl))); try simp only [Act.put, List.setIfInBounds_toArray, List.set_cons_zero, List.set_cons_succ])
          (refine wpG_make rfl (fun K hK => ?_); go_simp; (go_at_call 74; (with_reducible refine (HLA.out _ HKD.out).mono ?_); rintro e w1 ⟨rfl, rfl⟩); (try simp only []); refine hK _ _ ?_ (fun hS2 => ?_); (focus ((repeat' (first | (with_reducible exact Below.refl _ _) | (with_reducible assumption) | (with_reducible refine below_from_drew ?_) | (with_reducible refine Below.alloc ?_ ?_ _) | (with_reducible refine Below.drew ?_) | (with_reducible refine below_drewN ?_ _) | (with_reducible refine Below.setCell ?_ ?_ _) | (with_reducible refine below_via ?_ (by assumption) ?_) | (with_reducible refine below_ov ?_ ?_ _ _) | go_size)); done)); clear hK K hS; have hS := hS2; clear hS2; (try clear hb); try simp only [Act.put, List.setIfInBounds_toArray, List.set_cons_zero, List.set_cons_succ])
          (refine wpG_make rfl (fun K hK => ?_); go_simp; (go_at_call 77; (with_reducible refine (HEN.out _ HKD.out HID.out).mono ?_); rintro e w4 ⟨rfl, hb⟩; have hz := hb.size; refine (fun hB => ?_ : Below w3.heap.size w3 w4 → _) ?_; rotate_left; (focus ((repeat' (first | (with_reducible exact Below.refl _ _) | (with_reducible assumption) | (with_reducible refine below_from_drew ?_) | (with_reducible refine Below.alloc ?_ ?_ _) | (with_reducible refine Below.drew ?_) | (with_reducible refine below_drewN ?_ _) | (with_reducible refine Below.setCell ?_ ?_ _) | (with_reducible refine below_via ?_ (by assumption) ?_) | (with_reducible refine below_ov ?_ ?_ _ _) | go_size)); done)); (try simp only [World.size_alloc, World.size_setCell, World.size_drew, ov_size] at hz)); (try simp only []); refine hK _ _ ?_ (fun hS2 => ?_); (focus ((repeat' (first | (with_reducible exact Below.refl _ _) | (with_reducible assumption) | (with_reducible refine below_from_drew ?_) | (with_reducible refine Below.alloc ?_ ?_ _) | (with_reducible refine Below.drew ?_) | (with_reducible refine below_drewN ?_ _) | (with_reducible refine Below.setCell ?_ ?_ _) | (with_reducible refine below_via ?_ (by assumption) ?_) | (with_reducible refine below_ov ?_ ?_ _ _) | go_size)); done)); clear hK K hS; have hS := hS2; clear hS2; (try clear hb); try simp only [Act.put, List.setIfInBounds_toArray, List.set_cons_zero, List.set_cons_succ])
          (refine wpG_read (v := ?_) rfl (.inl ⟨by rfl, fun wx hbx => ?_⟩) ?_; rotate_left; (focus (obtain ⟨cx0, fx0, zx0⟩ := bk hbx (w.heap.size + 1) (by first | omega | (simp; done) | (simp; omega)); go_simp; (try go_bits); (try with_reducible rfl))); try simp only [Act.put, List.setIfInBounds_toArray, List.set_cons_zero, List.set_cons_succ])
          (refine wpG_read (v := ?_) rfl (.inl ⟨by rfl, fun wx hbx => ?_⟩) ?_; rotate_left; (focus (obtain ⟨cx0, fx0, zx0⟩ := bk hbx (w.heap.size + 1) (by first | omega | (simp; done) | (simp; omega)); go_simp; (try go_bits); (try with_reducible rfl))); try simp only [Act.put, List.setIfInBounds_toArray, List.set_cons_zero, List.set_cons_succ])
          (refine wpG_read (v := ?_) rfl (.inl ⟨by rfl, fun wx hbx => ?_⟩) ?_; rotate_left; (focus (obtain ⟨cx0, fx0, zx0⟩ := bk hbx (w.heap.size + 1) (by first | omega | (simp; done) | (simp; omega)); go_simp; (try go_bits); (try with_reducible rfl))); try simp only [Act.put, List.setIfInBounds_toArray, List.set_cons_zero, List.set_cons_succ])
          (refine wpG_read (v := ?_) rfl (.inl ⟨by rfl, fun wx hbx => ?_⟩) ?_; rotate_left; (focus (obtain ⟨cx0, fx0, zx0⟩ := bk hbx (w.heap.size + 1) (by first | omega | (simp; done) | (simp; omega)); go_simp; (try go_bits); (try with_reducible rfl))); try simp only [Act.put, List.setIfInBounds_toArray, List.set_cons_zero, List.set_cons_succ])
          (refine wpG_read (v := ?_) rfl (.inl ⟨by rfl, fun wx hbx => ?_⟩) ?_; rotate_left; (focus (obtain ⟨cx0, fx0, zx0⟩ := bk hbx (w.heap.size + 1) (by first | omega | (simp; done) | (simp; omega)); go_simp; (try go_bits); (try with_reducible rfl))); try simp only [Act.put, List.setIfInBounds_toArray, List.set_cons_zero, List.set_cons_succ])
          refine wpG_nil ?_
          clear k1 l1
          have hE := below_via HBV.out hB HBV.out.size
          have K0 := has_below hB HK0.out
          have l0 := K0.lt
          have o0 : Old w4 w.heap.size := l0
          have HE := Lib.hid hE
          rw [← ov_self K0]
          clear K0 hB hE
          go_wp2_with fail
          refine bodyPost_ret (by simp [results, Try.results26, go_sem, l0, o0]; try rfl) rfl ?_
          exact ⟨by have q := HE.out; (repeat' (first | (with_reducible exact Below.refl _ _) | (with_reducible assumption) | (with_reducible refine below_from_drew ?_) | (with_reducible refine Below.alloc ?_ ?_ _) | (with_reducible refine Below.drew ?_) | (with_reducible refine below_drewN ?_ _) | (with_reducible refine Below.setCell ?_ ?_ _) | (with_reducible refine below_via ?_ (by assumption) ?_) | (with_reducible refine below_ov ?_ ?_ _ _) | go_size)), .inr ⟨HNO.out, rfl⟩⟩
        | some h0 =>
          have hei := endR_in hen
          have hend := fun w h1 h2 => rend_z (a := a) (ay := al) (cap := cap) (cy := ca) hen li1 (by rw [HYL.out]; exact li2) (by rw [HYL.out, HN.out]; omega) (by rw [HN.out]; omega) HG.out HYI.out w h1 h2
          rw [HN.out, HYL.out] at hend
          simp only [Option.getD_some, Option.isSome_some, if_true] at hend
          have HEN := Lib.hid hend
          rw [if_pos c3, hen] at HFIN
          clear hend hen
          go_wp2_with fail
          refine region_ord [(0, 0), (1, 0), (2, 0), (3, 0), (4, 0), (5, 0), (6, 1), (7, 1), (8, 0), (9, 0), (10, 0), (11, 0), (12, 0)] (by kernel_rfl) (by kernel_rfl) (fun _ _ d _ _ h => by cases d <;> exact h) (fun hS => ?_)
          (refine wpG_read (v := ?_) rfl (.inl ⟨by rfl, fun wx hbx => ?_⟩) ?_; rotate_left; (focus (obtain ⟨cx0, fx0, zx0⟩ := bk hbx (w.heap.size + 1) (by first | omega | (simp; done) | (simp; omega)); go_simp; (try go_bits); (try with_reducible rfl))); try simp only [Act.put, List.setIfInBounds_toArray, List.set_cons_zero, List.set_cons_succ])
          (refine wpG_read (v := ?_) rfl (.inl ⟨by rfl, fun wx hbx => ?_⟩) ?_; rotate_left; (focus (obtain ⟨cx0, fx0, zx0⟩ := bk hbx (w.heap.size + 1) (by first | omega | (simp; done) | (simp; omega)); go_simp; (try go_bits); (try with_reducible rfl))); try simp only [Act.put, List.setIfInBounds_toArray, List.set_cons_zero, List.set_cons_succ])
          (refine wpG_read (v := ?_) rfl (.inl ⟨by rfl, fun wx hbx => ?_⟩) ?_; rotate_left; (focus (obtain ⟨cx0, fx0, zx0⟩ := bk hbx (w.heap.size + 1) (by first | omega | (simp; done) | (simp; omega)); go_simp; (try go_bits); (try with_reducible rfl))); try simp only [Act.put, List.setIfInBounds_toArray, List.set_cons_zero, List.set_cons_succ])
          (refine wpG_read (v := ?_) rfl (.inl ⟨by rfl, fun wx hbx => ?_⟩) ?_; rotate_left; (focus (obtain ⟨cx0, fx0, zx0⟩ := bk hbx (w.heap.size + 1) (by first | omega | (simp; done) | (simp; omega)); go_simp; (try go_bits); (try with_reducible rfl))); try simp only [Act.put, List.setIfInBounds_toArray, List.set_cons_zero, List.set_cons_succ])
          (refine wpG_read (v := ?_) rfl (.inl ⟨by rfl, fun wx hbx => ?_⟩) ?_; rotate_left; (focus (obtain ⟨cx0, fx0, zx0⟩ := bk hbx (w.heap.size + 1) (by first | omega | (simp; done) | (simp; omega)); go_simp; (try go_bits); (try with_reducible rfl))); try simp only [Act.put, List.setIfInBounds_toArray, List.set_cons_zero, List.set_cons_succ])
          (refine wpG_read (v := ?_) rfl (.inl ⟨by rfl, fun wx hbx => ?_⟩) ?_; rotate_left; (focus (obtain ⟨cx0, fx0, zx0⟩ := bk hbx (w.heap.size + 1) (by first | omega | (simp; done) | (simp; omega)); go_simp; (try go_bits); (try with_reducible rfl))); try simp only [Act.put, List.setIfInBounds_toArray, List.set_cons_zero, List.set_cons_succ])
          (refine wpG_make rfl (fun K hK => ?_); go_simp; (go_at_call 74; (with_reducible refine (HLA.out _ HKD.out).mono ?_); rintro e w1 ⟨rfl, rfl⟩); (try simp only []); refine hK _ _ ?_ (fun hS2 => ?_); (focus ((repeat' (first | (with_reducible exact Below.refl _ _) | (with_reducible assumption) | (with_reducible refine below_from_drew ?_) | (with_reducible refine Below.alloc ?_ ?_ _) | (with_reducible refine Below.drew ?_) | (with_reducible refine below_drewN ?_ _) | (with_reducible refine Below.setCell ?_ ?_ _) | (with_reducible refine below_via ?_ (by assumption) ?_) | (with_reducible refine below_ov ?_ ?_ _ _) | go_size)); done)); clear hK K hS; have hS := hS2; clear hS2; (try clear hb); try simp only [Act.put, List.setIfInBounds_toArray, List.set_cons_zero, List.set_cons_succ])
          (refine wpG_make rfl (fun K hK => ?_); go_simp; (go_at_call 77; (with_reducible refine (HEN.out _ HKD.out HID.out).mono ?_); rintro e w4 ⟨rfl, hb⟩; have hz := hb.size; refine (fun hB => ?_ : Below w3.heap.size w3 w4 → _) ?_; rotate_left; (focus ((repeat' (first | (with_reducible exact Below.refl _ _) | (with_reducible assumption) | (with_reducible refine below_from_drew ?_) | (with_reducible refine Below.alloc ?_ ?_ _) | (with_reducible refine Below.drew ?_) | (with_reducible refine below_drewN ?_ _) | (with_reducible refine Below.setCell ?_ ?_ _) | (with_reducible refine below_via ?_ (by assumption) ?_) | (with_reducible refine below_ov ?_ ?_ _ _) | go_size)); done)); (try simp only [World.size_alloc, World.size_setCell, World.size_drew, ov_size] at hz)); (try simp only []); refine hK _ _ ?_ (fun hS2 => ?_); (focus ((repeat' (first | (with_reducible exact Below.refl _ _) | (with_reducible assumption) | (with_reducible refine below_from_drew ?_) | (with_reducible refine Below.alloc ?_ ?_ _) | (with_reducible refine Below.drew ?_) | (with_reducible refine below_drewN ?_ _) | (with_reducible refine Below.setCell ?_ ?_ _) | (with_reducible refine below_via ?_ (by assumption) ?_) | (with_reducible refine below_ov ?_ ?_ _ _) | go_size)); done)); clear hK K hS; have hS := hS2; clear hS2; (try clear hb); try simp only [Act.put, List.setIfInBounds_toArray, List.set_cons_zero, List.set_cons_succ])
          (refine wpG_read (v := ?_) rfl (.inl ⟨by rfl, fun wx hbx => ?_⟩) ?_; rotate_left; (focus (obtain ⟨cx0, fx0, zx0⟩ := bk hbx (w.heap.size + 1) (by first | omega | (simp; done) | (simp; omega)); go_simp; (try go_bits); (try with_reducible rfl))); try simp only [Act.put, List.setIfInBounds_toArray, List.set_cons_zero, List.set_cons_succ])
          (refine wpG_read (v := ?_) rfl (.inl ⟨by rfl, fun wx hbx => ?_⟩) ?_; rotate_left; (focus (obtain ⟨cx0, fx0, zx0⟩ := bk hbx (w.heap.size + 1) (by first | omega | (simp; done) | (simp; omega)); go_simp; (try go_bits); (try with_reducible rfl))); try simp only [Act.put, List.setIfInBounds_toArray, List.set_cons_zero, List.set_cons_succ])
          (refine wpG_read (v := ?_) rfl (.inl ⟨by rfl, fun wx hbx => ?_⟩) ?_; rotate_left; (focus (obtain ⟨cx0, fx0, zx0⟩ := bk hbx (w.heap.size + 1) (by first | omega | (simp; done) | (simp; omega)); go_simp; (try go_bits); (try with_reducible rfl))); try simp only [Act.put, List.setIfInBounds_toArray, List.set_cons_zero, List.set_cons_succ])
          (refine wpG_read (v := ?_) rfl (.inl ⟨by rfl, fun wx hbx => ?_⟩) ?_; rotate_left; (focus (obtain ⟨cx0, fx0, zx0⟩ := bk hbx (w.heap.size + 1) (by first | omega | (simp; done) | (simp; omega)); go_simp; (try go_bits); (try with_reducible rfl))); try simp only [Act.put, List.setIfInBounds_toArray, List.set_cons_zero, List.set_cons_succ])
          (refine wpG_read (v := ?_) rfl (.inl ⟨by rfl, fun wx hbx => ?_⟩) ?_; rotate_left; (focus (obtain ⟨cx0, fx0, zx0⟩ := bk hbx (w.heap.size + 1) (by first | omega | (simp; done) | (simp; omega)); go_simp; (try go_bits); (try with_reducible rfl))); try simp only [Act.put, List.setIfInBounds_toArray, List.set_cons_zero, List.set_cons_succ])
          refine wpG_nil ?_
          clear k1 l1
          have HK4 := Lib.hid (has_below hB HK0.out)
          have HK5 := Lib.hid (has_below hB HK1.out)
          have HR4 := Lib.hid (row_below hB HRW.out)
          have HB4 := Lib.hid (below_via HBV.out hB HBV.out.size)
          have HKK := Lib.hid (HKV.out.below hB)
          clear hB HK0 HK1 HRW HBV hS
          have K0 := HK4.out
          have K1 := HK5.out
          have l0 := K0.lt
          have l1 := K1.lt
          have o0 : Old w4 w.heap.size := l0
          have o1 : Old w4 (w.heap.size + 1) := l1
          simp only [Option.bind_some] at HFIN
          have hhin : inL h0 := hei
          obtain ⟨f, rfl⟩ : ∃ f : Nat, F = f := ⟨F.toNat, by omega⟩
          simp only [Int.toNat_natCast] at HTU HTD
          have hme2 := fun W h => rmeet_any a cap ks f (f + 1) W (by rw [HN.out]; omega) (.inr ⟨rfl, by rw [HN.out]; omega⟩) (by rw [HN.out]; omega) h
          rw [HN.out] at hme2
          have HME2 := Lib.hid hme2
          clear hme2
          rcases ob with _ | _
          · cases hs2 : sumZ h0 (U + D) with
            | none =>
              have hsum2 := fun w => rsum_z hs2 hei (by omega) w
              simp only [Option.getD_none, Option.isSome_none, Bool.false_eq_true, if_false] at hsum2
              have HS2 := Lib.hid hsum2
              have HNO := Lib.hid (show stackR ks ot false = none by rw [HFIN.out, if_neg (by simp), hs2]; rfl)
              clear hsum2 hs2 HFIN
              go_wp2_with fail
              refine (HS2.out _).mono ?_
              rintro e w5 ⟨rfl, hb5⟩
              have HE := Lib.hid (below_via HB4.out hb5 HB4.out.size)
              have HR5 := Lib.hid (row_below hb5 HR4.out)
              have K0 := has_below hb5 HK4.out
              have K1 := has_below hb5 HK5.out
              have l0 := K0.lt
              have l1 := K1.lt
              have o0 : Old w5 w.heap.size := l0
              have o1 : Old w5 (w.heap.size + 1) := l1
              clear hb5
              rw [← ov_self K1]
              rw [← ov_self K0]
              clear K0 K1 HK4 HK5
              go_wp2_with fail
              refine bodyPost_ret (by simp [results, Try.results26, go_sem, l0, l1, o0, o1]; try rfl) rfl ?_
              exact ⟨by have q := HE.out; (repeat' (first | (with_reducible exact Below.refl _ _) | (with_reducible assumption) | (with_reducible refine below_from_drew ?_) | (with_reducible refine Below.alloc ?_ ?_ _) | (with_reducible refine Below.drew ?_) | (with_reducible refine below_drewN ?_ _) | (with_reducible refine Below.setCell ?_ ?_ _) | (with_reducible refine below_via ?_ (by assumption) ?_) | (with_reducible refine below_ov ?_ ?_ _ _) | go_size)), .inr ⟨HNO.out, rfl⟩⟩
            | some h1 =>
              have hsum2 := fun w => rsum_z hs2 hei (by omega) w
              simp only [Option.getD_some, Option.isSome_some, if_true] at hsum2
              have HS2 := Lib.hid hsum2
              clear hsum2
              go_wp2_with fail
              refine (HS2.out _).mono ?_
              rintro e w5 ⟨rfl, hb5⟩
              have HE := Lib.hid (below_via HB4.out hb5 HB4.out.size)
              have HR5 := Lib.hid (row_below hb5 HR4.out)
              have K0 := has_below hb5 HK4.out
              have K1 := has_below hb5 HK5.out
              have l0 := K0.lt
              have l1 := K1.lt
              have o0 : Old w5 w.heap.size := l0
              have o1 : Old w5 (w.heap.size + 1) := l1
              clear hb5
              cases ot
              · have HFF := Lib.hid (show stackR ks false false = some ⟨ys, max (h1) 0, 0, 0, 0, 0, false⟩ by rw [HFIN.out, HTU.out, HTD.out]; simp [hs2])
                rw [← ov_self K1]
                rw [← ov_self K0]
                clear K0 K1 HK4 HK5
                go_wp2_with fail
                refine bodyPost_ret (by simp [results, Try.results26, go_sem, l0, l1, o0, o1]; try rfl) rfl ?_
                exact ⟨by have q := HE.out; (repeat' (first | (with_reducible exact Below.refl _ _) | (with_reducible assumption) | (with_reducible refine below_from_drew ?_) | (with_reducible refine Below.alloc ?_ ?_ _) | (with_reducible refine Below.drew ?_) | (with_reducible refine below_drewN ?_ _) | (with_reducible refine Below.setCell ?_ ?_ _) | (with_reducible refine below_via ?_ (by assumption) ?_) | (with_reducible refine below_ov ?_ ?_ _ _) | go_size)), .inl ⟨⟨ys, max (h1) 0, 0, 0, 0, 0, false⟩, al, ca, HFF.out, by simp [HYL.out], ints_rowN HYL.out.symm (row_in (row_in HR5.out (by omega)) (by omega))⟩⟩
              · have HFF := Lib.hid (show stackR ks true false = some ⟨ys, max (h1) 0, max (mwu ks f (f + 1)) 0, min (mwd ks f (f + 1)) 0, 0, 0, false⟩ by rw [HFIN.out, HTU.out, HTD.out]; simp [hs2])
                rw [← ov_self K1]
                clear K1 HK4 HK5
                go_wp2_with fail
                refine (HME2.out _ (HK.out.below (by have q := HE.out; (repeat' (first | (with_reducible exact Below.refl _ _) | (with_reducible assumption) | (with_reducible refine below_from_drew ?_) | (with_reducible refine Below.alloc ?_ ?_ _) | (with_reducible refine Below.drew ?_) | (with_reducible refine below_drewN ?_ _) | (with_reducible refine Below.setCell ?_ ?_ _) | (with_reducible refine below_via ?_ (by assumption) ?_) | (with_reducible refine below_ov ?_ ?_ _ _) | go_size))))).mono ?_
                rintro e w6 ⟨rfl, hb6⟩
                have X0 := has_below hb6 (has_ov_other (by omega) K0)
                have X1 := has_below hb6 (has_ov_same l1)
                have HR6 := Lib.hid (row_below hb6 (row_in HR5.out (by omega)))
                have HB6 := Lib.hid (show Below w.heap.size w w6 from below_via (by have q := HE.out; (repeat' (first | (with_reducible exact Below.refl _ _) | (with_reducible assumption) | (with_reducible refine below_from_drew ?_) | (with_reducible refine Below.alloc ?_ ?_ _) | (with_reducible refine Below.drew ?_) | (with_reducible refine below_drewN ?_ _) | (with_reducible refine Below.setCell ?_ ?_ _) | (with_reducible refine below_via ?_ (by assumption) ?_) | (with_reducible refine below_ov ?_ ?_ _ _) | go_size))) hb6 (by rw [ov_size]; omega))
                have l0 := X0.lt
                have l1 := X1.lt
                have o0 : Old w6 w.heap.size := l0
                have o1 : Old w6 (w.heap.size + 1) := l1
                generalize max (mwu ks f (f + 1)) 0 = U2 at *
                generalize min (mwd ks f (f + 1)) 0 = D2 at *
                rw [← ov_self X1]
                rw [← ov_self X0]
                clear X0 X1 K0 hb6
                go_wp2_with fail
                refine bodyPost_ret (by simp [results, Try.results26, go_sem, l0, l1, o0, o1]; try rfl) rfl ?_
                exact ⟨by have q := HB6.out; (repeat' (first | (with_reducible exact Below.refl _ _) | (with_reducible assumption) | (with_reducible refine below_from_drew ?_) | (with_reducible refine Below.alloc ?_ ?_ _) | (with_reducible refine Below.drew ?_) | (with_reducible refine below_drewN ?_ _) | (with_reducible refine Below.setCell ?_ ?_ _) | (with_reducible refine below_via ?_ (by assumption) ?_) | (with_reducible refine below_ov ?_ ?_ _ _) | go_size)), .inl ⟨⟨ys, max (h1) 0, U2, D2, 0, 0, false⟩, al, ca, HFF.out, by simp [HYL.out], ints_rowN HYL.out.symm (row_in (row_in HR6.out (by omega)) (by omega))⟩⟩
          · cases ot
            · have HFF := Lib.hid (show stackR ks false true = some ⟨ys, max (h0) 0, 0, 0, U, D, false⟩ by rw [HFIN.out, HTU.out, HTD.out]; simp)
              rw [← ov_self K1]
              rw [← ov_self K0]
              clear K0 K1 HK4 HK5
              go_wp2_with fail
              refine bodyPost_ret (by simp [results, Try.results26, go_sem, l0, l1, o0, o1]; try rfl) rfl ?_
              exact ⟨by have q := HB4.out; (repeat' (first | (with_reducible exact Below.refl _ _) | (with_reducible assumption) | (with_reducible refine below_from_drew ?_) | (with_reducible refine Below.alloc ?_ ?_ _) | (with_reducible refine Below.drew ?_) | (with_reducible refine below_drewN ?_ _) | (with_reducible refine Below.setCell ?_ ?_ _) | (with_reducible refine below_via ?_ (by assumption) ?_) | (with_reducible refine below_ov ?_ ?_ _ _) | go_size)), .inl ⟨⟨ys, max (h0) 0, 0, 0, U, D, false⟩, al, ca, HFF.out, by simp [HYL.out], ints_rowN HYL.out.symm (row_in (row_in HR4.out (by omega)) (by omega))⟩⟩
            · have HFF := Lib.hid (show stackR ks true true = some ⟨ys, max (h0) 0, max (mwu ks f (f + 1)) 0, min (mwd ks f (f + 1)) 0, U, D, false⟩ by rw [HFIN.out, HTU.out, HTD.out]; simp)
              rw [← ov_self K1]
              clear K1 HK4 HK5
              go_wp2_with fail
              refine (HME2.out _ (HK.out.below (by have q := HB4.out; (repeat' (first | (with_reducible exact Below.refl _ _) | (with_reducible assumption) | (with_reducible refine below_from_drew ?_) | (with_reducible refine Below.alloc ?_ ?_ _) | (with_reducible refine Below.drew ?_) | (with_reducible refine below_drewN ?_ _) | (with_reducible refine Below.setCell ?_ ?_ _) | (with_reducible refine below_via ?_ (by assumption) ?_) | (with_reducible refine below_ov ?_ ?_ _ _) | go_size))))).mono ?_
              rintro e w6 ⟨rfl, hb6⟩
              have X0 := has_below hb6 (has_ov_other (by omega) K0)
              have X1 := has_below hb6 (has_ov_same l1)
              have HR6 := Lib.hid (row_below hb6 (row_in HR4.out (by omega)))
              have HB6 := Lib.hid (show Below w.heap.size w w6 from below_via (by have q := HB4.out; (repeat' (first | (with_reducible exact Below.refl _ _) | (with_reducible assumption) | (with_reducible refine below_from_drew ?_) | (with_reducible refine Below.alloc ?_ ?_ _) | (with_reducible refine Below.drew ?_) | (with_reducible refine below_drewN ?_ _) | (with_reducible refine Below.setCell ?_ ?_ _) | (with_reducible refine below_via ?_ (by assumption) ?_) | (with_reducible refine below_ov ?_ ?_ _ _) | go_size))) hb6 (by rw [ov_size]; omega))
              have l0 := X0.lt
              have l1 := X1.lt
              have o0 : Old w6 w.heap.size := l0
              have o1 : Old w6 (w.heap.size + 1) := l1
              generalize max (mwu ks f (f + 1)) 0 = U2 at *
              generalize min (mwd ks f (f + 1)) 0 = D2 at *
              rw [← ov_self X1]
              rw [← ov_self X0]
              clear X0 X1 K0 hb6
              go_wp2_with fail
              refine bodyPost_ret (by simp [results, Try.results26, go_sem, l0, l1, o0, o1]; try rfl) rfl ?_
              exact ⟨by have q := HB6.out; (repeat' (first | (with_reducible exact Below.refl _ _) | (with_reducible assumption) | (with_reducible refine below_from_drew ?_) | (with_reducible refine Below.alloc ?_ ?_ _) | (with_reducible refine Below.drew ?_) | (with_reducible refine below_drewN ?_ _) | (with_reducible refine Below.setCell ?_ ?_ _) | (with_reducible refine below_via ?_ (by assumption) ?_) | (with_reducible refine below_ov ?_ ?_ _ _) | go_size)), .inl ⟨⟨ys, max (h0) 0, U2, D2, U, D, false⟩, al, ca, HFF.out, by simp [HYL.out], ints_rowN HYL.out.symm (row_in (row_in HR6.out (by omega)) (by omega))⟩⟩
end Go.Proofs.Ytbjmncgfbdkidaa
