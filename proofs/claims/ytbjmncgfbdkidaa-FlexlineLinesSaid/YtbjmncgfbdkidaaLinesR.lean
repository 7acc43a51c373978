/- ref18.Lines. -/
import Derived.Test.YtbjmncgfbdkidaaSizeR
namespace Go.Proofs.Ytbjmncgfbdkidaa
open Go.RowKit
set_option linter.unusedSimpArgs false
set_option linter.unusedVariables false
-- below_from_drew
attribute [local go_sem] ov_cell_same ov_cell_other ov_frozen_same ov_frozen_other ov_size ov_setCell_same ov_setCell_other cell_alloc_old frozen_alloc_old setCell_alloc_old old_alloc old_ov old_drew old_drewN old_setCell
attribute [local go_sem ↓] run_max2 run_min2

/-- The lines from an item on that begins a line. -/
def startF (av gap : Int) (xs : List Int) (fr : Nat) : Option (List (Nat × Nat)) :=
  if fr < xs.length then (ofF (xs.getD fr 0)).bind fun m => linesF av gap fr m (fr + 1) (xs.drop (fr + 1)) else some []
theorem start_zero {av gap : Int} {xs : List Int} (h : 0 < xs.length) : linesF av gap 0 0 0 xs = startF av gap xs 0 := by
  cases xs with
  | nil => simp at h
  | cons x r =>
    unfold startF
    rw [if_pos h, linesF, if_pos rfl]
    show _ = (ofF x).bind fun m => linesF av gap 0 m 1 r
    cases ofF x <;> rfl
theorem addF_append : ∀ (l r : List Int) (s : Int), addF s (l ++ r) = (addF s l).bind fun z => addF z r
  | [], r, s => rfl
  | x :: l, r, s => by
    simp only [List.cons_append, addF]
    split
    · exact addF_append l r _
    · rfl
theorem addF_cut {s : Int} (h : inL s) (r : List Int) : addF 0 (s :: r) = addF s r := by
  rw [addF_exact (by unfold inL; omega), Int.zero_add, if_pos h]
theorem lst_one {xs : List Int} {gap : Int} {fr : Nat} : addF 0 (lstF xs gap fr 1) = ofF (xs.getD fr 0) := by
  have : lstF xs gap fr 1 = [xs.getD fr 0] := by simp [lstF]
  rw [this, addF_exact (by unfold inL; omega), Int.zero_add]
  unfold ofF
  rfl
theorem lst_more {xs : List Int} {gap s : Int} {fr tt : Nat} (hf : fr < tt) (h : addF 0 (lstF xs gap fr (tt - fr)) = some s) : addF 0 (lstF xs gap fr (tt + 1 - fr)) = addF 0 [s, gap, xs.getD tt 0] := by
  have hs : inL s := addF_in _ 0 s (by unfold inL; omega) h
  have : lstF xs gap fr (tt + 1 - fr) = lstF xs gap fr (tt - fr) ++ [gap, xs.getD tt 0] := by
    rw [show tt + 1 - fr = (tt - fr) + 1 by omega]
    simp only [lstF]
    rw [if_pos (by omega), show fr + (tt - fr) = tt by omega]
    simp
  rw [this, addF_append, h, addF_cut hs]
  rfl
theorem lines_end {av gap s : Int} {xs : List Int} {fr : Nat} : linesF av gap fr s xs.length [] = (startF av gap xs xs.length).map ((fr, xs.length) :: ·) := by
  unfold startF; rw [if_neg (by omega)]; rfl
theorem lines_break {av gap s more : Int} {xs : List Int} {fr tt : Nat} (hf : fr < tt) (ht : tt < xs.length) (h : addF 0 [s, gap, xs.getD tt 0] = some more) (hc : av < more) : linesF av gap fr s tt (xs.drop tt) = (startF av gap xs tt).map ((fr, tt) :: ·) := by
  rw [drop_cons ht, linesF, if_neg (by omega), h]
  dsimp only
  rw [if_pos hc]
  unfold startF
  rw [if_pos ht]
  cases ofF (xs.getD tt 0) <;> rfl
theorem lines_more {av gap s more : Int} {xs : List Int} {fr tt : Nat} (hf : fr < tt) (ht : tt < xs.length) (h : addF 0 [s, gap, xs.getD tt 0] = some more) (hc : more ≤ av) : linesF av gap fr s tt (xs.drop tt) = linesF av gap fr more (tt + 1) (xs.drop (tt + 1)) := by
  rw [drop_cons ht, linesF, if_neg (by omega), h]
  dsimp only
  rw [if_neg (by omega)]
theorem lines_none {av gap s : Int} {xs : List Int} {fr tt : Nat} (hf : fr < tt) (ht : tt < xs.length) (h : addF 0 [s, gap, xs.getD tt 0] = none) : linesF av gap fr s tt (xs.drop tt) = none := by
  rw [drop_cons ht, linesF, if_neg (by omega), h]
/-- What is handed back. -/
def RefL (w : World) (o : Option (List (Nat × Nat))) (e : Ending) (w' : World) : Prop :=
  Below w.heap.size w w' ∧ ((∃ L a c, o = some L ∧ e = .returned (.tuple #[.slice a L.length c, .int .i64 0]) ∧ PairR w' a L) ∨ (o = none ∧ e = .returned (.tuple #[.slice none 0 0, .int .i64 2])))
theorem size_is {a : Option Addr} {cap : Nat} {xs : List Int} {f t : Nat} {gap : Int} {o : Option Int} (ho : addF 0 (lstF xs gap f (t - f)) = o) (hft : f ≤ t) (ht : t ≤ xs.length) (hn : xs.length ≤ 1000) (hg : -9223372036854775808 ≤ gap ∧ gap ≤ 9223372036854775807) (hx : ∀ x ∈ xs, -9223372036854775808 ≤ x ∧ x ≤ 9223372036854775807) (w : World) (hr : IntsIn w a xs) :
    Calls Try.prog 83 #[.slice a xs.length cap, .int .i64 (f : Int), .int .i64 (t : Int), .int .i64 gap] w fun e w' => e = .returned (.tuple #[.int .i64 (o.getD 0), .int .i64 (if o.isSome = true then 0 else 2)]) ∧ Below w.heap.size w w' := by
  have h := size_any a cap xs f t gap w hft ht hn hg hx hr
  have e1 : raN (lstF xs gap f (t - f)) = o.getD 0 := by unfold raN; rw [ho]
  have e2 : raE (lstF xs gap f (t - f)) = (if o.isSome = true then 0 else 2) := by unfold raE; rw [ho]; cases o <;> rfl
  rw [e1, e2] at h
  exact h
set_option maxRecDepth 100000 in
set_option maxHeartbeats 4000000 in
theorem rlines_any (a : Option Addr) (cap : Nat) (xs : List Int) (av gap : Int) (w : World) (h0 : 0 < xs.length) (hn : xs.length ≤ 1000) (hg : -9223372036854775808 ≤ gap ∧ gap ≤ 9223372036854775807) (hx : ∀ x ∈ xs, -9223372036854775808 ≤ x ∧ x ≤ 9223372036854775807) (hr : IntsIn w a xs) :
    Calls Try.prog 34 #[.slice a xs.length cap, .int .i64 av, .int .i64 gap, .bool true] w (RefL w (linesF av gap 0 0 0 xs)) := by
  obtain ⟨i0, hi, hz0, hz1, hz2⟩ := info_parts infoP2
  rw [start_zero h0]
  have HX := Lib.hid hx; have HG := Lib.hid hg; have HR := Lib.hid hr
  clear hx hg hr
  generalize hlen : xs.length = n at *
  have HN := Lib.hid hlen; clear hlen
  have n1 : ((n : Int) == 0) = false := by simp; omega
  go_enter Try.func34, Try.ntmps34
  go_wp2_with fail
  go_loopw [10, 11] (fun out fv wr => ∃ (fr : Nat) (done : List (Nat × Nat)) (al : Option Addr) (ca : Nat), fr ≤ n ∧ done.length ≤ fr ∧ fv = .int .i64 (fr : Int) ∧ out = .slice al done.length ca ∧ wr.ownsRow w.heap.size 75 2 (.slice al done.length ca) done.length (cells2 done) ∧ startF av gap xs 0 = (startF av gap xs fr).map (done ++ ·) ∧ Below w.heap.size w wr) (fun _ fv _ => n - (intOf fv).toNat)
  case atStart => exact ⟨0, [], none, 0, by omega, by simp, rfl, rfl, World.ownsRow_nil _ _ _ _, by simp, Below.refl _ _⟩
  case round =>
    obtain ⟨fr, done, al, ca, hfn, hdl, rfl, rfl, hown, heq, hbw⟩ := hrel
    have hsz := hbw.size
    have HOWN := Lib.hid hown; have HEQ := Lib.hid heq; have HBW := Lib.hid hbw
    clear hown heq
    rcases Nat.lt_or_ge fr n with c1 | c1
    · have d1 : (fr : Int) < n := by omega
      have hst : startF av gap xs fr = (ofF (xs.getD fr 0)).bind fun m => linesF av gap fr m (fr + 1) (xs.drop (fr + 1)) := by unfold startF; rw [if_pos (by rw [HN.out]; exact c1)]
      cases ho : ofF (xs.getD fr 0) with
      | none =>
        have hs := fun w h => size_is (a := a) (cap := cap) (xs := xs) (f := fr) (t := fr + 1) (gap := gap) (o := none) (by rw [show fr + 1 - fr = 1 by omega, lst_one, ho]) (by omega) (by rw [HN.out]; omega) (by rw [HN.out]; exact hn) HG.out HX.out w h
        rw [HN.out] at hs
        simp only [Option.getD_none, Option.isSome_none, Bool.false_eq_true, if_false] at hs
        have HS := Lib.hid hs
        rw [hst, ho] at HEQ
        clear hs hst ho hbw
        go_wp2_with fail
        refine (HS.out _ (HR.out.below HBW.out)).mono ?_
        rintro e w1 ⟨rfl, hb1⟩
        have H1 := Lib.hid (below_via HBW.out hb1 HBW.out.size)
        clear hb1
        go_wp2_with fail
        go_ret2
        exact ⟨H1.out, .inr ⟨by rw [HEQ.out]; rfl, rfl⟩⟩
      | some m =>
        have hl1 : addF 0 (lstF xs gap fr (fr + 1 - fr)) = some m := by rw [show fr + 1 - fr = 1 by omega, lst_one, ho]
        have hs := fun w h => size_is (a := a) (cap := cap) (xs := xs) (f := fr) (t := fr + 1) (gap := gap) hl1 (by omega) (by rw [HN.out]; omega) (by rw [HN.out]; exact hn) HG.out HX.out w h
        rw [HN.out] at hs
        simp only [Option.getD_some, Option.isSome_some, if_true] at hs
        have HS := Lib.hid hs; have HL1 := Lib.hid hl1
        rw [ho] at hst
        have HST := Lib.hid hst
        clear hs hst ho hbw hl1
        go_wp2_with fail
        refine (HS.out _ (HR.out.below HBW.out)).mono ?_
        rintro e w1 ⟨rfl, hb1⟩
        have HB1 := Lib.hid hb1
        clear hb1
        have HO1 := Lib.hid (row_below HB1.out HOWN.out)
        have HBW1 := Lib.hid (below_via HBW.out HB1.out HBW.out.size)
        have HR1 := Lib.hid ((HR.out.below HBW.out).below HB1.out)
        have hsz1 := HB1.out.size
        clear HOWN HBW HR HB1 HS
        go_wp2_with fail
        go_loopw [12] (fun tv wr => ∃ (tt : Nat) (s : Int), fr < tt ∧ tt ≤ n ∧ tv = .int .i64 (tt : Int) ∧ addF 0 (lstF xs gap fr (tt - fr)) = some s ∧ startF av gap xs fr = linesF av gap fr s tt (xs.drop tt) ∧ Below w1.heap.size w1 wr) (fun tv _ => n - (intOf tv).toNat)
        case atStart => exact ⟨fr + 1, m, by omega, by omega, by go_num, HL1.out, HST.out, Below.refl _ _⟩
        case round =>
          obtain ⟨tt, s, htf, htn, rfl, hl, hst, hbv⟩ := hrel
          have HL := Lib.hid hl; have HST2 := Lib.hid hst
          have hszv := hbv.size
          have HBV := Lib.hid (below_via HBW1.out hbv HBW1.out.size)
          have HOW2 := Lib.hid (row_below hbv HO1.out)
          have HR2 := Lib.hid (HR1.out.below hbv)
          have hszw := HBV.out.size
          have HB0 := Lib.hid hbv
          clear hl hst hbv HL1 HST
          rcases Nat.lt_or_ge tt n with c2 | c2
          · have d2 : (tt : Int) < n := by omega
            have hlm := lst_more htf HL.out
            cases ho : addF 0 [s, gap, xs.getD tt 0] with
            | none =>
              have hs := fun w h => size_is (a := a) (cap := cap) (xs := xs) (f := fr) (t := tt + 1) (gap := gap) (o := none) (by rw [hlm, ho]) (by omega) (by rw [HN.out]; omega) (by rw [HN.out]; exact hn) HG.out HX.out w h
              rw [HN.out] at hs
              simp only [Option.getD_none, Option.isSome_none, Bool.false_eq_true, if_false] at hs
              have HS := Lib.hid hs
              have HLN := Lib.hid (lines_none (av := av) htf (by rw [HN.out]; exact c2) ho)
              clear hs ho hlm
              go_wp2_with fail
              refine (HS.out _ HR2.out).mono ?_
              rintro e w4 ⟨rfl, hb4⟩
              have H4 := Lib.hid (below_via HBV.out hb4 HBV.out.size)
              clear hb4
              go_wp2_with fail
              go_ret2
              exact ⟨H4.out, .inr ⟨by rw [HEQ.out, HST2.out, HLN.out]; rfl, rfl⟩⟩
            | some more =>
              have hl4 : addF 0 (lstF xs gap fr (tt + 1 - fr)) = some more := by rw [hlm, ho]
              have hs := fun w h => size_is (a := a) (cap := cap) (xs := xs) (f := fr) (t := tt + 1) (gap := gap) hl4 (by omega) (by rw [HN.out]; omega) (by rw [HN.out]; exact hn) HG.out HX.out w h
              rw [HN.out] at hs
              simp only [Option.getD_some, Option.isSome_some, if_true] at hs
              have HS := Lib.hid hs; have HL4 := Lib.hid hl4
              rcases Int.lt_or_le av more with c3 | c3
              · have HLB := Lib.hid (HST2.out.trans (lines_break (av := av) htf (by rw [HN.out]; exact c2) ho c3))
                clear hs hl4 ho hlm
                go_wp2_with fail
                refine (HS.out _ HR2.out).mono ?_
                rintro e w4 ⟨rfl, hb4⟩
                have HOW3 := Lib.hid (row_below hb4 HOW2.out)
                have H4 := Lib.hid (below_via HBV.out hb4 HBV.out.size)
                have hsz4 := hb4.size
                clear hb4
                go_wp2_with (at_builtin; refine wpList_append_own _ rfl _ _ 72 rfl w.heap.size 75 i0 (.agg #[.int .i64 0, .int .i64 0]) 2 16 Try.underlying72 hi hz0 hz1 hz2 rfl (by decide) _ _ _ rfl (HOW3.out.alloc _) ⟨w4.heap.size, 0, none⟩ 1 1 [.int .i64 ((fr : Int)), .int .i64 ((tt : Int))] rfl rfl ?pa1 ?pa2 ?pa3 ?pa4 ?pa5 ?_)
                case pa1 => exact news_at (by simp)
                case pa2 => exact one_of rfl
                case pa3 => unfold maxLen; omega
                case pa4 => omega
                case pa5 => simp; omega
                intro v' w2 hown' hgrow hnil
                clear hnil
                have hB2 : Below w.heap.size w w2 := Below.grown (by have q := H4.out; (repeat' (first | (with_reducible exact Below.refl _ _) | (with_reducible assumption) | (with_reducible refine below_from_drew ?_) | (with_reducible refine Below.alloc ?_ ?_ _) | (with_reducible refine Below.drew ?_) | (with_reducible refine below_drewN ?_ _) | (with_reducible refine Below.setCell ?_ ?_ _) | (with_reducible refine below_via ?_ (by assumption) ?_) | (with_reducible refine below_ov ?_ ?_ _ _) | go_size))) hgrow (by simp; omega) (fun bb h => row_block HOW3.out bb h)
                obtain ⟨al', ca', rfl, hcc, _⟩ := row_reads hown'
                have HO2 := Lib.hid hown'; have HB2 := Lib.hid hB2
                clear hown' hB2 hgrow
                go_wp2_with fail
                go_roundw
                case rel => exact ⟨tt, done ++ [(fr, tt)], al', ca', by omega, by simp; omega, rfl, by simp, by rw [List.length_append, cells2_snoc]; exact HO2.out, by rw [HEQ.out, HLB.out, Option.map_map]; congr 1; funext q; simp, HB2.out⟩
                case measure => simp [intOf]; omega
              · have HLM := Lib.hid (HST2.out.trans (lines_more (av := av) htf (by rw [HN.out]; exact c2) ho c3))
                clear hs hl4 ho hlm
                go_wp2_with fail
                refine (HS.out _ HR2.out).mono ?_
                rintro e w4 ⟨rfl, hb4⟩
                have H4 := Lib.hid ((fun q => q) (hb4))
                clear hb4
                have c4 : ¬ av < more := by omega
                go_wp2_with fail
                go_roundw
                case rel => exact ⟨tt + 1, more, by omega, by omega, by go_num, HL4.out, HLM.out, below_via HB0.out H4.out (by omega)⟩
                case measure => simp [intOf]; omega
          · obtain rfl : tt = n := by omega
            have d2 : decide ((tt : Int) < tt) = false := by simp
            have hnil : xs.drop tt = [] := List.drop_eq_nil_of_le (by rw [HN.out]; omega)
            have hlb := HST2.out
            rw [hnil] at hlb
            have hle := lines_end (av := av) (gap := gap) (s := s) (xs := xs) (fr := fr)
            rw [HN.out] at hle
            have HLB := Lib.hid (hlb.trans hle)
            clear hnil hlb hle
            go_wp2_with (at_builtin; refine wpList_append_own _ rfl _ _ 72 rfl w.heap.size 75 i0 (.agg #[.int .i64 0, .int .i64 0]) 2 16 Try.underlying72 hi hz0 hz1 hz2 rfl (by decide) _ _ _ rfl (HOW2.out.alloc _) ⟨wr.heap.size, 0, none⟩ 1 1 [.int .i64 ((fr : Int)), .int .i64 ((tt : Int))] rfl rfl ?pb1 ?pb2 ?pb3 ?pb4 ?pb5 ?_)
            case pb1 => exact news_at (by simp)
            case pb2 => exact one_of rfl
            case pb3 => unfold maxLen; omega
            case pb4 => omega
            case pb5 => simp; omega
            intro v' w2 hown' hgrow hnil
            clear hnil
            have hB2 : Below w.heap.size w w2 := Below.grown (by have q := HBV.out; (repeat' (first | (with_reducible exact Below.refl _ _) | (with_reducible assumption) | (with_reducible refine below_from_drew ?_) | (with_reducible refine Below.alloc ?_ ?_ _) | (with_reducible refine Below.drew ?_) | (with_reducible refine below_drewN ?_ _) | (with_reducible refine Below.setCell ?_ ?_ _) | (with_reducible refine below_via ?_ (by assumption) ?_) | (with_reducible refine below_ov ?_ ?_ _ _) | go_size))) hgrow (by simp; omega) (fun bb h => row_block HOW2.out bb h)
            obtain ⟨al', ca', rfl, hcc, _⟩ := row_reads hown'
            have HO2 := Lib.hid hown'; have HB2 := Lib.hid hB2
            clear hown' hB2 hgrow
            go_wp2_with fail
            go_roundw
            case rel => exact ⟨tt, done ++ [(fr, tt)], al', ca', by omega, by simp; omega, rfl, by simp, by rw [List.length_append, cells2_snoc]; exact HO2.out, by rw [HEQ.out, HLB.out, Option.map_map]; congr 1; funext q; simp, HB2.out⟩
            case measure => simp [intOf]; omega
    · obtain rfl : fr = n := by omega
      have d1 : decide ((fr : Int) < fr) = false := by simp
      have hst : startF av gap xs fr = some [] := by unfold startF; rw [if_neg (by rw [HN.out]; omega)]
      rw [hst] at HEQ
      have HB := Lib.hid (pair_row HOWN.out rfl)
      clear hst hbw
      go_wp2_with fail
      go_ret2
      exact ⟨HBW.out, .inl ⟨done, al, ca, by rw [HEQ.out]; simp, rfl, HB.out⟩⟩
end Go.Proofs.Ytbjmncgfbdkidaa
