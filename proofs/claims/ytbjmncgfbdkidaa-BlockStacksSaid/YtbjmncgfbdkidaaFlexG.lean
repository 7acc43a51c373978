/- The law FlexlineGreedy, walked. -/
import Derived.Test.YtbjmncgfbdkidaaSortC
import Derived.Test.YtbjmncgfbdkidaaFlexP
import Derived.Test.YtbjmncgfbdkidaaWrap
namespace Go.Proofs.Ytbjmncgfbdkidaa
open Go.RowKit
set_option linter.unusedSimpArgs false
set_option linter.unusedVariables false
-- below_from_drew
attribute [local go_sem] ov_cell_same ov_cell_other ov_frozen_same ov_frozen_other ov_size ov_setCell_same ov_setCell_other cell_alloc_old frozen_alloc_old setCell_alloc_old old_alloc old_ov old_drew old_drewN old_setCell
attribute [local go_sem ↓] run_max2 run_min2

theorem try_ok3 (F : FuncId) (cap : Array Value) (w : World) (R : World → Prop) (hF : ∀ W, (callFunc F cap).run Try.prog W = .ok (.enter F cap) W) (h : Calls Try.prog F cap (w.alloc (.cells #[.int .i64 0] 52)) fun e w' => e = .returned (.tuple #[]) ∧ R w') (hR : ∀ w', R w' → Has w' w.heap.size #[.int .i64 0] 52) :
    Calls Try.prog 23 #[.func (Fn.func F) #[] cap] w fun e w' => e = .returned (.int .i64 0) ∧ R w' := by
  refine (try_ok F cap w R hF h hR).mono ?_
  rintro e w' ⟨rfl, w1, hr, rfl⟩
  have := ov_self (hR _ hr)
  refine ⟨rfl, ?_⟩
  rw [← this, ov_setCell_same]
  simpa [this] using hr
/-- No items: no lines. -/
theorem lines_nil (a : Option Addr) (cap : Nat) (av gap : Int) (wrp : Bool) (w : World) : Calls Try.prog 82 #[.slice a 0 cap, .int .i64 av, .int .i64 gap, .bool wrp] w fun e w' => e = .returned (.slice none 0 0) ∧ w = w' := by
  go_enter Try.func82, Try.ntmps82
  go_wp2_with fail
  go_ret
  exact ⟨rfl, rfl⟩
set_option maxRecDepth 100000 in
theorem ln_nil (b0 b1 b2 b3 bn : Nat) (a : Option Addr) (cap : Nat) (av gap : Int) (wrp : Bool) (w : World)
    (h0 : Has w b0 #[.slice a 0 cap] 47) (h1 : Has w b1 #[.int .i64 av] 2) (h2 : Has w b2 #[.int .i64 gap] 2) (h3 : Has w b3 #[.bool wrp] 4) (h4 : Has w bn #[.slice none 0 0] 72) :
    Calls Try.prog 81 #[.pointer (some ⟨b0, 0, none⟩), .pointer (some ⟨b1, 0, none⟩), .pointer (some ⟨b2, 0, none⟩), .pointer (some ⟨b3, 0, none⟩), .pointer (some ⟨bn, 0, none⟩)] w fun e w' => e = .returned (.tuple #[]) ∧ w' = w := by
  have c0 := h0.cells; have c1 := h1.cells; have c2 := h2.cells; have c3 := h3.cells
  have H4 := Lib.hid h4; have l4 := h4.lt
  clear h0 h1 h2 h3 h4
  go_enter Try.func81, Try.ntmps81
  go_wp2_with fail
  refine (lines_nil _ _ _ _ _ _).mono ?_
  rintro e w1 ⟨rfl, rfl⟩
  have hs := ov_self H4.out
  have HS := Lib.hid hs
  rw [← hs]; clear hs
  go_wp2_with fail
  go_end0
  exact ⟨rfl, HS.out⟩
set_option maxRecDepth 100000 in
theorem l18_nil (a : Option Addr) (cap : Nat) (av gap : Int) (wrp : Bool) (w : World) :
    Calls Try.prog 33 #[.slice a 0 cap, .int .i64 av, .int .i64 gap, .bool wrp] w fun e w' => e = .returned (.tuple #[.slice none 0 0, .int .i64 0]) ∧ Below w.heap.size w w' := by
  go_enter Try.func33, Try.ntmps33
  go_wp2_with fail
  refine (try_ok3 81 _ _ _ (fun W => by kernel_rfl) (ln_nil w.heap.size (w.heap.size + 1) (w.heap.size + 1 + 1) (w.heap.size + 1 + 1 + 1) (w.heap.size + 1 + 1 + 1 + 1) a cap av gap wrp _ (by (repeat' (first | (with_reducible refine has_drew ?_) | (with_reducible refine has_drewN ?_) | (with_reducible refine has_new ?_; (first | (with_reducible rfl) | omega | (simp; done) | (simp; omega))) | (with_reducible refine has_ov_same ?_; (first | (with_reducible rfl) | omega | (simp; done) | (simp; omega))) | (with_reducible refine has_alloc ?_) | (with_reducible refine has_ov_other ?_ ?_; (focus (first | (with_reducible rfl) | omega | (simp; done) | (simp; omega)))) | (with_reducible assumption)))) (by (repeat' (first | (with_reducible refine has_drew ?_) | (with_reducible refine has_drewN ?_) | (with_reducible refine has_new ?_; (first | (with_reducible rfl) | omega | (simp; done) | (simp; omega))) | (with_reducible refine has_ov_same ?_; (first | (with_reducible rfl) | omega | (simp; done) | (simp; omega))) | (with_reducible refine has_alloc ?_) | (with_reducible refine has_ov_other ?_ ?_; (focus (first | (with_reducible rfl) | omega | (simp; done) | (simp; omega)))) | (with_reducible assumption)))) (by (repeat' (first | (with_reducible refine has_drew ?_) | (with_reducible refine has_drewN ?_) | (with_reducible refine has_new ?_; (first | (with_reducible rfl) | omega | (simp; done) | (simp; omega))) | (with_reducible refine has_ov_same ?_; (first | (with_reducible rfl) | omega | (simp; done) | (simp; omega))) | (with_reducible refine has_alloc ?_) | (with_reducible refine has_ov_other ?_ ?_; (focus (first | (with_reducible rfl) | omega | (simp; done) | (simp; omega)))) | (with_reducible assumption)))) (by (repeat' (first | (with_reducible refine has_drew ?_) | (with_reducible refine has_drewN ?_) | (with_reducible refine has_new ?_; (first | (with_reducible rfl) | omega | (simp; done) | (simp; omega))) | (with_reducible refine has_ov_same ?_; (first | (with_reducible rfl) | omega | (simp; done) | (simp; omega))) | (with_reducible refine has_alloc ?_) | (with_reducible refine has_ov_other ?_ ?_; (focus (first | (with_reducible rfl) | omega | (simp; done) | (simp; omega)))) | (with_reducible assumption)))) (by (repeat' (first | (with_reducible refine has_drew ?_) | (with_reducible refine has_drewN ?_) | (with_reducible refine has_new ?_; (first | (with_reducible rfl) | omega | (simp; done) | (simp; omega))) | (with_reducible refine has_ov_same ?_; (first | (with_reducible rfl) | omega | (simp; done) | (simp; omega))) | (with_reducible refine has_alloc ?_) | (with_reducible refine has_ov_other ?_ ?_; (focus (first | (with_reducible rfl) | omega | (simp; done) | (simp; omega)))) | (with_reducible assumption))))) ?_).mono ?_
  · rintro w' rfl
    exact has_new rfl
  rintro e w1 ⟨rfl, rfl⟩
  go_wp2_with fail
  go_ret2
  exact ⟨rfl, by (repeat' (first | (with_reducible exact Below.refl _ _) | (with_reducible assumption) | (with_reducible refine below_from_drew ?_) | (with_reducible refine Below.alloc ?_ ?_ _) | (with_reducible refine Below.drew ?_) | (with_reducible refine below_drewN ?_ _) | (with_reducible refine Below.setCell ?_ ?_ _) | (with_reducible refine below_via ?_ (by assumption) ?_) | (with_reducible refine below_ov ?_ ?_ _ _) | go_size))⟩
def ints64 (ys : List Int) : List Value := ys.map (Value.int .i64)
theorem ints64_snoc (ys : List Int) (y : Int) : ints64 (ys ++ [y]) = ints64 ys ++ [.int .i64 y] := by simp [ints64]
theorem infoI64 : (Try.prog.info? 2).map (fun i => (i.zero, i.size, i.bytes)) = some (some (.int .i64 0), 1, 8) := by kernel_rfl
theorem take_snocI {xs : List Int} {k m : Nat} (h : k < xs.length) (hm : k < m) : (xs.take m).take (k + 1) = (xs.take m).take k ++ [xs.getD k 0] := by
  rw [List.take_succ_eq_append_getElem (by simp; omega)]; simp [h]
theorem wf16 {x : Int} (h : (Lit.int .u16 x).wf = true) : 0 ≤ x ∧ x ≤ 65535 := by
  simpa [Lit.wf, IntKind.min, IntKind.max, IntKind.bits, IntKind.signed] using h
set_option maxRecDepth 100000 in
set_option maxHeartbeats 4000000 in
theorem greedy_any (a : Option Addr) (cap : Nat) (xs : List Int) (av gap : Int) (w : World) (hx : RowIn .u16 w a xs) (h1 : (Lit.int .u16 av).wf = true) (h2 : (Lit.int .u16 gap).wf = true) :
    Calls Try.prog 9 #[.slice a xs.length cap, .int .u16 av, .int .u16 gap] w fun e w' => e = .returned (.bool true) ∧ Below w.heap.size w w' := by
  obtain ⟨i0, hi, hz0, hz1, hz2⟩ := info_parts infoI64
  obtain ⟨hx1, hx2, hx3⟩ := hx
  have hav := wf16 h1; have hgap := wf16 h2
  clear h1 h2
  obtain ⟨av1, av2⟩ := hav; obtain ⟨gp1, gp2⟩ := hgap
  have HX3 := Lib.hid hx3
  have hxb : ∀ x ∈ xs.take 60, 0 ≤ x ∧ x ≤ 65535 := fun x hx => wf16 (hx2 x (List.mem_of_mem_take hx))
  have htk := fun k h1 h2 => take_snocI (xs := xs) (k := k) (m := 60) h1 h2
  have hyl : (xs.take 60).length = min 60 xs.length := by simp
  have hxk : ∀ k, k < xs.length → 0 ≤ xs.getD k 0 ∧ xs.getD k 0 ≤ 65535 := fun k hk => by
    have := wf16 (hx2 _ (List.getElem_mem hk))
    simpa [List.getD_eq_getElem?_getD, hk] using this
  clear hx2 hx3
  obtain ⟨ys, hys⟩ : ∃ ys, ys = xs.take 60 := ⟨_, rfl⟩
  rw [← hys] at hxb hyl
  simp only [← hys] at htk
  have HXB := Lib.hid hxb; have HTK := Lib.hid htk; have HYL := Lib.hid hyl; have HXK := Lib.hid hxk
  clear hxb htk hyl hys hxk
  generalize hlen : xs.length = n at *
  have HN := Lib.hid hlen; clear hlen
  go_enter Try.func9, Try.ntmps9
  go_wp2_with fail
  refine (speaks18_any _).mono ?_
  rintro e ua ⟨rfl, hba⟩
  have hsa := hba.size
  have HBA := Lib.hid hba
  clear hba
  go_wp2_with fail
  go_loopw [7, 8] (fun sl i wr => ∃ (k : Nat) (al : Option Addr) (ca : Nat), k ≤ n ∧ k ≤ 60 ∧ k ≤ ca ∧ sl = .slice al k ca ∧ i = .int .i64 (k : Int) ∧ Below w.heap.size w wr ∧ wr.ownsRow w.heap.size 2 1 (.slice al k ca) k (ints64 (ys.take k))) (fun _ i _ => n - (intOf i).toNat)
  case atStart => exact ⟨0, none, 0, Nat.zero_le _, by omega, by omega, rfl, rfl, HBA.out, World.ownsRow_nil _ _ _ _⟩
  case round =>
    obtain ⟨k, al, ca, hkn, hk60, hkc, rfl, rfl, hbw, hown⟩ := hrel
    have HOWN := Lib.hid hown; have HBW := Lib.hid hbw
    have hsz := hbw.size
    by_cases c0 : k < n ∧ k < 60
    · obtain ⟨c1, c2⟩ := c0
      obtain ⟨b, off, rfl, hbl, hcs⟩ := HX3.out (by omega)
      have g0 := (hbw.cell (p := ⟨b, off + k, none⟩) hbl).trans (hcs k c1)
      have htk := HTK.out k c1 c2
      have HTK2 := Lib.hid htk
      have hxk := HXK.out k c1
      clear hcs htk HTK hown hbw
      generalize xs.getD k 0 = x at *
      obtain ⟨x1, x2⟩ := hxk
      have d1 : (k : Int) < n := by omega
      have d2 : (k : Int) < 60 := by omega
      have hbr : b < wr.heap.size := by omega
      go_wp2_with (at_builtin; refine wpList_append_own _ rfl _ _ 47 rfl w.heap.size 2 i0 (.int .i64 0) 1 8 Try.underlying47 hi hz0 hz1 hz2 rfl (by decide) _ _ _ rfl (HOWN.out.alloc _) ⟨wr.heap.size, 0, none⟩ 1 1 [.int .i64 x] rfl rfl ?p1 ?p2 ?p3 ?p4 ?p5 ?_)
      case p1 => exact news_at (by simp)
      case p2 => exact one_of rfl
      case p3 => unfold maxLen; omega
      case p4 => omega
      case p5 => simp; omega
      intro v' w2 hown' hgrow hnil
      clear hnil
      have hB2 : Below w.heap.size w w2 := Below.grown (by have q := HBW.out; (repeat' (first | (with_reducible exact Below.refl _ _) | (with_reducible assumption) | (with_reducible refine below_from_drew ?_) | (with_reducible refine Below.alloc ?_ ?_ _) | (with_reducible refine Below.drew ?_) | (with_reducible refine below_drewN ?_ _) | (with_reducible refine Below.setCell ?_ ?_ _) | (with_reducible refine below_via ?_ (by assumption) ?_) | (with_reducible refine below_ov ?_ ?_ _ _) | go_size))) hgrow (by simp; omega) (fun bb h => row_block HOWN.out bb h)
      obtain ⟨al', ca', rfl, hcc, _⟩ := row_reads hown'
      have HO2 := Lib.hid hown'; have HB2 := Lib.hid hB2
      clear hown' hB2 hgrow
      go_wp2_with fail
      go_roundw
      case rel => exact ⟨k + 1, al', ca', by omega, by omega, hcc, rfl, by go_num, HB2.out, by rw [HTK2.out, ints64_snoc]; exact HO2.out⟩
      case measure => simp [intOf]; omega
    · have hkk : k = ys.length := by rw [HYL.out]; omega
      have htake : ys.take k = ys := List.take_of_length_le (by omega)
      rw [htake] at hown
      have d2 : ((n : Int) ≤ k ∨ ((k : Int) < n ∧ (60 : Int) ≤ k)) := by omega
      have HOWN2 := Lib.hid hown
      have HKK := Lib.hid hkk
      clear hown hbw HOWN htake c0 hkk
      go_upto_region 5 with fail
      go_cut [25] (fun s wx => s = .bool false ∧ wx = wr)
      case first =>
        rcases d2 with d2 | ⟨d2, d3⟩
        all_goals
          go_wp2_with fail
          go_meet
          exact ⟨by first | rfl | (simp; omega), rfl⟩
      case rest =>
        obtain ⟨rfl, hwc⟩ := hcut
        obtain rfl : wr = wc := hwc.symm
        clear d2
        rcases Nat.eq_zero_or_pos k with rfl | hk0
        · go_wp2_with fail
          refine (l18_nil _ _ _ _ _ _).mono ?_
          rintro e w3 ⟨rfl, hb3⟩
          have HB3 := Lib.hid (below_via HBW.out hb3 HBW.out.size)
          clear hb3
          go_wp2_with fail
          refine wp_loop_rounds 1 ?_
          rw [rounds_succ]; go_wp2_with fail
          go_ret
          exact ⟨rfl, HB3.out⟩
        · obtain rfl := HKK.out
          obtain ⟨al2, ca2, hv, _, _, hrd⟩ := row_reads HOWN2.out
          cases hv
          obtain ⟨g, rfl, _, hg, hcs⟩ := hrd hk0
          obtain ⟨L, hL, hch, hL0, hL60⟩ := lines_greedy (xs := ys) (av := av) (gap := gap) HXB.out ⟨gp1, gp2⟩ (by omega) hk0
          have hcell : ∀ i, i < ys.length → wr.cell? ⟨g, i, none⟩ = some (.int .i64 (ys.getD i 0)) := fun i hi => hcs i _ (by simp [ints64, hi])
          have HL := Lib.hid hL; have HCH := Lib.hid hch; have HCE := Lib.hid hcell
          clear hcs hrd hL hch hcell HKK HOWN2
          go_wp2_with fail
          refine (l18_ok g 0 ca ys av gap HL.out wr hk0 (by omega) hg hkc (fun i hi => by rw [Nat.zero_add]; exact HCE.out i hi)).mono ?_
          rintro e w3 ⟨a3, c3, rfl, hp, hb3⟩
          obtain ⟨gq, rfl, hgq, hpr⟩ := hp hL0
          have hg3 : g < w3.heap.size := by have := hb3.size; omega
          have hc3 : ∀ i, i < ys.length → w3.cell? ⟨g, i, none⟩ = some (.int .i64 (ys.getD i 0)) := fun i hi => (hb3.cell (p := ⟨g, i, none⟩) hg).trans (HCE.out i hi)
          have HB3 := Lib.hid (below_via HBW.out hb3 HBW.out.size)
          have HC3 := Lib.hid hc3; have HPR := Lib.hid hpr
          clear hb3 hc3 hpr HCE HL hp
          generalize hml : L.length = m at *
          have HML := Lib.hid hml; clear hml
          generalize hyn : ys.length = ny at *
          have HYN := Lib.hid hyn; clear hyn
          go_wp2_with fail
          go_loopw [11, 12] (fun atv iv wr => ∃ (j f : Nat), j ≤ m ∧ atv = .int .i64 (f : Int) ∧ iv = .int .i64 (j : Int) ∧ ChainL ys av gap f (L.drop j) ∧ Below w3.heap.size w3 wr) (fun _ iv _ => m - (intOf iv).toNat)
          case atStart => exact ⟨0, 0, Nat.zero_le _, rfl, rfl, HCH.out, Below.refl _ _⟩
          case round =>
            obtain ⟨j, f, hj, rfl, rfl, hch, hbv⟩ := hrel
            have hsv := hbv.size
            have HBV := Lib.hid hbv
            rcases Nat.lt_or_ge j m with c1 | c1
            · have hjl : j < L.length := by rw [HML.out]; exact c1
              rw [List.drop_eq_getElem_cons hjl] at hch
              have hpj : L.getD j (0, 0) = L[j] := by simp [List.getD_eq_getElem?_getD, hjl]
              rw [← hpj] at hch
              obtain ⟨e1, e2⟩ := HPR.out j c1
              replace e1 := (hbv.cell (p := ⟨gq, _, none⟩) hgq).trans e1
              replace e2 := (hbv.cell (p := ⟨gq, _, none⟩) hgq).trans e2
              have hc4 : ∀ i, i < ny → wr.cell? ⟨g, i, none⟩ = some (.int .i64 (ys.getD i 0)) := fun i hi => (hbv.cell (p := ⟨g, i, none⟩) hg3).trans (HC3.out i hi)
              have HC4 := Lib.hid hc4
              clear hc4 hpj hjl hbv
              generalize L.getD j (0, 0) = p at *
              obtain ⟨f', t⟩ := p
              obtain ⟨hpf, hft, htn, hok, hrest⟩ := hch
              dsimp only at hpf hft htn hok hrest e1 e2
              subst hpf
              rw [HYN.out] at htn
              obtain ⟨ok1, ok2⟩ := hok
              dsimp only at ok1 ok2
              rw [HYN.out] at ok2
              have HOK1 := Lib.hid ok1; have HOK2 := Lib.hid ok2; have HREST := Lib.hid hrest
              clear ok1 ok2 hrest
              have d1 : (j : Int) < m := by omega
              have d2 : decide ((t : Int) ≤ f') = false := by simp; omega
              have d3 : decide ((ny : Int) < t) = false := by simp; omega
              have lq : gq < wr.heap.size := by omega
              have lg : g < wr.heap.size := by omega
              have hsm := smF_in (xs := ys) (gap := gap) HXB.out ⟨gp1, gp2⟩ f'
              have HSM := Lib.hid hsm; clear hsm
              have HYB := Lib.hid (fun i (hi : i < ny) => HXB.out (ys.getD i 0) (by simp only [List.getD_eq_getElem?_getD, List.getElem?_eq_getElem (show i < ys.length by rw [HYN.out]; exact hi), Option.getD_some]; exact List.getElem_mem _))
              go_wp2_with fail
              go_loop [14, 15] (fun sv kv => ∃ d : Nat, f' + d ≤ t ∧ sv = .int .i64 (smF ys gap f' d) ∧ kv = .int .i64 ((f' + d : Nat) : Int)) (fun _ kv => t - (intOf kv).toNat)
              case atStart => exact ⟨0, by omega, rfl, rfl⟩
              case round =>
                obtain ⟨d, hd, rfl, rfl⟩ := hrel
                obtain ⟨sb1, sb2⟩ := HSM.out d
                rcases Nat.lt_or_ge (f' + d) t with c2 | c2
                · have e3 := HC4.out (f' + d) (by omega)
                  obtain ⟨yb1, yb2⟩ := HYB.out (f' + d) (by omega)
                  have hsb : smF ys gap f' d ≤ 10000000 := by omega
                  clear sb2
                  have hnext : smF ys gap f' (d + 1) = smF ys gap f' d + ys.getD (f' + d) 0 + (if 0 < d then gap else 0) := rfl
                  generalize smF ys gap f' d = S at *
                  generalize ys.getD (f' + d) 0 = y at *
                  have HNX := Lib.hid hnext; clear hnext
                  generalize hk : f' + d = k at *
                  have d4 : (k : Int) < t := by omega
                  have d5 : (k : Int) < ny := by omega
                  rcases Nat.eq_zero_or_pos d with hd0 | hd0
                  · have d6 : (k : Int) ≤ f' := by omega
                    have hnx := HNX.out
                    rw [if_neg (by omega)] at hnx
                    have HN2 := Lib.hid hnx
                    have HK := Lib.hid hk
                    clear hnx hk
                    go_wp2_with fail
                    go_round
                    case rel => exact ⟨d + 1, by have := HK.out; omega, by rw [HN2.out]; simp, by have := HK.out; subst this; go_num⟩
                    case measure => simp [intOf]; omega
                  · have d6 : (f' : Int) < k := by omega
                    have hnx := HNX.out
                    rw [if_pos hd0] at hnx
                    have HN2 := Lib.hid hnx
                    have HK := Lib.hid hk
                    clear hnx hk
                    go_wp2_with fail
                    go_round
                    case rel => exact ⟨d + 1, by have := HK.out; omega, by rw [HN2.out], by have := HK.out; subst this; go_num⟩
                    case measure => simp [intOf]; omega
                · have hdt : d = t - f' := by omega
                  subst hdt
                  rw [show f' + (t - f') = t by omega]
                  have hyt : t < ny → wr.cell? ⟨g, t, none⟩ = some (.int .i64 (ys.getD t 0)) := HC4.out t
                  have hyb : t < ny → 0 ≤ ys.getD t 0 ∧ ys.getD t 0 ≤ 65535 := HYB.out t
                  clear HC4 HYB HSM
                  generalize smF ys gap f' (t - f') = S at *
                  generalize ys.getD t 0 = y at *
                  have hsb : S ≤ 131070 * 60 := by omega
                  clear sb2 hd
                  have d9 : decide ((t : Int) < t) = false := by simp
                  by_cases c5 : f' + 1 < t <;> by_cases c6 : t < ny
                  · obtain ⟨y1, y2⟩ := hyb c6
                    have e3 := hyt c6
                    clear hyt hyb
                    have v1 : decide (av < S) = false := by have := HOK1.out c5; simp; omega
                    have v2 : decide ((f' : Int) + 1 < t) = true := by simp; omega
                    have v3 : decide (S + gap + y ≤ av) = false := by have := HOK2.out c6; simp; omega
                    have v4 : decide ((t : Int) < ny) = true := by simp; omega
                    have d7 : (t : Int) < ny := by omega
                    go_wp2_with fail
                    go_roundw
                    case rel => exact ⟨j + 1, t, by omega, rfl, by go_num, HREST.out, by have q := HBV.out; (repeat' (first | (with_reducible exact Below.refl _ _) | (with_reducible assumption) | (with_reducible refine below_from_drew ?_) | (with_reducible refine Below.alloc ?_ ?_ _) | (with_reducible refine Below.drew ?_) | (with_reducible refine below_drewN ?_ _) | (with_reducible refine Below.setCell ?_ ?_ _) | (with_reducible refine below_via ?_ (by assumption) ?_) | (with_reducible refine below_ov ?_ ?_ _ _) | go_size))⟩
                    case measure => simp [intOf]; omega
                  · clear hyt hyb
                    have v1 : decide (av < S) = false := by have := HOK1.out c5; simp; omega
                    have v2 : decide ((f' : Int) + 1 < t) = true := by simp; omega
                    have v4 : decide ((t : Int) < ny) = false := by simp; omega
                    go_wp2_with fail
                    go_roundw
                    case rel => exact ⟨j + 1, t, by omega, rfl, by go_num, HREST.out, by have q := HBV.out; (repeat' (first | (with_reducible exact Below.refl _ _) | (with_reducible assumption) | (with_reducible refine below_from_drew ?_) | (with_reducible refine Below.alloc ?_ ?_ _) | (with_reducible refine Below.drew ?_) | (with_reducible refine below_drewN ?_ _) | (with_reducible refine Below.setCell ?_ ?_ _) | (with_reducible refine below_via ?_ (by assumption) ?_) | (with_reducible refine below_ov ?_ ?_ _ _) | go_size))⟩
                    case measure => simp [intOf]; omega
                  · obtain ⟨y1, y2⟩ := hyb c6
                    have e3 := hyt c6
                    clear hyt hyb
                    have v2 : decide ((f' : Int) + 1 < t) = false := by simp; omega
                    have v3 : decide (S + gap + y ≤ av) = false := by have := HOK2.out c6; simp; omega
                    have v4 : decide ((t : Int) < ny) = true := by simp; omega
                    have d7 : (t : Int) < ny := by omega
                    go_wp2_with fail
                    go_roundw
                    case rel => exact ⟨j + 1, t, by omega, rfl, by go_num, HREST.out, by have q := HBV.out; (repeat' (first | (with_reducible exact Below.refl _ _) | (with_reducible assumption) | (with_reducible refine below_from_drew ?_) | (with_reducible refine Below.alloc ?_ ?_ _) | (with_reducible refine Below.drew ?_) | (with_reducible refine below_drewN ?_ _) | (with_reducible refine Below.setCell ?_ ?_ _) | (with_reducible refine below_via ?_ (by assumption) ?_) | (with_reducible refine below_ov ?_ ?_ _ _) | go_size))⟩
                    case measure => simp [intOf]; omega
                  · clear hyt hyb
                    have v2 : decide ((f' : Int) + 1 < t) = false := by simp; omega
                    have v4 : decide ((t : Int) < ny) = false := by simp; omega
                    go_wp2_with fail
                    go_roundw
                    case rel => exact ⟨j + 1, t, by omega, rfl, by go_num, HREST.out, by have q := HBV.out; (repeat' (first | (with_reducible exact Below.refl _ _) | (with_reducible assumption) | (with_reducible refine below_from_drew ?_) | (with_reducible refine Below.alloc ?_ ?_ _) | (with_reducible refine Below.drew ?_) | (with_reducible refine below_drewN ?_ _) | (with_reducible refine Below.setCell ?_ ?_ _) | (with_reducible refine below_via ?_ (by assumption) ?_) | (with_reducible refine below_ov ?_ ?_ _ _) | go_size))⟩
                    case measure => simp [intOf]; omega
            · obtain rfl : j = m := by omega
              have hnil : L.drop j = [] := List.drop_eq_nil_of_le (by rw [HML.out]; omega)
              rw [hnil] at hch
              have hf : f = ny := hch.trans HYN.out
              subst hf
              clear hnil hch
              have d1 : decide ((j : Int) < j) = false := by simp
              go_wp2_with fail
              go_ret
              exact ⟨by simp, by have q := below_via HB3.out HBV.out HB3.out.size; (repeat' (first | (with_reducible exact Below.refl _ _) | (with_reducible assumption) | (with_reducible refine below_from_drew ?_) | (with_reducible refine Below.alloc ?_ ?_ _) | (with_reducible refine Below.drew ?_) | (with_reducible refine below_drewN ?_ _) | (with_reducible refine Below.setCell ?_ ?_ _) | (with_reducible refine below_via ?_ (by assumption) ?_) | (with_reducible refine below_ov ?_ ?_ _ _) | go_size))⟩
end Go.Proofs.Ytbjmncgfbdkidaa
