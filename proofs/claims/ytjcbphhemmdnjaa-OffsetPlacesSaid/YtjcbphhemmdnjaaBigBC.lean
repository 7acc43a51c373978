/- ref01.Plus. ref01.Plus, where the signs differ. -/
import Derived.Test.YtjcbphhemmdnjaaBigA
namespace Go.Proofs.Ytjcbphhemmdnjaa
open Go.RowKit
set_option linter.unusedSimpArgs false
set_option linter.unusedVariables false
-- below_from_drew
attribute [local go_sem] ov_cell_same ov_cell_other ov_frozen_same ov_frozen_other ov_size ov_setCell_same ov_setCell_other cell_alloc_old frozen_alloc_old setCell_alloc_old old_alloc old_ov old_drew old_drewN old_setCell
attribute [local go_sem ↓] run_max2 run_min2

theorem BigR.reov {u : World} {a : Option Addr} {cap b : Nat} {l : List Nat} {cs cs' : Array Value} {T T' : TypeId} (h : BigR (Go.Proofs.Ytjcbphhemmdnjaa.ov u b cs T) a cap l) (hb : a.map (·.block) ≠ some b) : BigR (Go.Proofs.Ytjcbphhemmdnjaa.ov u b cs' T') a cap l := by
  obtain ⟨h1, h2, h3⟩ := h
  refine ⟨h1, h2, fun h0 => ?_⟩
  obtain ⟨g, rfl, hl, hc⟩ := h3 h0
  have hg : g ≠ b := by intro e; apply hb; simp [e]
  rw [ov_size] at hl
  refine ⟨g, rfl, by rw [ov_size]; exact hl, fun i hi => ?_⟩
  have := hc i hi
  rw [ov_cell_other (by intro e; exact hg (congrArg Addr.block e))] at this ⊢
  exact this
theorem plus_len {a b o : List Nat} {i c : Nat} (h : PlusAt a b o i c) : o.length = i := h.1
theorem plus_c {a b o : List Nat} {i c : Nat} (h : PlusAt a b o i c) : c ≤ 1 := h.2.2.1
theorem plus_digs {a b o : List Nat} {i c : Nat} (h : PlusAt a b o i c) : Digs o := h.2.1
theorem getD_ge {l : List Nat} {k : Nat} (h : l.length ≤ k) : l.getD k 0 = 0 := by rw [List.getD_eq_getElem?_getD, List.getElem?_eq_none h]; rfl
set_option maxRecDepth 100000 in
set_option maxHeartbeats 4000000 in
theorem plus_same (s : Bool) (aa ab : Option Addr) (ca cb : Nat) (la lb : List Nat) (w : World) (hda : Digs la) (hdb : Digs lb) (hra : BigR w aa ca la) (hrb : BigR w ab cb lb) (hla : la.length ≤ 1000000) (hlb : lb.length ≤ 1000000) :
    Calls Try.prog 70 #[.agg #[.bool s, .slice aa la.length ca], .agg #[.bool s, .slice ab lb.length cb]] w fun e w' => ∃ a cap, e = .returned (.agg #[.bool (s && decide (0 < bv la + bv lb)), .slice a (dg (bv la + bv lb)).length cap]) ∧ BigR w' a cap (dg (bv la + bv lb)) ∧ Below w.heap.size w w' := by
  obtain ⟨i0, hi, hz0, hz1, hz2⟩ := info_parts info64u
  obtain ⟨h1, h2, h3⟩ := hra
  obtain ⟨g1, g2, g3⟩ := hrb
  have HA := Lib.hid h3; clear h3
  have HB := Lib.hid g3; clear g3
  have HDA := Lib.hid hda; have HDB := Lib.hid hdb; clear hda hdb
  generalize ea : la.length = na at *
  generalize eb : lb.length = nb at *
  have EA := Lib.hid ea; have EB := Lib.hid eb; clear ea eb
  have hss : (s == s) = true := by simp
  go_enter Try.func70, Try.ntmps70
  go_wp2_with fail
  clear hss
  go_loopw [5, 6, 7] (fun out c i wr => ∃ (k cc : Nat) (o : List Nat), PlusAt la lb o k cc ∧ k + cc ≤ na + nb + 1 ∧ c = .int .u64 (cc : Int) ∧ i = .int .i64 (k : Int) ∧ Below w.heap.size w wr ∧ Has wr w.heap.size #[.bool s, .slice aa na ca] 162 ∧ Has wr (w.heap.size + 1) #[.bool s, .slice ab nb cb] 162 ∧ Has wr (w.heap.size + 1 + 1) #[.bool false, .slice none 0 0] 162 ∧ wr.ownsRow (w.heap.size + 1 + 1 + 1) 166 1 out o.length (dvals o)) (fun _ c i _ => (na + nb + 2) - (intOf i).toNat)
  case atStart => exact ⟨0, 0, [], plus_zero la lb, by omega, rfl, rfl, by (repeat' (first | (with_reducible exact Below.refl _ _) | (with_reducible assumption) | (with_reducible refine below_from_drew ?_) | (with_reducible refine Below.alloc ?_ ?_ _) | (with_reducible refine Below.drew ?_) | (with_reducible refine below_drewN ?_ _) | (with_reducible refine Below.setCell ?_ ?_ _) | (with_reducible refine below_via ?_ (by assumption) ?_) | (with_reducible refine below_ov ?_ ?_ _ _) | go_size)), by (repeat' (first | (with_reducible refine has_drew ?_) | (with_reducible refine has_drewN ?_) | (with_reducible refine has_new ?_; (first | (with_reducible rfl) | omega | (simp; done) | (simp; omega))) | (with_reducible refine has_ov_same ?_; (first | (with_reducible rfl) | omega | (simp; done) | (simp; omega))) | (with_reducible refine has_alloc ?_) | (with_reducible refine has_ov_other ?_ ?_; (focus (first | (with_reducible rfl) | omega | (simp; done) | (simp; omega)))) | (with_reducible assumption) | (with_reducible exact has_below hB (by assumption)))), by (repeat' (first | (with_reducible refine has_drew ?_) | (with_reducible refine has_drewN ?_) | (with_reducible refine has_new ?_; (first | (with_reducible rfl) | omega | (simp; done) | (simp; omega))) | (with_reducible refine has_ov_same ?_; (first | (with_reducible rfl) | omega | (simp; done) | (simp; omega))) | (with_reducible refine has_alloc ?_) | (with_reducible refine has_ov_other ?_ ?_; (focus (first | (with_reducible rfl) | omega | (simp; done) | (simp; omega)))) | (with_reducible assumption) | (with_reducible exact has_below hB (by assumption)))), by (repeat' (first | (with_reducible refine has_drew ?_) | (with_reducible refine has_drewN ?_) | (with_reducible refine has_new ?_; (first | (with_reducible rfl) | omega | (simp; done) | (simp; omega))) | (with_reducible refine has_ov_same ?_; (first | (with_reducible rfl) | omega | (simp; done) | (simp; omega))) | (with_reducible refine has_alloc ?_) | (with_reducible refine has_ov_other ?_ ?_; (focus (first | (with_reducible rfl) | omega | (simp; done) | (simp; omega)))) | (with_reducible assumption) | (with_reducible exact has_below hB (by assumption)))), World.ownsRow_nil _ _ _ _⟩
  case round =>
    obtain ⟨k, cc, o, hpl, hkb, rfl, rfl, hbw, hh0, hh1, hh2, hown⟩ := hrel
    obtain ⟨u, rfl, hBu, hzu, z0, o0, z1, o1, z2, o2⟩ := after3 (w := w) (W := wr) (w1 := wr) (Below.refl _ _) hbw hh0 hh1 hh2
    have hown2 := row_out (row_out (row_out hown (by omega)) (by omega)) (by omega)
    obtain ⟨al, cap, rfl, hrd⟩ := bigR_row hown
    have hol := plus_len hpl
    have hcc := plus_c hpl
    have HOWN := Lib.hid hown; have HOWN2 := Lib.hid hown2; have HPL := Lib.hid hpl; have HRD := Lib.hid hrd; have HOL := Lib.hid hol
    have hcol : o.length ≤ 2000001 := by omega
    clear hown hown2 hpl hbw hh0 hh1 hh2 hrd hol
    have hn := plus_next HDA.out HDB.out HPL.out
    have q1 := digs_get HDA.out k
    have q2 := digs_get HDB.out k
    have b1 : (cc : Int) ≤ 1 := by omega
    have b4 : (k : Int) ≤ 2000001 := by omega
    clear hzu
    rcases Nat.lt_or_ge k na with c1 | c1
    · obtain ⟨ba, rfl, hba, hca⟩ := HA.out (by omega)
      have k1 := (hBu.cell (p := ⟨ba, k, none⟩) hba).trans (hca k c1)
      clear hca
      have c4 : (k : Int) < na := by omega
      rcases Nat.lt_or_ge k nb with c2 | c2
      · obtain ⟨bb, rfl, hbb, hcb⟩ := HB.out (by omega)
        have k2 := (hBu.cell (p := ⟨bb, k, none⟩) hbb).trans (hcb k c2)
        clear hcb
        have c5 : (k : Int) < nb := by omega
        generalize la.getD k 0 = x at *
        generalize lb.getD k 0 = y at *
        have HN := Lib.hid hn; clear hn
        have b2 : (x : Int) ≤ 65535 := by omega
        have b3 : (y : Int) ≤ 65535 := by omega
        go_wp2_with (at_builtin; refine wpList_append_own _ rfl _ _ 160 rfl (w.heap.size + 1 + 1 + 1) 166 i0 (.int .u64 0) 1 8 Try.underlying160 hi hz0 hz1 hz2 rfl (by decide) _ _ _ rfl (HOWN.out.alloc _) ⟨u.heap.size, 0, none⟩ 1 1 [.int .u64 (((cc : Int) + x + y) % 65536)] rfl rfl ?c1 ?c2 ?c3 ?c4 ?c5 ?_)
        case c1 => exact news_at (by simp only [ov_size])
        case c2 => exact one_of rfl
        case c3 => unfold maxLen; omega
        case c4 => omega
        case c5 => simp; omega
        intro v' w1 hown' hgrow hnil
        clear hnil
        have hne : ∀ bb, bb < w.heap.size + 1 + 1 + 1 → (Value.slice al o.length cap).ownBlock ≠ some bb := fun bb h => row_ne HOWN.out h
        have f0 := has_grown hgrow (b := w.heap.size) (cs := #[.bool s, .slice (some ⟨ba, 0, none⟩) na ca]) (T := 162) (by (repeat' (first | (with_reducible refine has_drew ?_) | (with_reducible refine has_drewN ?_) | (with_reducible refine has_new ?_; (first | (with_reducible rfl) | omega | (simp; done) | (simp; omega))) | (with_reducible refine has_ov_same ?_; (first | (with_reducible rfl) | omega | (simp; done) | (simp; omega))) | (with_reducible refine has_alloc ?_) | (with_reducible refine has_ov_other ?_ ?_; (focus (first | (with_reducible rfl) | omega | (simp; done) | (simp; omega)))) | (with_reducible assumption) | (with_reducible exact has_below hB (by assumption))))) (hne _ (by omega))
        have f1 := has_grown hgrow (b := w.heap.size + 1) (cs := #[.bool s, .slice (some ⟨bb, 0, none⟩) nb cb]) (T := 162) (by (repeat' (first | (with_reducible refine has_drew ?_) | (with_reducible refine has_drewN ?_) | (with_reducible refine has_new ?_; (first | (with_reducible rfl) | omega | (simp; done) | (simp; omega))) | (with_reducible refine has_ov_same ?_; (first | (with_reducible rfl) | omega | (simp; done) | (simp; omega))) | (with_reducible refine has_alloc ?_) | (with_reducible refine has_ov_other ?_ ?_; (focus (first | (with_reducible rfl) | omega | (simp; done) | (simp; omega)))) | (with_reducible assumption) | (with_reducible exact has_below hB (by assumption))))) (hne _ (by omega))
        have f2 := has_grown hgrow (b := w.heap.size + 1 + 1) (cs := #[.bool false, .slice none 0 0]) (T := 162) (by (repeat' (first | (with_reducible refine has_drew ?_) | (with_reducible refine has_drewN ?_) | (with_reducible refine has_new ?_; (first | (with_reducible rfl) | omega | (simp; done) | (simp; omega))) | (with_reducible refine has_ov_same ?_; (first | (with_reducible rfl) | omega | (simp; done) | (simp; omega))) | (with_reducible refine has_alloc ?_) | (with_reducible refine has_ov_other ?_ ?_; (focus (first | (with_reducible rfl) | omega | (simp; done) | (simp; omega)))) | (with_reducible assumption) | (with_reducible exact has_below hB (by assumption))))) (hne _ (by omega))
        have hB1 : Below w.heap.size w w1 := Below.grown (by (repeat' (first | (with_reducible exact Below.refl _ _) | (with_reducible assumption) | (with_reducible refine below_from_drew ?_) | (with_reducible refine Below.alloc ?_ ?_ _) | (with_reducible refine Below.drew ?_) | (with_reducible refine below_drewN ?_ _) | (with_reducible refine Below.setCell ?_ ?_ _) | (with_reducible refine below_via ?_ (by assumption) ?_) | (with_reducible refine below_ov ?_ ?_ _ _) | go_size))) hgrow (by simp; omega) (fun bb h => by have := row_block HOWN.out bb h; omega)
        have HO := Lib.hid hown'
        have F0 := Lib.hid f0; have F1 := Lib.hid f1; have F2 := Lib.hid f2; have HB1 := Lib.hid hB1
        clear hown' hgrow hne f0 f1 f2 hB1
        go_wp2_with fail
        go_roundw
        case rel => exact ⟨k + 1, (cc + x + y) / 65536, o ++ [(cc + x + y) % 65536], HN.out, by omega, by go_num, by go_num, HB1.out, F0.out, F1.out, F2.out, by rw [List.length_append, dvals_snoc]; exact HO.out⟩
        case measure => simp [intOf]; omega
      · have c5 : (nb : Int) ≤ k := by omega
        rw [getD_ge (l := lb) (by rw [EB.out]; omega), Nat.add_zero] at hn
        generalize la.getD k 0 = x at *
        have HN := Lib.hid hn; clear hn
        have b2 : (x : Int) ≤ 65535 := by omega
        go_wp2_with (at_builtin; refine wpList_append_own _ rfl _ _ 160 rfl (w.heap.size + 1 + 1 + 1) 166 i0 (.int .u64 0) 1 8 Try.underlying160 hi hz0 hz1 hz2 rfl (by decide) _ _ _ rfl (HOWN.out.alloc _) ⟨u.heap.size, 0, none⟩ 1 1 [.int .u64 (((cc : Int) + x) % 65536)] rfl rfl ?d1 ?d2 ?d3 ?d4 ?d5 ?_)
        case d1 => exact news_at (by simp only [ov_size])
        case d2 => exact one_of rfl
        case d3 => unfold maxLen; omega
        case d4 => omega
        case d5 => simp; omega
        intro v' w1 hown' hgrow hnil
        clear hnil
        have hne : ∀ bb, bb < w.heap.size + 1 + 1 + 1 → (Value.slice al o.length cap).ownBlock ≠ some bb := fun bb h => row_ne HOWN.out h
        have f0 := has_grown hgrow (b := w.heap.size) (cs := #[.bool s, .slice (some ⟨ba, 0, none⟩) na ca]) (T := 162) (by (repeat' (first | (with_reducible refine has_drew ?_) | (with_reducible refine has_drewN ?_) | (with_reducible refine has_new ?_; (first | (with_reducible rfl) | omega | (simp; done) | (simp; omega))) | (with_reducible refine has_ov_same ?_; (first | (with_reducible rfl) | omega | (simp; done) | (simp; omega))) | (with_reducible refine has_alloc ?_) | (with_reducible refine has_ov_other ?_ ?_; (focus (first | (with_reducible rfl) | omega | (simp; done) | (simp; omega)))) | (with_reducible assumption) | (with_reducible exact has_below hB (by assumption))))) (hne _ (by omega))
        have f1 := has_grown hgrow (b := w.heap.size + 1) (cs := #[.bool s, .slice ab nb cb]) (T := 162) (by (repeat' (first | (with_reducible refine has_drew ?_) | (with_reducible refine has_drewN ?_) | (with_reducible refine has_new ?_; (first | (with_reducible rfl) | omega | (simp; done) | (simp; omega))) | (with_reducible refine has_ov_same ?_; (first | (with_reducible rfl) | omega | (simp; done) | (simp; omega))) | (with_reducible refine has_alloc ?_) | (with_reducible refine has_ov_other ?_ ?_; (focus (first | (with_reducible rfl) | omega | (simp; done) | (simp; omega)))) | (with_reducible assumption) | (with_reducible exact has_below hB (by assumption))))) (hne _ (by omega))
        have f2 := has_grown hgrow (b := w.heap.size + 1 + 1) (cs := #[.bool false, .slice none 0 0]) (T := 162) (by (repeat' (first | (with_reducible refine has_drew ?_) | (with_reducible refine has_drewN ?_) | (with_reducible refine has_new ?_; (first | (with_reducible rfl) | omega | (simp; done) | (simp; omega))) | (with_reducible refine has_ov_same ?_; (first | (with_reducible rfl) | omega | (simp; done) | (simp; omega))) | (with_reducible refine has_alloc ?_) | (with_reducible refine has_ov_other ?_ ?_; (focus (first | (with_reducible rfl) | omega | (simp; done) | (simp; omega)))) | (with_reducible assumption) | (with_reducible exact has_below hB (by assumption))))) (hne _ (by omega))
        have hB1 : Below w.heap.size w w1 := Below.grown (by (repeat' (first | (with_reducible exact Below.refl _ _) | (with_reducible assumption) | (with_reducible refine below_from_drew ?_) | (with_reducible refine Below.alloc ?_ ?_ _) | (with_reducible refine Below.drew ?_) | (with_reducible refine below_drewN ?_ _) | (with_reducible refine Below.setCell ?_ ?_ _) | (with_reducible refine below_via ?_ (by assumption) ?_) | (with_reducible refine below_ov ?_ ?_ _ _) | go_size))) hgrow (by simp; omega) (fun bb h => by have := row_block HOWN.out bb h; omega)
        have HO := Lib.hid hown'
        have F0 := Lib.hid f0; have F1 := Lib.hid f1; have F2 := Lib.hid f2; have HB1 := Lib.hid hB1
        clear hown' hgrow hne f0 f1 f2 hB1
        go_wp2_with fail
        go_roundw
        case rel => exact ⟨k + 1, (cc + x) / 65536, o ++ [(cc + x) % 65536], HN.out, by omega, by go_num, by go_num, HB1.out, F0.out, F1.out, F2.out, by rw [List.length_append, dvals_snoc]; exact HO.out⟩
        case measure => simp [intOf]; omega
    · have c4 : (na : Int) ≤ k := by omega
      rw [getD_ge (l := la) (by rw [EA.out]; omega), Nat.add_zero] at hn
      rcases Nat.lt_or_ge k nb with c2 | c2
      · obtain ⟨bb, rfl, hbb, hcb⟩ := HB.out (by omega)
        have k2 := (hBu.cell (p := ⟨bb, k, none⟩) hbb).trans (hcb k c2)
        clear hcb
        have c5 : (k : Int) < nb := by omega
        generalize lb.getD k 0 = y at *
        have HN := Lib.hid hn; clear hn
        have b3 : (y : Int) ≤ 65535 := by omega
        go_wp2_with (at_builtin; refine wpList_append_own _ rfl _ _ 160 rfl (w.heap.size + 1 + 1 + 1) 166 i0 (.int .u64 0) 1 8 Try.underlying160 hi hz0 hz1 hz2 rfl (by decide) _ _ _ rfl (HOWN.out.alloc _) ⟨u.heap.size, 0, none⟩ 1 1 [.int .u64 (((cc : Int) + y) % 65536)] rfl rfl ?e1 ?e2 ?e3 ?e4 ?e5 ?_)
        case e1 => exact news_at (by simp only [ov_size])
        case e2 => exact one_of rfl
        case e3 => unfold maxLen; omega
        case e4 => omega
        case e5 => simp; omega
        intro v' w1 hown' hgrow hnil
        clear hnil
        have hne : ∀ bb, bb < w.heap.size + 1 + 1 + 1 → (Value.slice al o.length cap).ownBlock ≠ some bb := fun bb h => row_ne HOWN.out h
        have f0 := has_grown hgrow (b := w.heap.size) (cs := #[.bool s, .slice aa na ca]) (T := 162) (by (repeat' (first | (with_reducible refine has_drew ?_) | (with_reducible refine has_drewN ?_) | (with_reducible refine has_new ?_; (first | (with_reducible rfl) | omega | (simp; done) | (simp; omega))) | (with_reducible refine has_ov_same ?_; (first | (with_reducible rfl) | omega | (simp; done) | (simp; omega))) | (with_reducible refine has_alloc ?_) | (with_reducible refine has_ov_other ?_ ?_; (focus (first | (with_reducible rfl) | omega | (simp; done) | (simp; omega)))) | (with_reducible assumption) | (with_reducible exact has_below hB (by assumption))))) (hne _ (by omega))
        have f1 := has_grown hgrow (b := w.heap.size + 1) (cs := #[.bool s, .slice (some ⟨bb, 0, none⟩) nb cb]) (T := 162) (by (repeat' (first | (with_reducible refine has_drew ?_) | (with_reducible refine has_drewN ?_) | (with_reducible refine has_new ?_; (first | (with_reducible rfl) | omega | (simp; done) | (simp; omega))) | (with_reducible refine has_ov_same ?_; (first | (with_reducible rfl) | omega | (simp; done) | (simp; omega))) | (with_reducible refine has_alloc ?_) | (with_reducible refine has_ov_other ?_ ?_; (focus (first | (with_reducible rfl) | omega | (simp; done) | (simp; omega)))) | (with_reducible assumption) | (with_reducible exact has_below hB (by assumption))))) (hne _ (by omega))
        have f2 := has_grown hgrow (b := w.heap.size + 1 + 1) (cs := #[.bool false, .slice none 0 0]) (T := 162) (by (repeat' (first | (with_reducible refine has_drew ?_) | (with_reducible refine has_drewN ?_) | (with_reducible refine has_new ?_; (first | (with_reducible rfl) | omega | (simp; done) | (simp; omega))) | (with_reducible refine has_ov_same ?_; (first | (with_reducible rfl) | omega | (simp; done) | (simp; omega))) | (with_reducible refine has_alloc ?_) | (with_reducible refine has_ov_other ?_ ?_; (focus (first | (with_reducible rfl) | omega | (simp; done) | (simp; omega)))) | (with_reducible assumption) | (with_reducible exact has_below hB (by assumption))))) (hne _ (by omega))
        have hB1 : Below w.heap.size w w1 := Below.grown (by (repeat' (first | (with_reducible exact Below.refl _ _) | (with_reducible assumption) | (with_reducible refine below_from_drew ?_) | (with_reducible refine Below.alloc ?_ ?_ _) | (with_reducible refine Below.drew ?_) | (with_reducible refine below_drewN ?_ _) | (with_reducible refine Below.setCell ?_ ?_ _) | (with_reducible refine below_via ?_ (by assumption) ?_) | (with_reducible refine below_ov ?_ ?_ _ _) | go_size))) hgrow (by simp; omega) (fun bb h => by have := row_block HOWN.out bb h; omega)
        have HO := Lib.hid hown'
        have F0 := Lib.hid f0; have F1 := Lib.hid f1; have F2 := Lib.hid f2; have HB1 := Lib.hid hB1
        clear hown' hgrow hne f0 f1 f2 hB1
        go_wp2_with fail
        go_roundw
        case rel => exact ⟨k + 1, (cc + y) / 65536, o ++ [(cc + y) % 65536], HN.out, by omega, by go_num, by go_num, HB1.out, F0.out, F1.out, F2.out, by rw [List.length_append, dvals_snoc]; exact HO.out⟩
        case measure => simp [intOf]; omega
      · have c5 : (nb : Int) ≤ k := by omega
        rw [getD_ge (l := lb) (by rw [EB.out]; omega), Nat.add_zero] at hn
        rcases Nat.lt_or_ge 0 cc with c3 | c3
        · have c6 : (0 : Int) < cc := by omega
          have HN := Lib.hid hn; clear hn
          go_wp2_with (at_builtin; refine wpList_append_own _ rfl _ _ 160 rfl (w.heap.size + 1 + 1 + 1) 166 i0 (.int .u64 0) 1 8 Try.underlying160 hi hz0 hz1 hz2 rfl (by decide) _ _ _ rfl (HOWN.out.alloc _) ⟨u.heap.size, 0, none⟩ 1 1 [.int .u64 (((cc : Int)) % 65536)] rfl rfl ?f1 ?f2 ?f3 ?f4 ?f5 ?_)
          case f1 => exact news_at (by simp only [ov_size])
          case f2 => exact one_of rfl
          case f3 => unfold maxLen; omega
          case f4 => omega
          case f5 => simp; omega
          intro v' w1 hown' hgrow hnil
          clear hnil
          have hne : ∀ bb, bb < w.heap.size + 1 + 1 + 1 → (Value.slice al o.length cap).ownBlock ≠ some bb := fun bb h => row_ne HOWN.out h
          have f0 := has_grown hgrow (b := w.heap.size) (cs := #[.bool s, .slice aa na ca]) (T := 162) (by (repeat' (first | (with_reducible refine has_drew ?_) | (with_reducible refine has_drewN ?_) | (with_reducible refine has_new ?_; (first | (with_reducible rfl) | omega | (simp; done) | (simp; omega))) | (with_reducible refine has_ov_same ?_; (first | (with_reducible rfl) | omega | (simp; done) | (simp; omega))) | (with_reducible refine has_alloc ?_) | (with_reducible refine has_ov_other ?_ ?_; (focus (first | (with_reducible rfl) | omega | (simp; done) | (simp; omega)))) | (with_reducible assumption) | (with_reducible exact has_below hB (by assumption))))) (hne _ (by omega))
          have f1 := has_grown hgrow (b := w.heap.size + 1) (cs := #[.bool s, .slice ab nb cb]) (T := 162) (by (repeat' (first | (with_reducible refine has_drew ?_) | (with_reducible refine has_drewN ?_) | (with_reducible refine has_new ?_; (first | (with_reducible rfl) | omega | (simp; done) | (simp; omega))) | (with_reducible refine has_ov_same ?_; (first | (with_reducible rfl) | omega | (simp; done) | (simp; omega))) | (with_reducible refine has_alloc ?_) | (with_reducible refine has_ov_other ?_ ?_; (focus (first | (with_reducible rfl) | omega | (simp; done) | (simp; omega)))) | (with_reducible assumption) | (with_reducible exact has_below hB (by assumption))))) (hne _ (by omega))
          have f2 := has_grown hgrow (b := w.heap.size + 1 + 1) (cs := #[.bool false, .slice none 0 0]) (T := 162) (by (repeat' (first | (with_reducible refine has_drew ?_) | (with_reducible refine has_drewN ?_) | (with_reducible refine has_new ?_; (first | (with_reducible rfl) | omega | (simp; done) | (simp; omega))) | (with_reducible refine has_ov_same ?_; (first | (with_reducible rfl) | omega | (simp; done) | (simp; omega))) | (with_reducible refine has_alloc ?_) | (with_reducible refine has_ov_other ?_ ?_; (focus (first | (with_reducible rfl) | omega | (simp; done) | (simp; omega)))) | (with_reducible assumption) | (with_reducible exact has_below hB (by assumption))))) (hne _ (by omega))
          have hB1 : Below w.heap.size w w1 := Below.grown (by (repeat' (first | (with_reducible exact Below.refl _ _) | (with_reducible assumption) | (with_reducible refine below_from_drew ?_) | (with_reducible refine Below.alloc ?_ ?_ _) | (with_reducible refine Below.drew ?_) | (with_reducible refine below_drewN ?_ _) | (with_reducible refine Below.setCell ?_ ?_ _) | (with_reducible refine below_via ?_ (by assumption) ?_) | (with_reducible refine below_ov ?_ ?_ _ _) | go_size))) hgrow (by simp; omega) (fun bb h => by have := row_block HOWN.out bb h; omega)
          have HO := Lib.hid hown'
          have F0 := Lib.hid f0; have F1 := Lib.hid f1; have F2 := Lib.hid f2; have HB1 := Lib.hid hB1
          clear hown' hgrow hne f0 f1 f2 hB1
          go_wp2_with fail
          go_roundw
          case rel => exact ⟨k + 1, (cc) / 65536, o ++ [(cc) % 65536], HN.out, by omega, by go_num, by go_num, HB1.out, F0.out, F1.out, F2.out, by rw [List.length_append, dvals_snoc]; exact HO.out⟩
          case measure => simp [intOf]; omega
        · clear hn
          have c6 : (cc : Int) ≤ 0 := by omega
          have hc0 : cc = 0 := by omega
          have hsum := plus_end HPL.out (by rw [EA.out]; omega) (by rw [EB.out]; omega) hc0
          clear hc0
          have HS := Lib.hid hsum; clear hsum
          go_wp2_with (go_at_call 82; (with_reducible refine (trim_any _ _ _ _ _ (plus_digs HPL.out) HRD.out).mono ?_); rintro e w1 ⟨rfl, hb⟩; refine Exists.elim (after3 (w := w) (b0 := w.heap.size) (cs0 := ?_) (T0 := ?_) (b1 := w.heap.size + 1) (cs1 := ?_) (T1 := ?_) (b2 := w.heap.size + 1 + 1) (cs2 := ?_) (T2 := ?_) hb ?_ ?_ ?_ ?_) ?_; rotate_left 6; (focus ((repeat' (first | (with_reducible exact Below.refl _ _) | (with_reducible assumption) | (with_reducible refine below_from_drew ?_) | (with_reducible refine Below.alloc ?_ ?_ _) | (with_reducible refine Below.drew ?_) | (with_reducible refine below_drewN ?_ _) | (with_reducible refine Below.setCell ?_ ?_ _) | (with_reducible refine below_via ?_ (by assumption) ?_) | (with_reducible refine below_ov ?_ ?_ _ _) | go_size)); done)); (focus ((repeat' (first | (with_reducible refine has_drew ?_) | (with_reducible refine has_drewN ?_) | (with_reducible refine has_new ?_; (first | (with_reducible rfl) | omega | (simp; done) | (simp; omega))) | (with_reducible refine has_ov_same ?_; (first | (with_reducible rfl) | omega | (simp; done) | (simp; omega))) | (with_reducible refine has_alloc ?_) | (with_reducible refine has_ov_other ?_ ?_; (focus (first | (with_reducible rfl) | omega | (simp; done) | (simp; omega)))) | (with_reducible assumption) | (with_reducible exact has_below hB (by assumption)))); done)); (focus ((repeat' (first | (with_reducible refine has_drew ?_) | (with_reducible refine has_drewN ?_) | (with_reducible refine has_new ?_; (first | (with_reducible rfl) | omega | (simp; done) | (simp; omega))) | (with_reducible refine has_ov_same ?_; (first | (with_reducible rfl) | omega | (simp; done) | (simp; omega))) | (with_reducible refine has_alloc ?_) | (with_reducible refine has_ov_other ?_ ?_; (focus (first | (with_reducible rfl) | omega | (simp; done) | (simp; omega)))) | (with_reducible assumption) | (with_reducible exact has_below hB (by assumption)))); done)); (focus ((repeat' (first | (with_reducible refine has_drew ?_) | (with_reducible refine has_drewN ?_) | (with_reducible refine has_new ?_; (first | (with_reducible rfl) | omega | (simp; done) | (simp; omega))) | (with_reducible refine has_ov_same ?_; (first | (with_reducible rfl) | omega | (simp; done) | (simp; omega))) | (with_reducible refine has_alloc ?_) | (with_reducible refine has_ov_other ?_ ?_; (focus (first | (with_reducible rfl) | omega | (simp; done) | (simp; omega)))) | (with_reducible assumption) | (with_reducible exact has_below hB (by assumption)))); done)); rintro uz ⟨rfl, hB, hz, z0, o0, z1, o1, z2, o2⟩; (try simp only [World.size_alloc, World.size_setCell, World.size_drew, ov_size] at hz))
          have hr2 := HRD.out.below hb
          refine bodyPost_ret (by simp [results, Try.results70, go_sem, z0, z1, z2]; try rfl) rfl ?_
          exact ⟨al, cap, by rw [HS.out], by rw [← HS.out]; exact (hr2.reov (row_out_ne HOWN2.out (Nat.lt_succ_self _))).trim (plus_digs HPL.out), by (repeat' (first | (with_reducible exact Below.refl _ _) | (with_reducible assumption) | (with_reducible refine below_from_drew ?_) | (with_reducible refine Below.alloc ?_ ?_ _) | (with_reducible refine Below.drew ?_) | (with_reducible refine below_drewN ?_ _) | (with_reducible refine Below.setCell ?_ ?_ _) | (with_reducible refine below_via ?_ (by assumption) ?_) | (with_reducible refine below_ov ?_ ?_ _ _) | go_size))⟩
end Go.Proofs.Ytjcbphhemmdnjaa
namespace Go.Proofs.Ytjcbphhemmdnjaa
open Go.RowKit
set_option linter.unusedSimpArgs false
set_option linter.unusedVariables false
-- below_from_drew
attribute [local go_sem] ov_cell_same ov_cell_other ov_frozen_same ov_frozen_other ov_size ov_setCell_same ov_setCell_other cell_alloc_old frozen_alloc_old setCell_alloc_old old_alloc old_ov old_drew old_drewN old_setCell
attribute [local go_sem ↓] run_max2 run_min2

theorem BigR.alloc {w : World} {a : Option Addr} {cap : Nat} {l : List Nat} (h : BigR w a cap l) (o : Obj) : BigR (w.alloc o) a cap l := h.below ((Below.refl _ _).alloc (Nat.le_refl _) _)
theorem minus_c {a b o : List Nat} {i c : Nat} (h : MinusAt a b o i c) : c ≤ 1 := h.2.2.1
theorem minus_len {a b o : List Nat} {i c : Nat} (h : MinusAt a b o i c) : o.length = i := h.1
theorem minus_digs {a b o : List Nat} {i c : Nat} (h : MinusAt a b o i c) : Digs o := h.2.1
/-- The digit, and what is borrowed, as reckoned. -/
def mdig (x t : Nat) : Nat := if x < t then x + 65536 - t else x - t
def mbor (x t : Nat) : Nat := if x < t then 1 else 0
theorem minus_next' {a b o : List Nat} {i c : Nat} (ha : Digs a) (hb : Digs b) (h : MinusAt a b o i c) : MinusAt a b (o ++ [mdig (a.getD i 0) (c + b.getD i 0)]) (i + 1) (mbor (a.getD i 0) (c + b.getD i 0)) := minus_next ha hb h
theorem cmpN_lt {a b : Nat} (h : a < b) : cmpN a b = -1 := by unfold cmpN; rw [if_pos h]
theorem cmpN_ge {a b : Nat} (h : b ≤ a) : 0 ≤ cmpN a b := by unfold cmpN; rw [if_neg (by omega)]; split <;> omega
set_option maxRecDepth 100000 in
set_option maxHeartbeats 4000000 in
theorem plus_ge (s s' : Bool) (hs : (s == s') = false) (aa ab : Option Addr) (ca cb : Nat) (la lb : List Nat) (w : World) (hda : Trim la) (hdb : Trim lb) (hra : BigR w aa ca la) (hrb : BigR w ab cb lb) (hla : la.length ≤ 1000000) (hlb : lb.length ≤ 1000000) (hge : bv lb ≤ bv la) :
    Calls Try.prog 70 #[.agg #[.bool s, .slice aa la.length ca], .agg #[.bool s', .slice ab lb.length cb]] w fun e w' => ∃ a cap, e = .returned (.agg #[.bool (s && decide (0 < bv la - bv lb)), .slice a (dg (bv la - bv lb)).length cap]) ∧ BigR w' a cap (dg (bv la - bv lb)) ∧ Below w.heap.size w w' := by
  obtain ⟨i0, hi, hz0, hz1, hz2⟩ := info_parts info64u
  have HRA := Lib.hid hra; have HRB := Lib.hid hrb
  obtain ⟨h1, h2, h3⟩ := hra
  obtain ⟨g1, g2, g3⟩ := hrb
  have HA := Lib.hid h3; clear h3
  have HB := Lib.hid g3; clear g3
  have HGE := Lib.hid hge
  have hcm := cmpN_ge hge
  have hlen : lb.length ≤ la.length := by
    rcases Nat.lt_or_ge la.length lb.length with h | h
    · have := cmp_len hda hdb h; omega
    · exact h
  have HSZ := Lib.hid (sizes_any aa ab ca cb la lb)
  have HDA := Lib.hid hda; have HDB := Lib.hid hdb; clear hda hdb hge
  generalize cmpN (bv la) (bv lb) = cm at *
  generalize ea : la.length = na at *
  generalize eb : lb.length = nb at *
  have EA := Lib.hid ea; have EB := Lib.hid eb; clear ea eb
  go_enter Try.func70, Try.ntmps70
  go_wp2_with (go_at_call 83; (with_reducible refine (HSZ.out _ HDA.out HDB.out ((((HRA.out.alloc _).alloc _).alloc _)) ((((HRB.out.alloc _).alloc _).alloc _))).mono ?_); rintro e w1 ⟨rfl, hb⟩; refine Exists.elim (after3 (w := w) (b0 := w.heap.size) (cs0 := ?_) (T0 := ?_) (b1 := w.heap.size + 1) (cs1 := ?_) (T1 := ?_) (b2 := w.heap.size + 1 + 1) (cs2 := ?_) (T2 := ?_) hb ?_ ?_ ?_ ?_) ?_; rotate_left 6; (focus ((repeat' (first | (with_reducible exact Below.refl _ _) | (with_reducible assumption) | (with_reducible refine below_from_drew ?_) | (with_reducible refine Below.alloc ?_ ?_ _) | (with_reducible refine Below.drew ?_) | (with_reducible refine below_drewN ?_ _) | (with_reducible refine Below.setCell ?_ ?_ _) | (with_reducible refine below_via ?_ (by assumption) ?_) | (with_reducible refine below_ov ?_ ?_ _ _) | go_size)); done)); (focus ((repeat' (first | (with_reducible refine has_drew ?_) | (with_reducible refine has_drewN ?_) | (with_reducible refine has_new ?_; (first | (with_reducible rfl) | omega | (simp; done) | (simp; omega))) | (with_reducible refine has_ov_same ?_; (first | (with_reducible rfl) | omega | (simp; done) | (simp; omega))) | (with_reducible refine has_alloc ?_) | (with_reducible refine has_ov_other ?_ ?_; (focus (first | (with_reducible rfl) | omega | (simp; done) | (simp; omega)))) | (with_reducible assumption) | (with_reducible exact has_below hB (by assumption)))); done)); (focus ((repeat' (first | (with_reducible refine has_drew ?_) | (with_reducible refine has_drewN ?_) | (with_reducible refine has_new ?_; (first | (with_reducible rfl) | omega | (simp; done) | (simp; omega))) | (with_reducible refine has_ov_same ?_; (first | (with_reducible rfl) | omega | (simp; done) | (simp; omega))) | (with_reducible refine has_alloc ?_) | (with_reducible refine has_ov_other ?_ ?_; (focus (first | (with_reducible rfl) | omega | (simp; done) | (simp; omega)))) | (with_reducible assumption) | (with_reducible exact has_below hB (by assumption)))); done)); (focus ((repeat' (first | (with_reducible refine has_drew ?_) | (with_reducible refine has_drewN ?_) | (with_reducible refine has_new ?_; (first | (with_reducible rfl) | omega | (simp; done) | (simp; omega))) | (with_reducible refine has_ov_same ?_; (first | (with_reducible rfl) | omega | (simp; done) | (simp; omega))) | (with_reducible refine has_alloc ?_) | (with_reducible refine has_ov_other ?_ ?_; (focus (first | (with_reducible rfl) | omega | (simp; done) | (simp; omega)))) | (with_reducible assumption) | (with_reducible exact has_below hB (by assumption)))); done)); rintro uz ⟨rfl, hB, hz, z0, o0, z1, o1, z2, o2⟩; (try simp only [World.size_alloc, World.size_setCell, World.size_drew, ov_size] at hz))
  clear hb hz HSZ hcm
  go_loopw [9, 10, 11] (fun out c i wr => ∃ (k cc : Nat) (o : List Nat), MinusAt la lb o k cc ∧ k ≤ na ∧ c = .int .u64 (cc : Int) ∧ i = .int .i64 (k : Int) ∧ Below w.heap.size w wr ∧ Has wr w.heap.size #[.bool s, .slice aa na ca] 162 ∧ Has wr (w.heap.size + 1) #[.bool s', .slice ab nb cb] 162 ∧ Has wr (w.heap.size + 1 + 1) #[.bool false, .slice none 0 0] 162 ∧ wr.ownsRow (w.heap.size + 1 + 1 + 1) 166 1 out o.length (dvals o)) (fun _ _ i _ => na - (intOf i).toNat)
  case atStart => exact ⟨0, 0, [], minus_zero la lb, by omega, rfl, rfl, by (repeat' (first | (with_reducible exact Below.refl _ _) | (with_reducible assumption) | (with_reducible refine below_from_drew ?_) | (with_reducible refine Below.alloc ?_ ?_ _) | (with_reducible refine Below.drew ?_) | (with_reducible refine below_drewN ?_ _) | (with_reducible refine Below.setCell ?_ ?_ _) | (with_reducible refine below_via ?_ (by assumption) ?_) | (with_reducible refine below_ov ?_ ?_ _ _) | go_size)), by (repeat' (first | (with_reducible refine has_drew ?_) | (with_reducible refine has_drewN ?_) | (with_reducible refine has_new ?_; (first | (with_reducible rfl) | omega | (simp; done) | (simp; omega))) | (with_reducible refine has_ov_same ?_; (first | (with_reducible rfl) | omega | (simp; done) | (simp; omega))) | (with_reducible refine has_alloc ?_) | (with_reducible refine has_ov_other ?_ ?_; (focus (first | (with_reducible rfl) | omega | (simp; done) | (simp; omega)))) | (with_reducible assumption) | (with_reducible exact has_below hB (by assumption)))), by (repeat' (first | (with_reducible refine has_drew ?_) | (with_reducible refine has_drewN ?_) | (with_reducible refine has_new ?_; (first | (with_reducible rfl) | omega | (simp; done) | (simp; omega))) | (with_reducible refine has_ov_same ?_; (first | (with_reducible rfl) | omega | (simp; done) | (simp; omega))) | (with_reducible refine has_alloc ?_) | (with_reducible refine has_ov_other ?_ ?_; (focus (first | (with_reducible rfl) | omega | (simp; done) | (simp; omega)))) | (with_reducible assumption) | (with_reducible exact has_below hB (by assumption)))), by (repeat' (first | (with_reducible refine has_drew ?_) | (with_reducible refine has_drewN ?_) | (with_reducible refine has_new ?_; (first | (with_reducible rfl) | omega | (simp; done) | (simp; omega))) | (with_reducible refine has_ov_same ?_; (first | (with_reducible rfl) | omega | (simp; done) | (simp; omega))) | (with_reducible refine has_alloc ?_) | (with_reducible refine has_ov_other ?_ ?_; (focus (first | (with_reducible rfl) | omega | (simp; done) | (simp; omega)))) | (with_reducible assumption) | (with_reducible exact has_below hB (by assumption)))), World.ownsRow_nil _ _ _ _⟩
  case round =>
    obtain ⟨k, cc, o, hpl, hkb, rfl, rfl, hbw, hh0, hh1, hh2, hown⟩ := hrel
    clear hB z0 o0 z1 o1 z2 o2
    obtain ⟨u, rfl, hBu, hzu, z0, o0, z1, o1, z2, o2⟩ := after3 (w := w) (W := wr) (w1 := wr) (Below.refl _ _) hbw hh0 hh1 hh2
    have hown2 := row_out (row_out (row_out hown (by omega)) (by omega)) (by omega)
    obtain ⟨al, cap, rfl, hrd⟩ := bigR_row hown
    have hol := minus_len hpl
    have hcc := minus_c hpl
    have HOWN := Lib.hid hown; have HOWN2 := Lib.hid hown2; have HPL := Lib.hid hpl; have HRD := Lib.hid hrd; have HOL := Lib.hid hol
    have hcol : o.length ≤ 2000001 := by omega
    clear hown hown2 hpl hbw hh0 hh1 hh2 hrd hol hzu
    have hn := minus_next' HDA.out.1 HDB.out.1 HPL.out
    have q1 := digs_get HDA.out.1 k
    have q2 := digs_get HDB.out.1 k
    have b1 : (cc : Int) ≤ 1 := by omega
    have b4 : (k : Int) ≤ 2000001 := by omega
    rcases Nat.lt_or_ge k na with c1 | c1
    · obtain ⟨ba, rfl, hba, hca⟩ := HA.out (by omega)
      have k1 := (hBu.cell (p := ⟨ba, k, none⟩) hba).trans (hca k c1)
      clear hca
      have c4 : (k : Int) < na := by omega
      rcases Nat.lt_or_ge k nb with c2 | c2
      · obtain ⟨bb, rfl, hbb, hcb⟩ := HB.out (by omega)
        have k2 := (hBu.cell (p := ⟨bb, k, none⟩) hbb).trans (hcb k c2)
        clear hcb
        have c5 : (k : Int) < nb := by omega
        generalize la.getD k 0 = x at *
        generalize lb.getD k 0 = y at *
        have HN := Lib.hid hn; clear hn
        have b2 : (x : Int) ≤ 65535 := by omega
        have b3 : (y : Int) ≤ 65535 := by omega
        rcases Nat.lt_or_ge x (cc + y) with c3 | c3
        · have c6 : (x : Int) < (cc : Int) + y := by omega
          go_wp2_with (at_builtin; refine wpList_append_own _ rfl _ _ 160 rfl (w.heap.size + 1 + 1 + 1) 166 i0 (.int .u64 0) 1 8 Try.underlying160 hi hz0 hz1 hz2 rfl (by decide) _ _ _ rfl (HOWN.out.alloc _) ⟨u.heap.size, 0, none⟩ 1 1 [.int .u64 ((x : Int) + 65536 - ((cc : Int) + y))] rfl rfl ?c1 ?c2 ?c3 ?c4 ?c5 ?_)
          case c1 => exact news_at (by simp only [ov_size])
          case c2 => exact one_of rfl
          case c3 => unfold maxLen; omega
          case c4 => omega
          case c5 => simp; omega
          intro v' w1 hown' hgrow hnil
          clear hnil
          have hne : ∀ bb, bb < w.heap.size + 1 + 1 + 1 → (Value.slice al o.length cap).ownBlock ≠ some bb := fun bb h => row_ne HOWN.out h
          have f0 := has_grown hgrow (b := w.heap.size) (cs := #[.bool s, .slice (some ⟨ba, 0, none⟩) na ca]) (T := 162) (by (repeat' (first | (with_reducible refine has_drew ?_) | (with_reducible refine has_drewN ?_) | (with_reducible refine has_new ?_; (first | (with_reducible rfl) | omega | (simp; done) | (simp; omega))) | (with_reducible refine has_ov_same ?_; (first | (with_reducible rfl) | omega | (simp; done) | (simp; omega))) | (with_reducible refine has_alloc ?_) | (with_reducible refine has_ov_other ?_ ?_; (focus (first | (with_reducible rfl) | omega | (simp; done) | (simp; omega)))) | (with_reducible assumption) | (with_reducible exact has_below hB (by assumption))))) (hne _ (by omega))
          have f1 := has_grown hgrow (b := w.heap.size + 1) (cs := #[.bool s', .slice (some ⟨bb, 0, none⟩) nb cb]) (T := 162) (by (repeat' (first | (with_reducible refine has_drew ?_) | (with_reducible refine has_drewN ?_) | (with_reducible refine has_new ?_; (first | (with_reducible rfl) | omega | (simp; done) | (simp; omega))) | (with_reducible refine has_ov_same ?_; (first | (with_reducible rfl) | omega | (simp; done) | (simp; omega))) | (with_reducible refine has_alloc ?_) | (with_reducible refine has_ov_other ?_ ?_; (focus (first | (with_reducible rfl) | omega | (simp; done) | (simp; omega)))) | (with_reducible assumption) | (with_reducible exact has_below hB (by assumption))))) (hne _ (by omega))
          have f2 := has_grown hgrow (b := w.heap.size + 1 + 1) (cs := #[.bool false, .slice none 0 0]) (T := 162) (by (repeat' (first | (with_reducible refine has_drew ?_) | (with_reducible refine has_drewN ?_) | (with_reducible refine has_new ?_; (first | (with_reducible rfl) | omega | (simp; done) | (simp; omega))) | (with_reducible refine has_ov_same ?_; (first | (with_reducible rfl) | omega | (simp; done) | (simp; omega))) | (with_reducible refine has_alloc ?_) | (with_reducible refine has_ov_other ?_ ?_; (focus (first | (with_reducible rfl) | omega | (simp; done) | (simp; omega)))) | (with_reducible assumption) | (with_reducible exact has_below hB (by assumption))))) (hne _ (by omega))
          have hB1 : Below w.heap.size w w1 := Below.grown (by (repeat' (first | (with_reducible exact Below.refl _ _) | (with_reducible assumption) | (with_reducible refine below_from_drew ?_) | (with_reducible refine Below.alloc ?_ ?_ _) | (with_reducible refine Below.drew ?_) | (with_reducible refine below_drewN ?_ _) | (with_reducible refine Below.setCell ?_ ?_ _) | (with_reducible refine below_via ?_ (by assumption) ?_) | (with_reducible refine below_ov ?_ ?_ _ _) | go_size))) hgrow (by simp; omega) (fun bb h => by have := row_block HOWN.out bb h; omega)
          have HO := Lib.hid hown'
          have F0 := Lib.hid f0; have F1 := Lib.hid f1; have F2 := Lib.hid f2; have HB1 := Lib.hid hB1
          clear hown' hgrow hne f0 f1 f2 hB1
          go_wp2_with fail
          have hd : ((mdig x (cc + y) : Nat) : Int) = (x : Int) + 65536 - ((cc : Int) + y) := by unfold mdig; rw [if_pos (by omega)]; omega
          have hb' : (mbor x (cc + y)) = 1 := by unfold mbor; rw [if_pos (by omega)]
          go_roundw
          case rel => exact ⟨k + 1, mbor x (cc + y), o ++ [mdig x (cc + y)], HN.out, by omega, by rw [hb']; rfl, by go_num, HB1.out, F0.out, F1.out, F2.out, by rw [List.length_append, dvals_snoc, hd]; exact HO.out⟩
          case measure => simp [intOf]; omega
        · have c6 : (cc : Int) + y ≤ x := by omega
          go_wp2_with (at_builtin; refine wpList_append_own _ rfl _ _ 160 rfl (w.heap.size + 1 + 1 + 1) 166 i0 (.int .u64 0) 1 8 Try.underlying160 hi hz0 hz1 hz2 rfl (by decide) _ _ _ rfl (HOWN.out.alloc _) ⟨u.heap.size, 0, none⟩ 1 1 [.int .u64 ((x : Int) - ((cc : Int) + y))] rfl rfl ?d1 ?d2 ?d3 ?d4 ?d5 ?_)
          case d1 => exact news_at (by simp only [ov_size])
          case d2 => exact one_of rfl
          case d3 => unfold maxLen; omega
          case d4 => omega
          case d5 => simp; omega
          intro v' w1 hown' hgrow hnil
          clear hnil
          have hne : ∀ bb, bb < w.heap.size + 1 + 1 + 1 → (Value.slice al o.length cap).ownBlock ≠ some bb := fun bb h => row_ne HOWN.out h
          have f0 := has_grown hgrow (b := w.heap.size) (cs := #[.bool s, .slice (some ⟨ba, 0, none⟩) na ca]) (T := 162) (by (repeat' (first | (with_reducible refine has_drew ?_) | (with_reducible refine has_drewN ?_) | (with_reducible refine has_new ?_; (first | (with_reducible rfl) | omega | (simp; done) | (simp; omega))) | (with_reducible refine has_ov_same ?_; (first | (with_reducible rfl) | omega | (simp; done) | (simp; omega))) | (with_reducible refine has_alloc ?_) | (with_reducible refine has_ov_other ?_ ?_; (focus (first | (with_reducible rfl) | omega | (simp; done) | (simp; omega)))) | (with_reducible assumption) | (with_reducible exact has_below hB (by assumption))))) (hne _ (by omega))
          have f1 := has_grown hgrow (b := w.heap.size + 1) (cs := #[.bool s', .slice (some ⟨bb, 0, none⟩) nb cb]) (T := 162) (by (repeat' (first | (with_reducible refine has_drew ?_) | (with_reducible refine has_drewN ?_) | (with_reducible refine has_new ?_; (first | (with_reducible rfl) | omega | (simp; done) | (simp; omega))) | (with_reducible refine has_ov_same ?_; (first | (with_reducible rfl) | omega | (simp; done) | (simp; omega))) | (with_reducible refine has_alloc ?_) | (with_reducible refine has_ov_other ?_ ?_; (focus (first | (with_reducible rfl) | omega | (simp; done) | (simp; omega)))) | (with_reducible assumption) | (with_reducible exact has_below hB (by assumption))))) (hne _ (by omega))
          have f2 := has_grown hgrow (b := w.heap.size + 1 + 1) (cs := #[.bool false, .slice none 0 0]) (T := 162) (by (repeat' (first | (with_reducible refine has_drew ?_) | (with_reducible refine has_drewN ?_) | (with_reducible refine has_new ?_; (first | (with_reducible rfl) | omega | (simp; done) | (simp; omega))) | (with_reducible refine has_ov_same ?_; (first | (with_reducible rfl) | omega | (simp; done) | (simp; omega))) | (with_reducible refine has_alloc ?_) | (with_reducible refine has_ov_other ?_ ?_; (focus (first | (with_reducible rfl) | omega | (simp; done) | (simp; omega)))) | (with_reducible assumption) | (with_reducible exact has_below hB (by assumption))))) (hne _ (by omega))
          have hB1 : Below w.heap.size w w1 := Below.grown (by (repeat' (first | (with_reducible exact Below.refl _ _) | (with_reducible assumption) | (with_reducible refine below_from_drew ?_) | (with_reducible refine Below.alloc ?_ ?_ _) | (with_reducible refine Below.drew ?_) | (with_reducible refine below_drewN ?_ _) | (with_reducible refine Below.setCell ?_ ?_ _) | (with_reducible refine below_via ?_ (by assumption) ?_) | (with_reducible refine below_ov ?_ ?_ _ _) | go_size))) hgrow (by simp; omega) (fun bb h => by have := row_block HOWN.out bb h; omega)
          have HO := Lib.hid hown'
          have F0 := Lib.hid f0; have F1 := Lib.hid f1; have F2 := Lib.hid f2; have HB1 := Lib.hid hB1
          clear hown' hgrow hne f0 f1 f2 hB1
          go_wp2_with fail
          have hd : ((mdig x (cc + y) : Nat) : Int) = (x : Int) - ((cc : Int) + y) := by unfold mdig; rw [if_neg (by omega)]; omega
          have hb' : (mbor x (cc + y)) = 0 := by unfold mbor; rw [if_neg (by omega)]
          go_roundw
          case rel => exact ⟨k + 1, mbor x (cc + y), o ++ [mdig x (cc + y)], HN.out, by omega, by rw [hb']; rfl, by go_num, HB1.out, F0.out, F1.out, F2.out, by rw [List.length_append, dvals_snoc, hd]; exact HO.out⟩
          case measure => simp [intOf]; omega
      · have c5 : (nb : Int) ≤ k := by omega
        rw [getD_ge (l := lb) (by rw [EB.out]; omega), Nat.add_zero] at hn
        generalize la.getD k 0 = x at *
        have HN := Lib.hid hn; clear hn
        have b2 : (x : Int) ≤ 65535 := by omega
        rcases Nat.lt_or_ge x cc with c3 | c3
        · have c6 : (x : Int) < (cc : Int) := by omega
          go_wp2_with (at_builtin; refine wpList_append_own _ rfl _ _ 160 rfl (w.heap.size + 1 + 1 + 1) 166 i0 (.int .u64 0) 1 8 Try.underlying160 hi hz0 hz1 hz2 rfl (by decide) _ _ _ rfl (HOWN.out.alloc _) ⟨u.heap.size, 0, none⟩ 1 1 [.int .u64 ((x : Int) + 65536 - (cc : Int))] rfl rfl ?e1 ?e2 ?e3 ?e4 ?e5 ?_)
          case e1 => exact news_at (by simp only [ov_size])
          case e2 => exact one_of rfl
          case e3 => unfold maxLen; omega
          case e4 => omega
          case e5 => simp; omega
          intro v' w1 hown' hgrow hnil
          clear hnil
          have hne : ∀ bb, bb < w.heap.size + 1 + 1 + 1 → (Value.slice al o.length cap).ownBlock ≠ some bb := fun bb h => row_ne HOWN.out h
          have f0 := has_grown hgrow (b := w.heap.size) (cs := #[.bool s, .slice (some ⟨ba, 0, none⟩) na ca]) (T := 162) (by (repeat' (first | (with_reducible refine has_drew ?_) | (with_reducible refine has_drewN ?_) | (with_reducible refine has_new ?_; (first | (with_reducible rfl) | omega | (simp; done) | (simp; omega))) | (with_reducible refine has_ov_same ?_; (first | (with_reducible rfl) | omega | (simp; done) | (simp; omega))) | (with_reducible refine has_alloc ?_) | (with_reducible refine has_ov_other ?_ ?_; (focus (first | (with_reducible rfl) | omega | (simp; done) | (simp; omega)))) | (with_reducible assumption) | (with_reducible exact has_below hB (by assumption))))) (hne _ (by omega))
          have f1 := has_grown hgrow (b := w.heap.size + 1) (cs := #[.bool s', .slice ab nb cb]) (T := 162) (by (repeat' (first | (with_reducible refine has_drew ?_) | (with_reducible refine has_drewN ?_) | (with_reducible refine has_new ?_; (first | (with_reducible rfl) | omega | (simp; done) | (simp; omega))) | (with_reducible refine has_ov_same ?_; (first | (with_reducible rfl) | omega | (simp; done) | (simp; omega))) | (with_reducible refine has_alloc ?_) | (with_reducible refine has_ov_other ?_ ?_; (focus (first | (with_reducible rfl) | omega | (simp; done) | (simp; omega)))) | (with_reducible assumption) | (with_reducible exact has_below hB (by assumption))))) (hne _ (by omega))
          have f2 := has_grown hgrow (b := w.heap.size + 1 + 1) (cs := #[.bool false, .slice none 0 0]) (T := 162) (by (repeat' (first | (with_reducible refine has_drew ?_) | (with_reducible refine has_drewN ?_) | (with_reducible refine has_new ?_; (first | (with_reducible rfl) | omega | (simp; done) | (simp; omega))) | (with_reducible refine has_ov_same ?_; (first | (with_reducible rfl) | omega | (simp; done) | (simp; omega))) | (with_reducible refine has_alloc ?_) | (with_reducible refine has_ov_other ?_ ?_; (focus (first | (with_reducible rfl) | omega | (simp; done) | (simp; omega)))) | (with_reducible assumption) | (with_reducible exact has_below hB (by assumption))))) (hne _ (by omega))
          have hB1 : Below w.heap.size w w1 := Below.grown (by (repeat' (first | (with_reducible exact Below.refl _ _) | (with_reducible assumption) | (with_reducible refine below_from_drew ?_) | (with_reducible refine Below.alloc ?_ ?_ _) | (with_reducible refine Below.drew ?_) | (with_reducible refine below_drewN ?_ _) | (with_reducible refine Below.setCell ?_ ?_ _) | (with_reducible refine below_via ?_ (by assumption) ?_) | (with_reducible refine below_ov ?_ ?_ _ _) | go_size))) hgrow (by simp; omega) (fun bb h => by have := row_block HOWN.out bb h; omega)
          have HO := Lib.hid hown'
          have F0 := Lib.hid f0; have F1 := Lib.hid f1; have F2 := Lib.hid f2; have HB1 := Lib.hid hB1
          clear hown' hgrow hne f0 f1 f2 hB1
          go_wp2_with fail
          have hd : ((mdig x (cc) : Nat) : Int) = (x : Int) + 65536 - (cc : Int) := by unfold mdig; rw [if_pos (by omega)]; omega
          have hb' : (mbor x (cc)) = 1 := by unfold mbor; rw [if_pos (by omega)]
          go_roundw
          case rel => exact ⟨k + 1, mbor x (cc), o ++ [mdig x (cc)], HN.out, by omega, by rw [hb']; rfl, by go_num, HB1.out, F0.out, F1.out, F2.out, by rw [List.length_append, dvals_snoc, hd]; exact HO.out⟩
          case measure => simp [intOf]; omega
        · have c6 : (cc : Int) ≤ x := by omega
          go_wp2_with (at_builtin; refine wpList_append_own _ rfl _ _ 160 rfl (w.heap.size + 1 + 1 + 1) 166 i0 (.int .u64 0) 1 8 Try.underlying160 hi hz0 hz1 hz2 rfl (by decide) _ _ _ rfl (HOWN.out.alloc _) ⟨u.heap.size, 0, none⟩ 1 1 [.int .u64 ((x : Int) - (cc : Int))] rfl rfl ?f1 ?f2 ?f3 ?f4 ?f5 ?_)
          case f1 => exact news_at (by simp only [ov_size])
          case f2 => exact one_of rfl
          case f3 => unfold maxLen; omega
          case f4 => omega
          case f5 => simp; omega
          intro v' w1 hown' hgrow hnil
          clear hnil
          have hne : ∀ bb, bb < w.heap.size + 1 + 1 + 1 → (Value.slice al o.length cap).ownBlock ≠ some bb := fun bb h => row_ne HOWN.out h
          have f0 := has_grown hgrow (b := w.heap.size) (cs := #[.bool s, .slice (some ⟨ba, 0, none⟩) na ca]) (T := 162) (by (repeat' (first | (with_reducible refine has_drew ?_) | (with_reducible refine has_drewN ?_) | (with_reducible refine has_new ?_; (first | (with_reducible rfl) | omega | (simp; done) | (simp; omega))) | (with_reducible refine has_ov_same ?_; (first | (with_reducible rfl) | omega | (simp; done) | (simp; omega))) | (with_reducible refine has_alloc ?_) | (with_reducible refine has_ov_other ?_ ?_; (focus (first | (with_reducible rfl) | omega | (simp; done) | (simp; omega)))) | (with_reducible assumption) | (with_reducible exact has_below hB (by assumption))))) (hne _ (by omega))
          have f1 := has_grown hgrow (b := w.heap.size + 1) (cs := #[.bool s', .slice ab nb cb]) (T := 162) (by (repeat' (first | (with_reducible refine has_drew ?_) | (with_reducible refine has_drewN ?_) | (with_reducible refine has_new ?_; (first | (with_reducible rfl) | omega | (simp; done) | (simp; omega))) | (with_reducible refine has_ov_same ?_; (first | (with_reducible rfl) | omega | (simp; done) | (simp; omega))) | (with_reducible refine has_alloc ?_) | (with_reducible refine has_ov_other ?_ ?_; (focus (first | (with_reducible rfl) | omega | (simp; done) | (simp; omega)))) | (with_reducible assumption) | (with_reducible exact has_below hB (by assumption))))) (hne _ (by omega))
          have f2 := has_grown hgrow (b := w.heap.size + 1 + 1) (cs := #[.bool false, .slice none 0 0]) (T := 162) (by (repeat' (first | (with_reducible refine has_drew ?_) | (with_reducible refine has_drewN ?_) | (with_reducible refine has_new ?_; (first | (with_reducible rfl) | omega | (simp; done) | (simp; omega))) | (with_reducible refine has_ov_same ?_; (first | (with_reducible rfl) | omega | (simp; done) | (simp; omega))) | (with_reducible refine has_alloc ?_) | (with_reducible refine has_ov_other ?_ ?_; (focus (first | (with_reducible rfl) | omega | (simp; done) | (simp; omega)))) | (with_reducible assumption) | (with_reducible exact has_below hB (by assumption))))) (hne _ (by omega))
          have hB1 : Below w.heap.size w w1 := Below.grown (by (repeat' (first | (with_reducible exact Below.refl _ _) | (with_reducible assumption) | (with_reducible refine below_from_drew ?_) | (with_reducible refine Below.alloc ?_ ?_ _) | (with_reducible refine Below.drew ?_) | (with_reducible refine below_drewN ?_ _) | (with_reducible refine Below.setCell ?_ ?_ _) | (with_reducible refine below_via ?_ (by assumption) ?_) | (with_reducible refine below_ov ?_ ?_ _ _) | go_size))) hgrow (by simp; omega) (fun bb h => by have := row_block HOWN.out bb h; omega)
          have HO := Lib.hid hown'
          have F0 := Lib.hid f0; have F1 := Lib.hid f1; have F2 := Lib.hid f2; have HB1 := Lib.hid hB1
          clear hown' hgrow hne f0 f1 f2 hB1
          go_wp2_with fail
          have hd : ((mdig x (cc) : Nat) : Int) = (x : Int) - (cc : Int) := by unfold mdig; rw [if_neg (by omega)]; omega
          have hb' : (mbor x (cc)) = 0 := by unfold mbor; rw [if_neg (by omega)]
          go_roundw
          case rel => exact ⟨k + 1, mbor x (cc), o ++ [mdig x (cc)], HN.out, by omega, by rw [hb']; rfl, by go_num, HB1.out, F0.out, F1.out, F2.out, by rw [List.length_append, dvals_snoc, hd]; exact HO.out⟩
          case measure => simp [intOf]; omega
    · clear hn
      have c4 : (na : Int) ≤ k := by omega
      have hsum := minus_end HPL.out (by rw [EA.out]; omega) (by rw [EB.out]; omega) HGE.out
      have HS := Lib.hid hsum; clear hsum
      go_wp2_with (go_at_call 82; (with_reducible refine (trim_any _ _ _ _ _ (minus_digs HPL.out) HRD.out).mono ?_); rintro e w1 ⟨rfl, hb⟩; refine Exists.elim (after3 (w := w) (b0 := w.heap.size) (cs0 := ?_) (T0 := ?_) (b1 := w.heap.size + 1) (cs1 := ?_) (T1 := ?_) (b2 := w.heap.size + 1 + 1) (cs2 := ?_) (T2 := ?_) hb ?_ ?_ ?_ ?_) ?_; rotate_left 6; (focus ((repeat' (first | (with_reducible exact Below.refl _ _) | (with_reducible assumption) | (with_reducible refine below_from_drew ?_) | (with_reducible refine Below.alloc ?_ ?_ _) | (with_reducible refine Below.drew ?_) | (with_reducible refine below_drewN ?_ _) | (with_reducible refine Below.setCell ?_ ?_ _) | (with_reducible refine below_via ?_ (by assumption) ?_) | (with_reducible refine below_ov ?_ ?_ _ _) | go_size)); done)); (focus ((repeat' (first | (with_reducible refine has_drew ?_) | (with_reducible refine has_drewN ?_) | (with_reducible refine has_new ?_; (first | (with_reducible rfl) | omega | (simp; done) | (simp; omega))) | (with_reducible refine has_ov_same ?_; (first | (with_reducible rfl) | omega | (simp; done) | (simp; omega))) | (with_reducible refine has_alloc ?_) | (with_reducible refine has_ov_other ?_ ?_; (focus (first | (with_reducible rfl) | omega | (simp; done) | (simp; omega)))) | (with_reducible assumption) | (with_reducible exact has_below hB (by assumption)))); done)); (focus ((repeat' (first | (with_reducible refine has_drew ?_) | (with_reducible refine has_drewN ?_) | (with_reducible refine has_new ?_; (first | (with_reducible rfl) | omega | (simp; done) | (simp; omega))) | (with_reducible refine has_ov_same ?_; (first | (with_reducible rfl) | omega | (simp; done) | (simp; omega))) | (with_reducible refine has_alloc ?_) | (with_reducible refine has_ov_other ?_ ?_; (focus (first | (with_reducible rfl) | omega | (simp; done) | (simp; omega)))) | (with_reducible assumption) | (with_reducible exact has_below hB (by assumption)))); done)); (focus ((repeat' (first | (with_reducible refine has_drew ?_) | (with_reducible refine has_drewN ?_) | (with_reducible refine has_new ?_; (first | (with_reducible rfl) | omega | (simp; done) | (simp; omega))) | (with_reducible refine has_ov_same ?_; (first | (with_reducible rfl) | omega | (simp; done) | (simp; omega))) | (with_reducible refine has_alloc ?_) | (with_reducible refine has_ov_other ?_ ?_; (focus (first | (with_reducible rfl) | omega | (simp; done) | (simp; omega)))) | (with_reducible assumption) | (with_reducible exact has_below hB (by assumption)))); done)); rintro uz ⟨rfl, hB, hz, z0, o0, z1, o1, z2, o2⟩; (try simp only [World.size_alloc, World.size_setCell, World.size_drew, ov_size] at hz))
      have hr2 := HRD.out.below hb
      refine bodyPost_ret (by simp [results, Try.results70, go_sem, z0, z1, z2]; try rfl) rfl ?_
      exact ⟨al, cap, by rw [HS.out], by rw [← HS.out]; exact (hr2.reov (row_out_ne HOWN2.out (Nat.lt_succ_self _))).trim (minus_digs HPL.out), by (repeat' (first | (with_reducible exact Below.refl _ _) | (with_reducible assumption) | (with_reducible refine below_from_drew ?_) | (with_reducible refine Below.alloc ?_ ?_ _) | (with_reducible refine Below.drew ?_) | (with_reducible refine below_drewN ?_ _) | (with_reducible refine Below.setCell ?_ ?_ _) | (with_reducible refine below_via ?_ (by assumption) ?_) | (with_reducible refine below_ov ?_ ?_ _ _) | go_size))⟩
end Go.Proofs.Ytjcbphhemmdnjaa
