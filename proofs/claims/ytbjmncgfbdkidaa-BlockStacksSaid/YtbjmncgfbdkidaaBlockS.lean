/- block.Stack. -/
import Derived.Test.YtbjmncgfbdkidaaBlock
import Derived.Test.YtbjmncgfbdkidaaBigA
import Derived.LoopTactic
namespace Go.Proofs.Ytbjmncgfbdkidaa
open Go.RowKit
set_option linter.unusedSimpArgs false
set_option linter.unusedVariables false
-- below_from_drew
attribute [local go_sem] ov_cell_same ov_cell_other ov_frozen_same ov_frozen_other ov_size ov_setCell_same ov_setCell_other cell_alloc_old frozen_alloc_old setCell_alloc_old old_alloc old_ov old_drew old_drewN old_setCell
attribute [local go_sem ↓] run_max2 run_min2

theorem infoI : (Try.prog.info? 2).map (fun i => (i.zero, i.size, i.bytes)) = some (some (.int .i64 0), 1, 8) := by kernel_rfl
def ints (ys : List Int) : List Value := ys.map (Value.int .i64)
theorem ints_snoc (ys : List Int) (y : Int) : ints (ys ++ [y]) = ints ys ++ [.int .i64 y] := by simp [ints]
/-- Kids that a slice reads as. -/
def KidsIn (w : World) (a : Option Addr) (ks : List KidZ) : Prop :=
  0 < ks.length → ∃ b, a = some ⟨b, 0, none⟩ ∧ b < w.heap.size ∧ ∀ i, i < ks.length → w.cell? ⟨b, i * 6, none⟩ = some (.int .i64 (ks.getD i k0).u) ∧ w.cell? ⟨b, i * 6 + 1, none⟩ = some (.int .i64 (ks.getD i k0).d) ∧ w.cell? ⟨b, i * 6 + 2, none⟩ = some (.int .i64 (ks.getD i k0).au) ∧ w.cell? ⟨b, i * 6 + 3, none⟩ = some (.int .i64 (ks.getD i k0).ad) ∧ w.cell? ⟨b, i * 6 + 4, none⟩ = some (.int .i64 (ks.getD i k0).h) ∧ w.cell? ⟨b, i * 6 + 5, none⟩ = some (.bool (ks.getD i k0).t)
/-- What is handed back, or it gives up. -/
def OutR (w : World) (o : Option OutZ) (e : Ending) (w' : World) : Prop :=
  Below w.heap.size w w' ∧ ((∃ z a c, o = some z ∧ e = .returned (.agg #[.slice a z.ys.length c, .int .i64 (z.h), .int .i64 (z.bu), .int .i64 (z.bd), .int .i64 (z.au), .int .i64 (z.ad), .bool (z.t)]) ∧ w'.ownsRow w.heap.size 2 1 (.slice a z.ys.length c) z.ys.length (ints z.ys)) ∨ (o = none ∧ e = .panicked (gave 2)))
theorem drop_consK {ks : List KidZ} {k : Nat} (h : k < ks.length) : ks.drop k = ks.getD k k0 :: ks.drop (k + 1) := by
  rw [List.drop_eq_getElem_cons h]; simp [h]
theorem below_of_ov {B : Nat} {w u : World} {b : Nat} {c : Array Value} {T : TypeId} (h : Below B w (ov u b c T)) (hb : B ≤ b) : Below B w u :=
  ⟨h.os, h.tape, h.output, by have := h.size; rw [ov_size] at this; exact this, fun k hk => by
    rw [← h.block k hk]; exact (Array.getElem?_setIfInBounds_ne (by omega)).symm⟩
theorem row_mono {w : World} {base base' size n : Nat} {e : TypeId} {v : Value} {xs : List Value} (h : w.ownsRow base e size v n xs) (hb : base' ≤ base) : w.ownsRow base' e size v n xs := by
  refine ⟨h.1, ?_⟩
  rcases h.2 with h1 | ⟨g, cap, cur, h1, h2, h3⟩
  · exact .inl h1
  · exact .inr ⟨g, cap, cur, h1, Nat.le_trans hb h2, h3⟩
set_option maxRecDepth 100000 in
set_option maxHeartbeats 4000000 in
theorem stack_any (a : Option Addr) (cap : Nat) (ks : List KidZ) (ot ob : Bool) (w : World) (hm : ks.length ≤ 1000) (hcap : ks.length ≤ cap) (hk : KidsIn w a ks) :
    Calls Try.prog 25 #[.slice a ks.length cap, .bool ot, .bool ob] w (OutR w (stackZ ks ot ob)) := by
  obtain ⟨i0, hi, hz0, hz1, hz2⟩ := info_parts infoI
  have HK := Lib.hid hk; clear hk
  generalize hlen : ks.length = n at *
  have HN := Lib.hid hlen; clear hlen
  go_enter Try.func25, Try.ntmps25
  go_wp2_with fail
  go_loopw [18] (fun i wr => ∃ (k : Nat) (s : StZ) (ys : List Int) (bu bd : Int) (al : Option Addr) (ca : Nat), k ≤ n ∧ i = .int .i64 (k : Int) ∧ ys.length = k ∧ runZ ot ⟨0, 0, 0, false⟩ [] 0 0 ks = runZ ot s ys bu bd (ks.drop k) ∧ Below w.heap.size w wr ∧ w.heap.size + 1 + 1 < wr.heap.size ∧
    Has wr w.heap.size #[.slice none 0 0, .int .i64 0, .int .i64 0, .int .i64 0, .int .i64 0, .int .i64 0, .bool false] 51 ∧ Has wr (w.heap.size + 1) #[.bool ot, .int .i64 s.en, .int .i64 s.wu, .int .i64 s.wd, .bool s.ld] 151 ∧ Has wr (w.heap.size + 1 + 1) #[.slice al k ca, .int .i64 0, .int .i64 bu, .int .i64 bd, .int .i64 0, .int .i64 0, .bool false] 51 ∧
    wr.ownsRow (w.heap.size + 1 + 1 + 1) 2 1 (.slice al k ca) k (ints ys)) (fun i _ => n - (intOf i).toNat)
  case atStart => exact ⟨0, ⟨0, 0, 0, false⟩, [], 0, 0, none, 0, Nat.zero_le _, rfl, rfl, rfl, by (repeat' (first | (with_reducible exact Below.refl _ _) | (with_reducible assumption) | (with_reducible refine below_from_drew ?_) | (with_reducible refine Below.alloc ?_ ?_ _) | (with_reducible refine Below.drew ?_) | (with_reducible refine below_drewN ?_ _) | (with_reducible refine Below.setCell ?_ ?_ _) | (with_reducible refine below_via ?_ (by assumption) ?_) | (with_reducible refine below_ov ?_ ?_ _ _) | go_size)), by go_size, by (repeat' (first | (with_reducible refine has_drew ?_) | (with_reducible refine has_drewN ?_) | (with_reducible refine has_new ?_; (first | (with_reducible rfl) | omega | (simp; done) | (simp; omega))) | (with_reducible refine has_ov_same ?_; (first | (with_reducible rfl) | omega | (simp; done) | (simp; omega))) | (with_reducible refine has_alloc ?_) | (with_reducible refine has_ov_other ?_ ?_; (focus (first | (with_reducible rfl) | omega | (simp; done) | (simp; omega)))) | (with_reducible assumption))), by (repeat' (first | (with_reducible refine has_drew ?_) | (with_reducible refine has_drewN ?_) | (with_reducible refine has_new ?_; (first | (with_reducible rfl) | omega | (simp; done) | (simp; omega))) | (with_reducible refine has_ov_same ?_; (first | (with_reducible rfl) | omega | (simp; done) | (simp; omega))) | (with_reducible refine has_alloc ?_) | (with_reducible refine has_ov_other ?_ ?_; (focus (first | (with_reducible rfl) | omega | (simp; done) | (simp; omega)))) | (with_reducible assumption))), by (repeat' (first | (with_reducible refine has_drew ?_) | (with_reducible refine has_drewN ?_) | (with_reducible refine has_new ?_; (first | (with_reducible rfl) | omega | (simp; done) | (simp; omega))) | (with_reducible refine has_ov_same ?_; (first | (with_reducible rfl) | omega | (simp; done) | (simp; omega))) | (with_reducible refine has_alloc ?_) | (with_reducible refine has_ov_other ?_ ?_; (focus (first | (with_reducible rfl) | omega | (simp; done) | (simp; omega)))) | (with_reducible assumption))), World.ownsRow_nil _ _ _ _⟩
  case round =>
    obtain ⟨k, s, ys, bu, bd, al, ca, hkn, rfl, hyl, heq, hbw, hsz, h0, h1, h2, hown⟩ := hrel
    have HOWN := Lib.hid hown; have HEQ := Lib.hid heq; have HBW := Lib.hid hbw; have HYL := Lib.hid hyl
    have H0 := Lib.hid h0; have H1 := Lib.hid h1; have H2 := Lib.hid h2
    clear hown heq hyl
    rcases Nat.lt_or_ge k n with c1 | c1
    · obtain ⟨b, rfl, hbl, hcs⟩ := HK.out (by rw [HN.out]; omega)
      obtain ⟨g0, g1, g2, g3, g4, g5⟩ := hcs k (by rw [HN.out]; exact c1)
      have cw : ∀ o, wr.cell? ⟨b, o, none⟩ = w.cell? ⟨b, o, none⟩ := fun o => hbw.cell (p := ⟨b, o, none⟩) hbl
      have hdr := drop_consK (ks := ks) (k := k) (by rw [HN.out]; exact c1)
      have HDR := Lib.hid hdr; clear hdr hcs
      generalize ks.getD k k0 = x at *
      have c2 : (k : Int) < n := by omega
      clear hbw h0 h1 h2
      go_wp2_with fail
      refine (kid_any (w.heap.size + 1) ot s x _ (has_alloc H1.out)).mono ?_
      rintro e w1 ⟨u, hb, ⟨⟨s', y, tu, td⟩, hq, rfl, rfl⟩ | ⟨hq, rfl, c, rfl⟩⟩
      rotate_left
      · refine ⟨rfl, below_ov (below_via (by have q := HBW.out; (repeat' (first | (with_reducible exact Below.refl _ _) | (with_reducible assumption) | (with_reducible refine below_from_drew ?_) | (with_reducible refine Below.alloc ?_ ?_ _) | (with_reducible refine Below.drew ?_) | (with_reducible refine below_drewN ?_ _) | (with_reducible refine Below.setCell ?_ ?_ _) | (with_reducible refine below_via ?_ (by assumption) ?_) | (with_reducible refine below_ov ?_ ?_ _ _) | go_size))) hb (by go_size)) (by omega) _ _, .inr ⟨?_, rfl⟩⟩
        rw [stackZ, HEQ.out, HDR.out, runZ, hq]; rfl
      have hU0 := has_below hb (has_alloc H0.out)
      have hU2 := has_below hb (has_alloc H2.out)
      have hown := row_below hb (HOWN.out.alloc _)
      have hsu := hb.size
      rw [World.size_alloc] at hsu
      have hbu : Below w.heap.size w u := below_via (by have q := HBW.out; (repeat' (first | (with_reducible exact Below.refl _ _) | (with_reducible assumption) | (with_reducible refine below_from_drew ?_) | (with_reducible refine Below.alloc ?_ ?_ _) | (with_reducible refine Below.drew ?_) | (with_reducible refine below_drewN ?_ _) | (with_reducible refine Below.setCell ?_ ?_ _) | (with_reducible refine below_via ?_ (by assumption) ?_) | (with_reducible refine below_ov ?_ ?_ _ _) | go_size))) hb (by go_size)
      obtain ⟨v, rfl⟩ : ∃ v, u = ov v (w.heap.size + 1 + 1) #[.slice al k ca, .int .i64 0, .int .i64 bu, .int .i64 bd, .int .i64 0, .int .i64 0, .bool false] 51 := ⟨u, (ov_self hU2).symm⟩
      rw [ov_size] at hsu
      have l2 : w.heap.size + 1 + 1 < v.heap.size := by omega
      have l1 : w.heap.size + 1 < v.heap.size := by omega
      have hrow := (row_in (b := w.heap.size + 1) (cs := #[.bool ot, .int .i64 s'.en, .int .i64 s'.wu, .int .i64 s'.wd, .bool s'.ld]) (T := 151) hown (by omega))
      have HROW := Lib.hid hrow; have HQ := Lib.hid hq; have HU0 := Lib.hid hU0; have HBU := Lib.hid hbu
      clear hrow hq hU0 hU2 hown hb hbu
      dsimp only
      go_wp2_with (at_builtin; refine wpList_append_own _ rfl _ _ 47 rfl (w.heap.size + 1 + 1 + 1) 2 i0 (.int .i64 0) 1 8 Try.underlying47 hi hz0 hz1 hz2 rfl (by decide) _ _ _ rfl ((HROW.out.alloc _).alloc _) ⟨v.heap.size + 1, 0, none⟩ 1 1 [.int .i64 y] rfl rfl ?p1 ?p2 ?p3 ?p4 ?p5 ?_)
      case p1 => exact news_at (by simp)
      case p2 => exact one_of rfl
      case p3 => unfold maxLen; omega
      case p4 => omega
      case p5 => simp; omega
      intro v' w2 hown' hgrow hnil
      clear hnil
      have X0 := has_grown hgrow (has_alloc (has_alloc (has_ov_other (by omega) HU0.out))) (row_ne HROW.out (by omega))
      have X1 := has_grown hgrow (has_alloc (has_alloc (has_ov_same (by simp; omega)))) (row_ne HROW.out (by omega))
      have X2 := has_grown hgrow (has_alloc (has_alloc (has_ov_other (by omega) (has_ov_same l2)))) (row_ne HROW.out (by omega))
      have XT := has_grown (b := v.heap.size) hgrow (has_alloc (has_new (by simp))) (row_ne_new HROW.out (by simp))
      have hB2 : Below w.heap.size w w2 := Below.grown (by have q := HBU.out; (repeat' (first | (with_reducible exact Below.refl _ _) | (with_reducible assumption) | (with_reducible refine below_from_drew ?_) | (with_reducible refine Below.alloc ?_ ?_ _) | (with_reducible refine Below.drew ?_) | (with_reducible refine below_drewN ?_ _) | (with_reducible refine Below.setCell ?_ ?_ _) | (with_reducible refine below_via ?_ (by assumption) ?_) | (with_reducible refine below_ov ?_ ?_ _ _) | go_size))) hgrow (by simp; omega) (fun bb h => by have := row_block HROW.out bb h; omega)
      have hsz2 := hgrow.size
      simp only [World.size_alloc, ov_size] at hsz2
      obtain ⟨al', ca', rfl, _⟩ := row_reads hown'
      have l4 : v.heap.size < w2.heap.size := by omega
      have q0 := XT.cells; have q1 := XT.frozen
      have HO2 := Lib.hid hown'; have Y0 := Lib.hid X0; have Y1 := Lib.hid X1; have HB2 := Lib.hid hB2
      rw [← ov_self X2]
      clear hown' X0 X1 X2 hB2 hgrow XT
      have l5 : w.heap.size + 1 + 1 < w2.heap.size := by omega
      go_wp2_with fail
      refine (mwith_any bu bd tu td _).mono ?_
      rintro e w3 ⟨rfl, hb3⟩
      have Z0 := has_below hb3 (has_ov_other (by omega) Y0.out)
      have Z1 := has_below hb3 (has_ov_other (by omega) Y1.out)
      have Z2 := has_below hb3 (has_ov_same l5)
      have hrow3 := row_below hb3 (row_in HO2.out (by omega))
      have hB3 : Below w.heap.size w w3 := below_via (by have q := HB2.out; (repeat' (first | (with_reducible exact Below.refl _ _) | (with_reducible assumption) | (with_reducible refine below_from_drew ?_) | (with_reducible refine Below.alloc ?_ ?_ _) | (with_reducible refine Below.drew ?_) | (with_reducible refine below_drewN ?_ _) | (with_reducible refine Below.setCell ?_ ?_ _) | (with_reducible refine below_via ?_ (by assumption) ?_) | (with_reducible refine below_ov ?_ ?_ _ _) | go_size))) hb3 (by simp; omega)
      have hsz3 := hb3.size
      rw [ov_size] at hsz3
      have l6 : w.heap.size + 1 + 1 < w3.heap.size := by omega
      have J0 := Lib.hid Z0; have J1 := Lib.hid Z1; have HR3 := Lib.hid hrow3; have HB3 := Lib.hid hB3
      rw [← ov_self Z2]
      clear Z0 Z1 Z2 hrow3 hB3 hb3
      go_wp2_with fail
      go_roundw
      case rel => exact ⟨k + 1, s', ys ++ [y], max bu tu, min bd td, al', ca', by omega, by go_num, by simp [HYL.out], by rw [HEQ.out, HDR.out, runZ, HQ.out]; rfl, by have q := HB3.out; (repeat' (first | (with_reducible exact Below.refl _ _) | (with_reducible assumption) | (with_reducible refine below_from_drew ?_) | (with_reducible refine Below.alloc ?_ ?_ _) | (with_reducible refine Below.drew ?_) | (with_reducible refine below_drewN ?_ _) | (with_reducible refine Below.setCell ?_ ?_ _) | (with_reducible refine below_via ?_ (by assumption) ?_) | (with_reducible refine below_ov ?_ ?_ _ _) | go_size)), by rw [ov_size]; omega, has_ov_other (by omega) J0.out, has_ov_other (by omega) J1.out, has_ov_same l6, by rw [ints_snoc]; exact row_in HR3.out (by omega)⟩
      case measure => simp [intOf]; omega
    · obtain rfl : k = n := by omega
      have hnil0 : ks.drop k = [] := List.drop_eq_nil_of_le (by rw [HN.out]; omega)
      have hz := HEQ.out
      rw [hnil0, runZ] at hz
      have HZ := Lib.hid hz
      clear hz hnil0 HEQ c1
      obtain ⟨en, wu, wd, ld⟩ := s
      dsimp only at h1 H1
      obtain rfl := HYL.out
      have q1 := h1.cells; have f1 := h1.frozen; have l1 := h1.lt; have o1 : Old wr (w.heap.size + 1) := l1
      have l0 := h0.lt; have l2 := h2.lt
      have o0 : Old wr w.heap.size := l0
      have o2 : Old wr (w.heap.size + 1 + 1) := l2
      have hc : (ld = true ∧ ob = true) ∨ (ld = true ∧ ob = false) ∨ (ld = false ∧ ot = false ∧ ob = false) ∨ (ld = false ∧ ot = true) ∨ (ld = false ∧ ot = false ∧ ob = true) := by
        cases ld <;> cases ob <;> cases ot <;> simp
      have c3 : (ys.length : Int) ≤ ys.length := by omega
      rcases hc with ⟨rfl, rfl⟩ | hc
      · rw [← ov_self h2]
        have HH1 := Lib.hid h1
        clear h0 h2 hbw
        go_wp2_with fail
        refine region_ordS (S := But ((w.heap.size + 1 + 1)) wr.heap.size wr) (by (repeat' (first | (with_reducible assumption) | (with_reducible exact But.refl _ _ _) | (with_reducible refine But.alloc ?_ ?_ _) | (with_reducible refine But.drew ?_) | (with_reducible refine But.ovs ?_ _ _) | (with_reducible refine But.ovn ?_ ?_ _ _) | go_size | omega))) [(0, 0), (1, 0), (2, 0), (3, 0), (4, 0), (5, 0), (6, 0), (7, 0), (8, 0), (9, 1), (10, 0), (11, 2)] (by kernel_rfl) (by kernel_rfl) (fun _ _ d _ _ h => by cases d <;> exact h) (fun hS => ?_)
        (refine wpG_read (v := ?_) rfl (.inl ⟨by rfl, fun wx hbx => ?_⟩) ?_; rotate_left; (focus (have qx0 := hbx.has HH1.out (by omega); have cx0 := qx0.cells; have fx0 := qx0.frozen; have zx0 := qx0.lt; clear qx0; go_simp; (try go_bits); (try with_reducible rfl))); try simp only [Act.put, List.setIfInBounds_toArray, List.set_cons_zero, List.set_cons_succ])
        (refine wpG_read (v := ?_) rfl (.inl ⟨by rfl, fun wx hbx => ?_⟩) ?_; rotate_left; (focus (have qx0 := hbx.has HH1.out (by omega); have cx0 := qx0.cells; have fx0 := qx0.frozen; have zx0 := qx0.lt; clear qx0; go_simp; (try go_bits); (try with_reducible rfl))); try simp only [Act.put, List.setIfInBounds_toArray, List.set_cons_zero, List.set_cons_succ])
        (refine wpG_read (v := ?_) rfl (.inl ⟨by rfl, fun wx hbx => ?_⟩) ?_; rotate_left; (focus (have qx0 := hbx.has HH1.out (by omega); have cx0 := qx0.cells; have fx0 := qx0.frozen; have zx0 := qx0.lt; clear qx0; go_simp; (try go_bits); (try with_reducible rfl))); try simp only [Act.put, List.setIfInBounds_toArray, List.set_cons_zero, List.set_cons_succ])
        (refine wpG_read (v := ?_) rfl (.inl ⟨by rfl, fun wx hbx => ?_⟩) ?_; rotate_left; (focus (have qx0 := hbx.has HH1.out (by omega); have cx0 := qx0.cells; have fx0 := qx0.frozen; have zx0 := qx0.lt; clear qx0; go_simp; (try go_bits); (try with_reducible rfl))); try simp only [Act.put, List.setIfInBounds_toArray, List.set_cons_zero, List.set_cons_succ])
        (refine wpG_read (v := ?_) rfl (.inl ⟨by rfl, fun wx hbx => ?_⟩) ?_; rotate_left; (focus (have qx0 := hbx.has HH1.out (by omega); have cx0 := qx0.cells; have fx0 := qx0.frozen; have zx0 := qx0.lt; clear qx0; go_simp; (try go_bits); (try with_reducible rfl))); try simp only [Act.put, List.setIfInBounds_toArray, List.set_cons_zero, List.set_cons_succ])
        (refine wpG_read (v := ?_) rfl (.inl ⟨by rfl, fun wx hbx => ?_⟩) ?_; rotate_left; (focus (have qx0 := hbx.has HH1.out (by omega); have cx0 := qx0.cells; have fx0 := qx0.frozen; have zx0 := qx0.lt; clear qx0; go_simp; (try go_bits); (try with_reducible rfl))); try simp only [Act.put, List.setIfInBounds_toArray, List.set_cons_zero, List.set_cons_succ])
        (refine wpG_read (v := ?_) rfl (.inl ⟨by rfl, fun wx hbx => ?_⟩) ?_; rotate_left; (focus (have qx0 := hbx.has HH1.out (by omega); have cx0 := qx0.cells; have fx0 := qx0.frozen; have zx0 := qx0.lt; clear qx0; go_simp; (try go_bits); (try with_reducible rfl))); try simp only [Act.put, List.setIfInBounds_toArray, List.set_cons_zero, List.set_cons_succ])
        (refine wpG_read (v := ?_) rfl (.inl ⟨by rfl, fun wx hbx => ?_⟩) ?_; rotate_left; (focus (have qx0 := hbx.has HH1.out (by omega); have cx0 := qx0.cells; have fx0 := qx0.frozen; have zx0 := qx0.lt; clear qx0; go_simp; (try go_bits); (try with_reducible rfl))); try simp only [Act.put, List.setIfInBounds_toArray, List.set_cons_zero, List.set_cons_succ])
        (refine wpG_read (v := ?_) rfl (.inl ⟨by rfl, fun wx hbx => ?_⟩) ?_; rotate_left; (focus (have qx0 := hbx.has HH1.out (by omega); have cx0 := qx0.cells; have fx0 := qx0.frozen; have zx0 := qx0.lt; clear qx0; go_simp; (try go_bits); (try with_reducible rfl))); try simp only [Act.put, List.setIfInBounds_toArray, List.set_cons_zero, List.set_cons_succ])
        (refine wpG_make rfl (fun K hK => ?_); go_simp; (try simp only []); (try simp only []); refine hK _ _ ?_ (fun hS2 => ?_); (focus ((repeat' (first | (with_reducible assumption) | (with_reducible exact But.refl _ _ _) | (with_reducible refine But.alloc ?_ ?_ _) | (with_reducible refine But.drew ?_) | (with_reducible refine But.ovs ?_ _ _) | (with_reducible refine But.ovn ?_ ?_ _ _) | go_size | omega)); done)); clear hK K hS; have hS := hS2; clear hS2; (try clear hb); try simp only [Act.put, List.setIfInBounds_toArray, List.set_cons_zero, List.set_cons_succ])
        (refine wpG_read (v := ?_) rfl (.inl ⟨by rfl, fun wx hbx => ?_⟩) ?_; rotate_left; (focus (have qx0 := hbx.has HH1.out (by omega); have cx0 := qx0.cells; have fx0 := qx0.frozen; have zx0 := qx0.lt; clear qx0; go_simp; (try go_bits); (try with_reducible rfl))); try simp only [Act.put, List.setIfInBounds_toArray, List.set_cons_zero, List.set_cons_succ])
        (refine wpG_late rfl (fun K hK => ?_); go_simp; (try simp only []); (try simp only []); refine hK _ _ ?_; clear hK K; try simp only [Act.put, List.setIfInBounds_toArray, List.set_cons_zero, List.set_cons_succ])
        refine wpG_nil ?_
        rw [← ov_self H0.out]
        go_wp2_with fail
        refine bodyPost_ret (by simp [results, Try.results25, go_sem, l0, l1, l2, o0, o1, o2]; try rfl) rfl ?_
        exact ⟨by have q := HBW.out; (repeat' (first | (with_reducible exact Below.refl _ _) | (with_reducible assumption) | (with_reducible refine below_from_drew ?_) | (with_reducible refine Below.alloc ?_ ?_ _) | (with_reducible refine Below.drew ?_) | (with_reducible refine below_drewN ?_ _) | (with_reducible refine Below.setCell ?_ ?_ _) | (with_reducible refine below_via ?_ (by assumption) ?_) | (with_reducible refine below_ov ?_ ?_ _ _) | go_size)), .inl ⟨⟨ys, max en 0, bu, bd, wu, wd, false⟩, al, ca, by rw [stackZ, HZ.out]; simp [endZ], rfl, row_mono (base := w.heap.size + 1 + 1 + 1) (row_in (row_in HOWN.out (by omega)) (by omega)) (by omega)⟩⟩
      · have HH1 := Lib.hid h1; have HH2 := Lib.hid h2
        clear h0 h1 h2
        rcases hc with ⟨rfl, rfl⟩ | ⟨rfl, rfl, rfl⟩ | hc
        · clear hbw
          go_wp2_with fail
          refine region_ord [(0, 0), (1, 0), (2, 0), (3, 0), (4, 0), (5, 0), (6, 0), (7, 0), (8, 1), (9, 1), (10, 1), (11, 0), (12, 2)] (by kernel_rfl) (by kernel_rfl) (fun _ _ d _ _ h => by cases d <;> exact h) (fun hS => ?_)
          (refine wpG_read (v := ?_) rfl (.inl ⟨by rfl, fun wx hbx => ?_⟩) ?_; rotate_left; (focus (obtain ⟨cx0, fx0, zx0⟩ := bk hbx (w.heap.size + 1) (by first | omega | (simp; done) | (simp; omega)); go_simp; (try go_bits); (try with_reducible rfl))); try simp only [Act.put, List.setIfInBounds_toArray, List.set_cons_zero, List.set_cons_succ])
          (refine wpG_read (v := ?_) rfl (.inl ⟨by rfl, fun wx hbx => ?_⟩) ?_; rotate_left; (focus (obtain ⟨cx0, fx0, zx0⟩ := bk hbx (w.heap.size + 1) (by first | omega | (simp; done) | (simp; omega)); go_simp; (try go_bits); (try with_reducible rfl))); try simp only [Act.put, List.setIfInBounds_toArray, List.set_cons_zero, List.set_cons_succ])
          (refine wpG_read (v := ?_) rfl (.inl ⟨by rfl, fun wx hbx => ?_⟩) ?_; rotate_left; (focus (obtain ⟨cx0, fx0, zx0⟩ := bk hbx (w.heap.size + 1) (by first | omega | (simp; done) | (simp; omega)); go_simp; (try go_bits); (try with_reducible rfl))); try simp only [Act.put, List.setIfInBounds_toArray, List.set_cons_zero, List.set_cons_succ])
          (refine wpG_read (v := ?_) rfl (.inl ⟨by rfl, fun wx hbx => ?_⟩) ?_; rotate_left; (focus (obtain ⟨cx0, fx0, zx0⟩ := bk hbx (w.heap.size + 1) (by first | omega | (simp; done) | (simp; omega)); go_simp; (try go_bits); (try with_reducible rfl))); try simp only [Act.put, List.setIfInBounds_toArray, List.set_cons_zero, List.set_cons_succ])
          (refine wpG_read (v := ?_) rfl (.inl ⟨by rfl, fun wx hbx => ?_⟩) ?_; rotate_left; (focus (obtain ⟨cx0, fx0, zx0⟩ := bk hbx (w.heap.size + 1) (by first | omega | (simp; done) | (simp; omega)); go_simp; (try go_bits); (try with_reducible rfl))); try simp only [Act.put, List.setIfInBounds_toArray, List.set_cons_zero, List.set_cons_succ])
          (refine wpG_read (v := ?_) rfl (.inl ⟨by rfl, fun wx hbx => ?_⟩) ?_; rotate_left; (focus (obtain ⟨cx0, fx0, zx0⟩ := bk hbx (w.heap.size + 1) (by first | omega | (simp; done) | (simp; omega)); go_simp; (try go_bits); (try with_reducible rfl))); try simp only [Act.put, List.setIfInBounds_toArray, List.set_cons_zero, List.set_cons_succ])
          (refine wpG_read (v := ?_) rfl (.inl ⟨by rfl, fun wx hbx => ?_⟩) ?_; rotate_left; (focus (obtain ⟨cx0, fx0, zx0⟩ := bk hbx (w.heap.size + 1) (by first | omega | (simp; done) | (simp; omega)); go_simp; (try go_bits); (try with_reducible rfl))); try simp only [Act.put, List.setIfInBounds_toArray, List.set_cons_zero, List.set_cons_succ])
          (refine wpG_read (v := ?_) rfl (.inl ⟨by rfl, fun wx hbx => ?_⟩) ?_; rotate_left; (focus (obtain ⟨cx0, fx0, zx0⟩ := bk hbx (w.heap.size + 1) (by first | omega | (simp; done) | (simp; omega)); go_simp; (try go_bits); (try with_reducible rfl))); try simp only [Act.put, List.setIfInBounds_toArray, List.set_cons_zero, List.set_cons_succ])
          (refine wpG_make rfl (fun K hK => ?_); go_simp; (go_at_call 73; (with_reducible refine (msum_any wu wd _).mono ?_); rintro e w1 ⟨⟨m, hm, rfl⟩ | ⟨hm, rfl⟩, hb⟩; rotate_left; (focus (exact ⟨rfl, by have q := HBW.out; exact (by (repeat' (first | (with_reducible exact Below.refl _ _) | (with_reducible assumption) | (with_reducible refine below_from_drew ?_) | (with_reducible refine Below.alloc ?_ ?_ _) | (with_reducible refine Below.drew ?_) | (with_reducible refine below_drewN ?_ _) | (with_reducible refine Below.setCell ?_ ?_ _) | (with_reducible refine below_via ?_ (by assumption) ?_) | (with_reducible refine below_ov ?_ ?_ _ _) | go_size))), .inr ⟨by rw [stackZ, HZ.out]; simp [endZ, hm], rfl⟩⟩)); refine Exists.elim (after0 (w := wr) hb ?_) ?_; (focus ((repeat' (first | (with_reducible exact Below.refl _ _) | (with_reducible assumption) | (with_reducible refine below_from_drew ?_) | (with_reducible refine Below.alloc ?_ ?_ _) | (with_reducible refine Below.drew ?_) | (with_reducible refine below_drewN ?_ _) | (with_reducible refine Below.setCell ?_ ?_ _) | (with_reducible refine below_via ?_ (by assumption) ?_) | (with_reducible refine below_ov ?_ ?_ _ _) | go_size)); done)); rintro u3 ⟨rfl, hB, hz⟩; (try simp only [World.size_alloc, World.size_setCell, World.size_drew, ov_size] at hz)); have K0 := has_below hB H0.out; have K1 := has_below hB HH1.out; have K2 := has_below hB HH2.out; have HR := Lib.hid (row_below hB HOWN.out); clear q1 f1 l0 l1 l2 o0 o1 o2; obtain ⟨v, rfl⟩ : ∃ v, w1 = ov (ov (ov v w.heap.size #[.slice none 0 0, .int .i64 0, .int .i64 0, .int .i64 0, .int .i64 0, .int .i64 0, .bool false] 51) (w.heap.size + 1) #[.bool ot, .int .i64 en, .int .i64 wu, .int .i64 wd, .bool true] 151) (w.heap.size + 1 + 1) #[.slice al ys.length ca, .int .i64 0, .int .i64 bu, .int .i64 bd, .int .i64 0, .int .i64 0, .bool false] 51 := ⟨w1, by rw [ov_self K0, ov_self K1, ov_self K2]⟩; clear K0 K1 K2; have HBV := Lib.hid (below_of_ov (below_of_ov (below_of_ov (below_via HBW.out hB HBW.out.size) (by omega)) (by omega)) (by omega)); simp only [ov_size] at hz; have l0 : w.heap.size < v.heap.size := (by omega); have l1 : w.heap.size + 1 < v.heap.size := (by omega); have l2 : w.heap.size + 1 + 1 < v.heap.size := (by omega); have o0 : Old v w.heap.size := l0; have o1 : Old v (w.heap.size + 1) := l1; have o2 : Old v (w.heap.size + 1 + 1) := l2; (try simp only []); refine hK _ _ ?_ (fun hS2 => ?_); (focus ((repeat' (first | (with_reducible exact Below.refl _ _) | (with_reducible assumption) | (with_reducible refine below_from_drew ?_) | (with_reducible refine Below.alloc ?_ ?_ _) | (with_reducible refine Below.drew ?_) | (with_reducible refine below_drewN ?_ _) | (with_reducible refine Below.setCell ?_ ?_ _) | (with_reducible refine below_via ?_ (by assumption) ?_) | (with_reducible refine below_ov ?_ ?_ _ _) | go_size)); done)); clear hK K hS; have hS := hS2; clear hS2; (try clear hb); try simp only [Act.put, List.setIfInBounds_toArray, List.set_cons_zero, List.set_cons_succ])
          (refine wpG_make rfl (fun K hK => ?_); go_simp; (try simp only []); (try simp only []); refine hK _ _ ?_ (fun hS2 => ?_); (focus ((repeat' (first | (with_reducible exact Below.refl _ _) | (with_reducible assumption) | (with_reducible refine below_from_drew ?_) | (with_reducible refine Below.alloc ?_ ?_ _) | (with_reducible refine Below.drew ?_) | (with_reducible refine below_drewN ?_ _) | (with_reducible refine Below.setCell ?_ ?_ _) | (with_reducible refine below_via ?_ (by assumption) ?_) | (with_reducible refine below_ov ?_ ?_ _ _) | go_size)); done)); clear hK K hS; have hS := hS2; clear hS2; (try clear hb); try simp only [Act.put, List.setIfInBounds_toArray, List.set_cons_zero, List.set_cons_succ])
          (refine wpG_make rfl (fun K hK => ?_); go_simp; (go_at_call 72; (with_reducible refine (add_any _ 2 2 [en, m] _ rfl (by (intro i hi; rcases i with _ | _ | _ | _ | _ | _ | _ | _ | i <;> first | (simp; done) | (go_simp; done) | (simp at hi; done) | omega)) (by omega)).mono ?_); rintro e w1 ⟨⟨hh, hhh, rfl⟩ | ⟨hhh, rfl⟩, rfl⟩; rotate_left; (focus (exact ⟨rfl, by have q := HBW.out; exact (by (repeat' (first | (with_reducible exact Below.refl _ _) | (with_reducible assumption) | (with_reducible refine below_from_drew ?_) | (with_reducible refine Below.alloc ?_ ?_ _) | (with_reducible refine Below.drew ?_) | (with_reducible refine below_drewN ?_ _) | (with_reducible refine Below.setCell ?_ ?_ _) | (with_reducible refine below_via ?_ (by assumption) ?_) | (with_reducible refine below_ov ?_ ?_ _ _) | go_size))), .inr ⟨by rw [stackZ, HZ.out]; simp [endZ, hm, hhh], rfl⟩⟩))); (try simp only []); refine hK _ _ ?_ (fun hS2 => ?_); (focus ((repeat' (first | (with_reducible exact Below.refl _ _) | (with_reducible assumption) | (with_reducible refine below_from_drew ?_) | (with_reducible refine Below.alloc ?_ ?_ _) | (with_reducible refine Below.drew ?_) | (with_reducible refine below_drewN ?_ _) | (with_reducible refine Below.setCell ?_ ?_ _) | (with_reducible refine below_via ?_ (by assumption) ?_) | (with_reducible refine below_ov ?_ ?_ _ _) | go_size)); done)); clear hK K hS; have hS := hS2; clear hS2; (try clear hb); try simp only [Act.put, List.setIfInBounds_toArray, List.set_cons_zero, List.set_cons_succ])
          (refine wpG_read (v := ?_) rfl (.inl ⟨by rfl, fun wx hbx => ?_⟩) ?_; rotate_left; (focus (obtain ⟨cx0, fx0, zx0⟩ := bk hbx (w.heap.size + 1) (by first | omega | (simp; done) | (simp; omega)); go_simp; (try go_bits); (try with_reducible rfl))); try simp only [Act.put, List.setIfInBounds_toArray, List.set_cons_zero, List.set_cons_succ])
          (refine wpG_late rfl (fun K hK => ?_); go_simp; (try simp only []); (try simp only []); refine hK _ _ ?_; clear hK K; try simp only [Act.put, List.setIfInBounds_toArray, List.set_cons_zero, List.set_cons_succ])
          refine wpG_nil ?_
          have HM := Lib.hid hm; have HHH := Lib.hid hhh; clear hm hhh
          go_wp2_with fail
          refine bodyPost_ret (by simp [results, Try.results25, go_sem, l0, l1, l2, o0, o1, o2]; try rfl) rfl ?_
          exact ⟨by have q := HBV.out; (repeat' (first | (with_reducible exact Below.refl _ _) | (with_reducible assumption) | (with_reducible refine below_from_drew ?_) | (with_reducible refine Below.alloc ?_ ?_ _) | (with_reducible refine Below.drew ?_) | (with_reducible refine below_drewN ?_ _) | (with_reducible refine Below.setCell ?_ ?_ _) | (with_reducible refine below_via ?_ (by assumption) ?_) | (with_reducible refine below_ov ?_ ?_ _ _) | go_size)), .inl ⟨⟨ys, max hh 0, bu, bd, 0, 0, false⟩, al, ca, by rw [stackZ, HZ.out]; simp [endZ, HM.out, HHH.out], rfl, row_mono (base := w.heap.size + 1 + 1 + 1) (((row_in (row_in (row_in (row_out (row_out (row_out HR.out (by omega)) (by omega)) (by omega)) (by omega)) (by omega)) (by omega)).alloc _)) (by omega)⟩⟩
        · clear hbw
          go_wp2_with fail
          refine region_ord [(0, 0), (1, 0), (2, 0), (3, 0), (4, 0), (5, 0), (6, 0), (7, 0), (8, 1), (9, 1), (10, 1), (11, 0), (12, 2)] (by kernel_rfl) (by kernel_rfl) (fun _ _ d _ _ h => by cases d <;> exact h) (fun hS => ?_)
          (refine wpG_read (v := ?_) rfl (.inl ⟨by rfl, fun wx hbx => ?_⟩) ?_; rotate_left; (focus (obtain ⟨cx0, fx0, zx0⟩ := bk hbx (w.heap.size + 1) (by first | omega | (simp; done) | (simp; omega)); go_simp; (try go_bits); (try with_reducible rfl))); try simp only [Act.put, List.setIfInBounds_toArray, List.set_cons_zero, List.set_cons_succ])
          (refine wpG_read (v := ?_) rfl (.inl ⟨by rfl, fun wx hbx => ?_⟩) ?_; rotate_left; (focus (obtain ⟨cx0, fx0, zx0⟩ := bk hbx (w.heap.size + 1) (by first | omega | (simp; done) | (simp; omega)); go_simp; (try go_bits); (try with_reducible rfl))); try simp only [Act.put, List.setIfInBounds_toArray, List.set_cons_zero, List.set_cons_succ])
          (refine wpG_read (v := ?_) rfl (.inl ⟨by rfl, fun wx hbx => ?_⟩) ?_; rotate_left; (focus (obtain ⟨cx0, fx0, zx0⟩ := bk hbx (w.heap.size + 1) (by first | omega | (simp; done) | (simp; omega)); go_simp; (try go_bits); (try with_reducible rfl))); try simp only [Act.put, List.setIfInBounds_toArray, List.set_cons_zero, List.set_cons_succ])
          (refine wpG_read (v := ?_) rfl (.inl ⟨by rfl, fun wx hbx => ?_⟩) ?_; rotate_left; (focus (obtain ⟨cx0, fx0, zx0⟩ := bk hbx (w.heap.size + 1) (by first | omega | (simp; done) | (simp; omega)); go_simp; (try go_bits); (try with_reducible rfl))); try simp only [Act.put, List.setIfInBounds_toArray, List.set_cons_zero, List.set_cons_succ])
          (refine wpG_read (v := ?_) rfl (.inl ⟨by rfl, fun wx hbx => ?_⟩) ?_; rotate_left; (focus (obtain ⟨cx0, fx0, zx0⟩ := bk hbx (w.heap.size + 1) (by first | omega | (simp; done) | (simp; omega)); go_simp; (try go_bits); (try with_reducible rfl))); try simp only [Act.put, List.setIfInBounds_toArray, List.set_cons_zero, List.set_cons_succ])
          (refine wpG_read (v := ?_) rfl (.inl ⟨by rfl, fun wx hbx => ?_⟩) ?_; rotate_left; (focus (obtain ⟨cx0, fx0, zx0⟩ := bk hbx (w.heap.size + 1) (by first | omega | (simp; done) | (simp; omega)); go_simp; (try go_bits); (try with_reducible rfl))); try simp only [Act.put, List.setIfInBounds_toArray, List.set_cons_zero, List.set_cons_succ])
          (refine wpG_read (v := ?_) rfl (.inl ⟨by rfl, fun wx hbx => ?_⟩) ?_; rotate_left; (focus (obtain ⟨cx0, fx0, zx0⟩ := bk hbx (w.heap.size + 1) (by first | omega | (simp; done) | (simp; omega)); go_simp; (try go_bits); (try with_reducible rfl))); try simp only [Act.put, List.setIfInBounds_toArray, List.set_cons_zero, List.set_cons_succ])
          (refine wpG_read (v := ?_) rfl (.inl ⟨by rfl, fun wx hbx => ?_⟩) ?_; rotate_left; (focus (obtain ⟨cx0, fx0, zx0⟩ := bk hbx (w.heap.size + 1) (by first | omega | (simp; done) | (simp; omega)); go_simp; (try go_bits); (try with_reducible rfl))); try simp only [Act.put, List.setIfInBounds_toArray, List.set_cons_zero, List.set_cons_succ])
          (refine wpG_make rfl (fun K hK => ?_); go_simp; (go_at_call 73; (with_reducible refine (msum_any wu wd _).mono ?_); rintro e w1 ⟨⟨m, hm, rfl⟩ | ⟨hm, rfl⟩, hb⟩; rotate_left; (focus (exact ⟨rfl, by have q := HBW.out; exact (by (repeat' (first | (with_reducible exact Below.refl _ _) | (with_reducible assumption) | (with_reducible refine below_from_drew ?_) | (with_reducible refine Below.alloc ?_ ?_ _) | (with_reducible refine Below.drew ?_) | (with_reducible refine below_drewN ?_ _) | (with_reducible refine Below.setCell ?_ ?_ _) | (with_reducible refine below_via ?_ (by assumption) ?_) | (with_reducible refine below_ov ?_ ?_ _ _) | go_size))), .inr ⟨by rw [stackZ, HZ.out]; simp [endZ, hm], rfl⟩⟩)); refine Exists.elim (after0 (w := wr) hb ?_) ?_; (focus ((repeat' (first | (with_reducible exact Below.refl _ _) | (with_reducible assumption) | (with_reducible refine below_from_drew ?_) | (with_reducible refine Below.alloc ?_ ?_ _) | (with_reducible refine Below.drew ?_) | (with_reducible refine below_drewN ?_ _) | (with_reducible refine Below.setCell ?_ ?_ _) | (with_reducible refine below_via ?_ (by assumption) ?_) | (with_reducible refine below_ov ?_ ?_ _ _) | go_size)); done)); rintro u3 ⟨rfl, hB, hz⟩; (try simp only [World.size_alloc, World.size_setCell, World.size_drew, ov_size] at hz)); have K0 := has_below hB H0.out; have K1 := has_below hB HH1.out; have K2 := has_below hB HH2.out; have HR := Lib.hid (row_below hB HOWN.out); clear q1 f1 l0 l1 l2 o0 o1 o2; obtain ⟨v, rfl⟩ : ∃ v, w1 = ov (ov (ov v w.heap.size #[.slice none 0 0, .int .i64 0, .int .i64 0, .int .i64 0, .int .i64 0, .int .i64 0, .bool false] 51) (w.heap.size + 1) #[.bool false, .int .i64 en, .int .i64 wu, .int .i64 wd, .bool false] 151) (w.heap.size + 1 + 1) #[.slice al ys.length ca, .int .i64 0, .int .i64 bu, .int .i64 bd, .int .i64 0, .int .i64 0, .bool false] 51 := ⟨w1, by rw [ov_self K0, ov_self K1, ov_self K2]⟩; clear K0 K1 K2; have HBV := Lib.hid (below_of_ov (below_of_ov (below_of_ov (below_via HBW.out hB HBW.out.size) (by omega)) (by omega)) (by omega)); simp only [ov_size] at hz; have l0 : w.heap.size < v.heap.size := (by omega); have l1 : w.heap.size + 1 < v.heap.size := (by omega); have l2 : w.heap.size + 1 + 1 < v.heap.size := (by omega); have o0 : Old v w.heap.size := l0; have o1 : Old v (w.heap.size + 1) := l1; have o2 : Old v (w.heap.size + 1 + 1) := l2; (try simp only []); refine hK _ _ ?_ (fun hS2 => ?_); (focus ((repeat' (first | (with_reducible exact Below.refl _ _) | (with_reducible assumption) | (with_reducible refine below_from_drew ?_) | (with_reducible refine Below.alloc ?_ ?_ _) | (with_reducible refine Below.drew ?_) | (with_reducible refine below_drewN ?_ _) | (with_reducible refine Below.setCell ?_ ?_ _) | (with_reducible refine below_via ?_ (by assumption) ?_) | (with_reducible refine below_ov ?_ ?_ _ _) | go_size)); done)); clear hK K hS; have hS := hS2; clear hS2; (try clear hb); try simp only [Act.put, List.setIfInBounds_toArray, List.set_cons_zero, List.set_cons_succ])
          (refine wpG_make rfl (fun K hK => ?_); go_simp; (try simp only []); (try simp only []); refine hK _ _ ?_ (fun hS2 => ?_); (focus ((repeat' (first | (with_reducible exact Below.refl _ _) | (with_reducible assumption) | (with_reducible refine below_from_drew ?_) | (with_reducible refine Below.alloc ?_ ?_ _) | (with_reducible refine Below.drew ?_) | (with_reducible refine below_drewN ?_ _) | (with_reducible refine Below.setCell ?_ ?_ _) | (with_reducible refine below_via ?_ (by assumption) ?_) | (with_reducible refine below_ov ?_ ?_ _ _) | go_size)); done)); clear hK K hS; have hS := hS2; clear hS2; (try clear hb); try simp only [Act.put, List.setIfInBounds_toArray, List.set_cons_zero, List.set_cons_succ])
          (refine wpG_make rfl (fun K hK => ?_); go_simp; (go_at_call 72; (with_reducible refine (add_any _ 2 2 [en, m] _ rfl (by (intro i hi; rcases i with _ | _ | _ | _ | _ | _ | _ | _ | i <;> first | (simp; done) | (go_simp; done) | (simp at hi; done) | omega)) (by omega)).mono ?_); rintro e w1 ⟨⟨hh, hhh, rfl⟩ | ⟨hhh, rfl⟩, rfl⟩; rotate_left; (focus (exact ⟨rfl, by have q := HBW.out; exact (by (repeat' (first | (with_reducible exact Below.refl _ _) | (with_reducible assumption) | (with_reducible refine below_from_drew ?_) | (with_reducible refine Below.alloc ?_ ?_ _) | (with_reducible refine Below.drew ?_) | (with_reducible refine below_drewN ?_ _) | (with_reducible refine Below.setCell ?_ ?_ _) | (with_reducible refine below_via ?_ (by assumption) ?_) | (with_reducible refine below_ov ?_ ?_ _ _) | go_size))), .inr ⟨by rw [stackZ, HZ.out]; simp [endZ, hm, hhh], rfl⟩⟩))); (try simp only []); refine hK _ _ ?_ (fun hS2 => ?_); (focus ((repeat' (first | (with_reducible exact Below.refl _ _) | (with_reducible assumption) | (with_reducible refine below_from_drew ?_) | (with_reducible refine Below.alloc ?_ ?_ _) | (with_reducible refine Below.drew ?_) | (with_reducible refine below_drewN ?_ _) | (with_reducible refine Below.setCell ?_ ?_ _) | (with_reducible refine below_via ?_ (by assumption) ?_) | (with_reducible refine below_ov ?_ ?_ _ _) | go_size)); done)); clear hK K hS; have hS := hS2; clear hS2; (try clear hb); try simp only [Act.put, List.setIfInBounds_toArray, List.set_cons_zero, List.set_cons_succ])
          (refine wpG_read (v := ?_) rfl (.inl ⟨by rfl, fun wx hbx => ?_⟩) ?_; rotate_left; (focus (obtain ⟨cx0, fx0, zx0⟩ := bk hbx (w.heap.size + 1) (by first | omega | (simp; done) | (simp; omega)); go_simp; (try go_bits); (try with_reducible rfl))); try simp only [Act.put, List.setIfInBounds_toArray, List.set_cons_zero, List.set_cons_succ])
          (refine wpG_late rfl (fun K hK => ?_); go_simp; (try simp only []); (try simp only []); refine hK _ _ ?_; clear hK K; try simp only [Act.put, List.setIfInBounds_toArray, List.set_cons_zero, List.set_cons_succ])
          refine wpG_nil ?_
          have HM := Lib.hid hm; have HHH := Lib.hid hhh; clear hm hhh
          go_wp2_with fail
          refine bodyPost_ret (by simp [results, Try.results25, go_sem, l0, l1, l2, o0, o1, o2]; try rfl) rfl ?_
          exact ⟨by have q := HBV.out; (repeat' (first | (with_reducible exact Below.refl _ _) | (with_reducible assumption) | (with_reducible refine below_from_drew ?_) | (with_reducible refine Below.alloc ?_ ?_ _) | (with_reducible refine Below.drew ?_) | (with_reducible refine below_drewN ?_ _) | (with_reducible refine Below.setCell ?_ ?_ _) | (with_reducible refine below_via ?_ (by assumption) ?_) | (with_reducible refine below_ov ?_ ?_ _ _) | go_size)), .inl ⟨⟨ys, max hh 0, bu, bd, 0, 0, false⟩, al, ca, by rw [stackZ, HZ.out]; simp [endZ, HM.out, HHH.out], rfl, row_mono (base := w.heap.size + 1 + 1 + 1) (((row_in (row_in (row_in (row_out (row_out (row_out HR.out (by omega)) (by omega)) (by omega)) (by omega)) (by omega)) (by omega)).alloc _)) (by omega)⟩⟩
        rcases hc with ⟨rfl, rfl⟩ | ⟨rfl, rfl, rfl⟩
        · clear q1 f1 l0 l1 l2 o0 o1 o2
          have HBW2 := hbw
          have HOWN2 := HOWN.out
          obtain ⟨v, rfl⟩ : ∃ v, wr = ov (ov (ov v w.heap.size #[.slice none 0 0, .int .i64 0, .int .i64 0, .int .i64 0, .int .i64 0, .int .i64 0, .bool false] 51) (w.heap.size + 1) #[.bool true, .int .i64 en, .int .i64 wu, .int .i64 wd, .bool false] 151) (w.heap.size + 1 + 1) #[.slice al ys.length ca, .int .i64 0, .int .i64 bu, .int .i64 bd, .int .i64 0, .int .i64 0, .bool false] 51 := ⟨wr, by rw [ov_self H0.out, ov_self HH1.out, ov_self HH2.out]⟩
          have HBV := Lib.hid (below_of_ov (below_of_ov (below_of_ov HBW2 (by omega)) (by omega)) (by omega))
          have HR := Lib.hid (row_out (row_out (row_out HOWN2 (by omega)) (by omega)) (by omega))
          clear HBW2 HOWN2 hbw HOWN HBW H0 H1 H2 HH1 HH2
          simp only [ov_size] at hsz
          have l0 : w.heap.size < v.heap.size := by omega
          have l1 : w.heap.size + 1 < v.heap.size := by omega
          have l2 : w.heap.size + 1 + 1 < v.heap.size := by omega
          have o0 : Old v w.heap.size := l0
          have o1 : Old v (w.heap.size + 1) := l1
          have o2 : Old v (w.heap.size + 1 + 1) := l2
          go_wp2_with fail
          refine bodyPost_ret (by simp [results, Try.results25, go_sem, l0, l1, l2, o0, o1, o2]; try rfl) rfl ?_
          exact ⟨by have q := HBV.out; (repeat' (first | (with_reducible exact Below.refl _ _) | (with_reducible assumption) | (with_reducible refine below_from_drew ?_) | (with_reducible refine Below.alloc ?_ ?_ _) | (with_reducible refine Below.drew ?_) | (with_reducible refine below_drewN ?_ _) | (with_reducible refine Below.setCell ?_ ?_ _) | (with_reducible refine below_via ?_ (by assumption) ?_) | (with_reducible refine below_ov ?_ ?_ _ _) | go_size)), .inl ⟨⟨ys, 0, wu, wd, 0, 0, ob⟩, al, ca, by rw [stackZ, HZ.out]; simp [endZ], rfl, row_mono (base := w.heap.size + 1 + 1 + 1) (row_in (row_in (row_in HR.out (by omega)) (by omega)) (by omega)) (by omega)⟩⟩
        · clear q1 f1 l0 l1 l2 o0 o1 o2
          have HBW2 := hbw
          have HOWN2 := HOWN.out
          obtain ⟨v, rfl⟩ : ∃ v, wr = ov (ov (ov v w.heap.size #[.slice none 0 0, .int .i64 0, .int .i64 0, .int .i64 0, .int .i64 0, .int .i64 0, .bool false] 51) (w.heap.size + 1) #[.bool false, .int .i64 en, .int .i64 wu, .int .i64 wd, .bool false] 151) (w.heap.size + 1 + 1) #[.slice al ys.length ca, .int .i64 0, .int .i64 bu, .int .i64 bd, .int .i64 0, .int .i64 0, .bool false] 51 := ⟨wr, by rw [ov_self H0.out, ov_self HH1.out, ov_self HH2.out]⟩
          have HBV := Lib.hid (below_of_ov (below_of_ov (below_of_ov HBW2 (by omega)) (by omega)) (by omega))
          have HR := Lib.hid (row_out (row_out (row_out HOWN2 (by omega)) (by omega)) (by omega))
          clear HBW2 HOWN2 hbw HOWN HBW H0 H1 H2 HH1 HH2
          simp only [ov_size] at hsz
          have l0 : w.heap.size < v.heap.size := by omega
          have l1 : w.heap.size + 1 < v.heap.size := by omega
          have l2 : w.heap.size + 1 + 1 < v.heap.size := by omega
          have o0 : Old v w.heap.size := l0
          have o1 : Old v (w.heap.size + 1) := l1
          have o2 : Old v (w.heap.size + 1 + 1) := l2
          go_wp2_with fail
          refine bodyPost_ret (by simp [results, Try.results25, go_sem, l0, l1, l2, o0, o1, o2]; try rfl) rfl ?_
          exact ⟨by have q := HBV.out; (repeat' (first | (with_reducible exact Below.refl _ _) | (with_reducible assumption) | (with_reducible refine below_from_drew ?_) | (with_reducible refine Below.alloc ?_ ?_ _) | (with_reducible refine Below.drew ?_) | (with_reducible refine below_drewN ?_ _) | (with_reducible refine Below.setCell ?_ ?_ _) | (with_reducible refine below_via ?_ (by assumption) ?_) | (with_reducible refine below_ov ?_ ?_ _ _) | go_size)), .inl ⟨⟨ys, 0, bu, bd, wu, wd, false⟩, al, ca, by rw [stackZ, HZ.out]; simp [endZ], rfl, row_mono (base := w.heap.size + 1 + 1 + 1) (row_in (row_in (row_in HR.out (by omega)) (by omega)) (by omega)) (by omega)⟩⟩
end Go.Proofs.Ytbjmncgfbdkidaa
