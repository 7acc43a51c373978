/- clapboardref10: place, Drop by contract. -/
import Derived.Test.YtcpehmlkhmfmhaaRefC
namespace Go.Proofs.Ytcpehmlkhmfmhaa
open Go.RowKit
set_option linter.unusedSimpArgs false
set_option linter.unusedVariables false
-- below_from_drew
attribute [local go_sem] ov_cell_same ov_cell_other ov_frozen_same ov_frozen_other ov_size ov_setCell_same ov_setCell_other cell_alloc_old frozen_alloc_old setCell_alloc_old old_alloc old_ov old_drew old_drewN old_setCell
attribute [local go_sem ↓] run_max2 run_min2

theorem lvlI_cut (d : Int) : ∀ (C : Rows) (i k : Nat), k < (kidsR d C).length → (lvlI (d + 1) i (subR d C)).getD k 0 = ((i + cutR d k C : Nat) : Int)
  | [], i, k, h => by simp [kidsR, subR, lvl] at h
  | x :: C, i, k, h => by
    by_cases c : d < x.2
    · have hs : subR d (x :: C) = x :: subR d C := by show (if d < x.2 then _ else _) = _; rw [if_pos c]
      rw [hs]
      by_cases c2 : x.2 = d + 1
      · have hk : kidsR d (x :: C) = x.1 :: kidsR d C := by unfold kidsR; rw [hs]; show (if x.2 = d + 1 then _ else _) = _; rw [if_pos c2]
        have hl : lvlI (d + 1) i (x :: subR d C) = (i : Int) :: lvlI (d + 1) (i + 1) (subR d C) := by show (if x.2 = d + 1 then _ else _) = _; rw [if_pos c2]
        rw [hl]
        cases k with
        | zero =>
          have : cutR d 0 (x :: C) = 0 := by show (if d < x.2 then (if x.2 = d + 1 then 0 else _) else 0) = 0; rw [if_pos c, if_pos c2]
          rw [this]; rfl
        | succ k =>
          rw [hk] at h
          have ih := lvlI_cut d C (i + 1) k (by simpa using h)
          have : cutR d (k + 1) (x :: C) = 1 + cutR d k C := by show (if d < x.2 then (if x.2 = d + 1 then 1 + cutR d k C else _) else 0) = _; rw [if_pos c, if_pos c2]
          rw [this]
          show (lvlI (d + 1) (i + 1) (subR d C)).getD k 0 = _
          rw [ih]; congr 1; omega
      · have hk : kidsR d (x :: C) = kidsR d C := by unfold kidsR; rw [hs]; show (if x.2 = d + 1 then _ else _) = _; rw [if_neg c2]
        have hl : lvlI (d + 1) i (x :: subR d C) = lvlI (d + 1) (i + 1) (subR d C) := by show (if x.2 = d + 1 then _ else _) = _; rw [if_neg c2]
        rw [hl, lvlI_cut d C (i + 1) k (by rwa [hk] at h)]
        have : cutR d k (x :: C) = 1 + cutR d k C := by
          cases k <;> (show (if d < x.2 then (if x.2 = d + 1 then _ else _) else 0) = _; rw [if_pos c, if_neg c2])
        rw [this]; congr 1; omega
    · have hs : subR d (x :: C) = [] := by show (if d < x.2 then _ else _) = _; rw [if_neg c]
      simp [kidsR, hs, lvl] at h
theorem cutR_last (d : Int) : ∀ (C : Rows), cutR d (kidsR d C).length C = (subR d C).length
  | [] => rfl
  | x :: C => by
    by_cases c : d < x.2
    · have hs : subR d (x :: C) = x :: subR d C := by show (if d < x.2 then _ else _) = _; rw [if_pos c]
      rw [hs]
      by_cases c2 : x.2 = d + 1
      · have hk : kidsR d (x :: C) = x.1 :: kidsR d C := by unfold kidsR; rw [hs]; show (if x.2 = d + 1 then _ else _) = _; rw [if_pos c2]
        rw [hk, List.length_cons, List.length_cons]
        have : cutR d ((kidsR d C).length + 1) (x :: C) = 1 + cutR d (kidsR d C).length C := by show (if d < x.2 then (if x.2 = d + 1 then 1 + cutR d _ C else _) else 0) = _; rw [if_pos c, if_pos c2]
        rw [this, cutR_last d C]; omega
      · have hk : kidsR d (x :: C) = kidsR d C := by unfold kidsR; rw [hs]; show (if x.2 = d + 1 then _ else _) = _; rw [if_neg c2]
        rw [hk, List.length_cons]
        have : cutR d (kidsR d C).length (x :: C) = 1 + cutR d (kidsR d C).length C := by
          cases (kidsR d C).length <;> (show (if d < x.2 then (if x.2 = d + 1 then _ else _) else 0) = _; rw [if_pos c, if_neg c2])
        rw [this, cutR_last d C]; omega
    · have hs : subR d (x :: C) = [] := by show (if d < x.2 then _ else _) = _; rw [if_neg c]
      have hk : kidsR d (x :: C) = [] := by unfold kidsR; rw [hs]; rfl
      rw [hk, hs]
      show (if d < x.2 then _ else 0) = 0
      rw [if_neg c]
set_option maxRecDepth 100000 in
set_option maxHeartbeats 2000000 in
theorem rplace_any (a : Option Addr) (l c k : Nat) (next n d : Int) (R A C : Rows) (w : World) (hl : R.length = l) (hm : l ≤ 100000) (h : RowsAt w a R) (hR : R = A ++ (n, d) :: C) (hst : Steps ((n, d) :: C)) (hk : k ≤ (kidsR d C).length) :
    Calls Try.prog 62 #[.agg #[.slice a l c, .int .i64 next], .int .i64 (A.length : Nat), .int .i64 (k : Int)] w fun e w' => e = .returned (.int .i64 ((A.length + 1 + cutR d k C : Nat) : Int)) ∧ Below w.heap.size w w' := by
  have HK := Lib.hid (fun u (hb : Below w.heap.size w u) => rkids_any a l c next n d R A C u hl hm (h.below hb) hR hst)
  have HE := Lib.hid (fun u (hb : Below w.heap.size w u) => end_any a l c next n d R A C u hl (by omega) (h.below hb) hR)
  have hcut := fun (q : k < (kidsR d C).length) => lvlI_cut d C (A.length + 1) k q
  have hlast := cutR_last d C
  have hll : (lvlI (d + 1) (A.length + 1) (subR d C)).length = (kidsR d C).length := lvlI_len _ _ _
  have HC := Lib.hid hcut; have HLA := Lib.hid hlast; have HLL := Lib.hid hll
  clear h hR hst hl hcut hlast hll
  generalize lvlI (d + 1) (A.length + 1) (subR d C) = ps at *
  generalize hkl : (kidsR d C).length = kl at *
  have HKL := Lib.hid hkl; clear hkl
  generalize hAl : A.length = i at *
  have HAL := Lib.hid hAl; clear hAl
  go_enter Try.func62, Try.ntmps62
  go_wp2_with fail
  refine (HK.out _ (by (repeat' (first | (with_reducible exact Below.refl _ _) | (with_reducible assumption) | (with_reducible refine below_from_drew ?_) | (with_reducible refine Below.alloc ?_ ?_ _) | (with_reducible refine Below.drew ?_) | (with_reducible refine below_drewN ?_ _) | (with_reducible refine Below.setCell ?_ ?_ _) | (with_reducible refine below_via ?_ (by assumption) ?_) | (with_reducible refine below_ov ?_ ?_ _ _) | go_size)))).mono ?_
  rintro e w1 ⟨al, ca, rfl, hI, hb⟩
  have hH := has_below hb (has_new rfl)
  have HB := Lib.hid (below_via (by (repeat' (first | (with_reducible exact Below.refl _ _) | (with_reducible assumption) | (with_reducible refine below_from_drew ?_) | (with_reducible refine Below.alloc ?_ ?_ _) | (with_reducible refine Below.drew ?_) | (with_reducible refine below_drewN ?_ _) | (with_reducible refine Below.setCell ?_ ?_ _) | (with_reducible refine below_via ?_ (by assumption) ?_) | (with_reducible refine below_ov ?_ ?_ _ _) | go_size)) : Below w.heap.size w (w.alloc (.cells #[.slice a l c, .int .i64 next] 28))) hb (by simp))
  have HI := Lib.hid hI; have HH := Lib.hid hH
  clear hb hI hH
  rcases Nat.lt_or_ge k kl with c1 | c1
  · have c2 : (k : Int) < kl := by omega
    obtain ⟨g, go, rfl, hg, hc⟩ := HI.out (by rw [HLL.out]; omega)
    have g1 := hc k (by rw [HLL.out]; exact c1)
    rw [HC.out c1] at g1
    have c3 : (0 : Int) ≤ (k : Int) := by omega
    clear hc
    go_wp2_with fail
    go_ret
    exact ⟨rfl, HB.out⟩
  · obtain rfl : k = kl := by omega
    have c2 : decide ((k : Int) < k) = false := by simp
    have g0 := has_cell HH.out (o := 0) rfl
    have g1 := has_cell HH.out (o := 1) rfl
    have hl1 := HH.out.lt
    go_wp2_with fail
    refine (HE.out _ HB.out).mono ?_
    rintro e w2 ⟨rfl, hb2⟩
    have HB2 := Lib.hid (below_via HB.out hb2 HB.out.size)
    clear hb2
    go_wp2_with fail
    go_ret
    exact ⟨by rw [HLA.out]; rfl, HB2.out⟩
/-- A tree of the document's. -/
def RefAt (w : World) (v : Value) (R : Rows) (next : Int) : Prop := ∃ b off c, v = .agg #[.slice (some ⟨b, off, none⟩) R.length c, .int .i64 next] ∧ R.length ≤ c ∧ b < w.heap.size ∧ ∀ i, i < R.length → w.cell? ⟨b, off + i * 2, none⟩ = some (.int .i64 (R.getD i (0, 0)).1) ∧ w.cell? ⟨b, off + i * 2 + 1, none⟩ = some (.int .i64 (R.getD i (0, 0)).2)
theorem RefAt.below {w w' : World} {v : Value} {R : Rows} {next : Int} (h : RefAt w v R next) (hb : Below w.heap.size w w') : RefAt w' v R next := by
  obtain ⟨b, off, c, h1, h2, h3, h4⟩ := h
  exact ⟨b, off, c, h1, h2, Nat.lt_of_lt_of_le h3 hb.size, fun i hi => ⟨(hb.cell (p := ⟨b, _, none⟩) h3).trans (h4 i hi).1, (hb.cell (p := ⟨b, _, none⟩) h3).trans (h4 i hi).2⟩⟩
theorem refAt_mk {w : World} {a : Option Addr} {l c : Nat} {R : Rows} {next : Int} (h : RowsAt w a R) (hl : R.length = l) (h0 : 0 < R.length) (hc : l ≤ c) : RefAt w (.agg #[.slice a l c, .int .i64 next]) R next := by
  obtain ⟨b, off, rfl, hb, hh⟩ := h h0
  exact ⟨b, off, c, by rw [hl], by rw [hl]; exact hc, hb, hh⟩
/-- A tree of the document's whose rows are new. -/
def FreshV (w : World) (v : Value) : Prop := ∀ a b off l c x, v = .agg #[.slice a l c, x] → a = some ⟨b, off, none⟩ → w.heap.size ≤ b
theorem atF_none {R : Rows} {n : Int} (h : findR n R = none) : atF R n = -1 := by unfold atF; rw [h]
theorem atF_some {R A C : Rows} {n d : Int} (h : findR n R = some (A, d, C)) : atF R n = (A.length : Int) := by unfold atF; rw [h]
theorem subR_le (d : Int) (C : Rows) : (subR d C).length ≤ C.length := by
  obtain ⟨B, hB, _⟩ := subR_split d C
  have := congrArg List.length hB
  rw [List.length_append] at this; omega
set_option maxRecDepth 100000 in
set_option maxHeartbeats 4000000 in
theorem rdrop_any (v : Value) (R : Rows) (next n : Int) (w : World) (h : RefAt w v R next) (hw : WfR R next) (hm : R.length ≤ 100000) :
    Calls Try.prog 17 #[v, .int .i64 n] w fun e w' => ∃ v', e = .returned (.tuple #[v', .int .i64 (dropT R n).2]) ∧ RefAt w' v' (dropT R n).1 next ∧ ((dropT R n).2 = 0 → FreshV w v') ∧ Below w.heap.size w w' := by
  have HREF := Lib.hid h
  obtain ⟨b, off, c, rfl, hlc, hb, hc⟩ := h
  obtain ⟨l, hl⟩ : ∃ l, R.length = l := ⟨_, rfl⟩
  rw [hl] at hlc ⊢
  have hra : RowsAt w (some ⟨b, off, none⟩) R := fun _ => ⟨b, off, rfl, hb, hc⟩
  have HAT := Lib.hid (fun u (hu : Below w.heap.size w u) => at_any (some ⟨b, off, none⟩) l c next n R u hl (by omega) (hra.below hu))
  have HEN := Lib.hid (fun u (hu : Below w.heap.size w u) (A C : Rows) (d : Int) (q : R = A ++ (n, d) :: C) => end_any (some ⟨b, off, none⟩) l c next n d R A C u hl (by omega) (hra.below hu) q)
  by_cases hn0 : n = 0
  · have hF : dropT R n = (R, 1) := by unfold dropT; rw [if_pos hn0]
    rw [hF]
    subst hn0
    have HL := Lib.hid hl
    have hob : Old w b := hb
    clear hc hra hF hw hl hm
    generalize hA : Value.agg #[.slice (some ⟨b, off, none⟩) R.length c, .int .i64 next] = v at HREF
    rw [HL.out] at hA
    subst hA
    go_enter Try.func17, Try.ntmps17
    go_wp2_with fail
    refine bodyPost_ct (b := w.heap.size + 1) Try.results17 rfl rfl (has_new (w := w.alloc _) (by simp)) Try.underlying28 rfl rfl rfl rfl ?_
    have hB : Below w.heap.size w ((w.alloc (.cells #[.slice (some ⟨b, off, none⟩) l c, .int .i64 next] 28)).alloc (.cells #[.slice (some ⟨b, off, none⟩) l c, .int .i64 next] 28)) := by (repeat' (first | (with_reducible exact Below.refl _ _) | (with_reducible assumption) | (with_reducible refine below_from_drew ?_) | (with_reducible refine Below.alloc ?_ ?_ _) | (with_reducible refine Below.drew ?_) | (with_reducible refine below_drewN ?_ _) | (with_reducible refine Below.setCell ?_ ?_ _) | (with_reducible refine below_via ?_ (by assumption) ?_) | (with_reducible refine below_ov ?_ ?_ _ _) | go_size))
    exact ⟨_, rfl, HREF.out.below hB, (fun q => absurd q (by decide)), hB⟩
  · rcases hf : findR n R with _ | ⟨A, d, C⟩
    · have hF : dropT R n = (R, 9) := by unfold dropT; rw [if_neg hn0, hf]
      rw [hF]
      have hat := atF_none hf
      rw [hat] at HAT
      have hne : (n == 0) = false := by simp [hn0]
      have HL := Lib.hid hl
      have hob : Old w b := hb
      clear hc hra hF hw hl hm hf hat hn0
      generalize hA : Value.agg #[.slice (some ⟨b, off, none⟩) R.length c, .int .i64 next] = v at HREF
      rw [HL.out] at hA
      subst hA
      go_enter Try.func17, Try.ntmps17
      go_wp2_with fail
      refine (HAT.out _ (by (repeat' (first | (with_reducible exact Below.refl _ _) | (with_reducible assumption) | (with_reducible refine below_from_drew ?_) | (with_reducible refine Below.alloc ?_ ?_ _) | (with_reducible refine Below.drew ?_) | (with_reducible refine below_drewN ?_ _) | (with_reducible refine Below.setCell ?_ ?_ _) | (with_reducible refine below_via ?_ (by assumption) ?_) | (with_reducible refine below_ov ?_ ?_ _ _) | go_size)))).mono ?_
      rintro e w1 ⟨rfl, hb1⟩
      have hH0 : Has w1 w.heap.size #[.slice (some ⟨b, off, none⟩) l c, .int .i64 next] 28 := has_below hb1 (has_alloc (has_new rfl))
      have hH1 : Has w1 (w.heap.size + 1) #[.slice none 0 0, .int .i64 0] 28 := has_below hb1 (has_new (by simp))
      have HB := Lib.hid (below_via (by (repeat' (first | (with_reducible exact Below.refl _ _) | (with_reducible assumption) | (with_reducible refine below_from_drew ?_) | (with_reducible refine Below.alloc ?_ ?_ _) | (with_reducible refine Below.drew ?_) | (with_reducible refine below_drewN ?_ _) | (with_reducible refine Below.setCell ?_ ?_ _) | (with_reducible refine below_via ?_ (by assumption) ?_) | (with_reducible refine below_ov ?_ ?_ _ _) | go_size)) : Below w.heap.size w ((w.alloc (.cells #[.slice (some ⟨b, off, none⟩) l c, .int .i64 next] 28)).alloc (.cells #[.slice none 0 0, .int .i64 0] 28))) hb1 (by simp; omega))
      have hl0 := hH0.lt
      have hl1 := hH1.lt
      have HOV := Lib.hid (ov_self hH1)
      have g0 := has_cell hH0 (o := 0) rfl
      have g1 := has_cell hH0 (o := 1) rfl
      clear hb1
      rw [← HOV.out]
      clear hH1
      go_wp2_with fail
      refine bodyPost_ct (b := w.heap.size + 1) Try.results17 rfl rfl (has_ov_same (by first | exact hl1 | (simp; omega))) Try.underlying28 rfl rfl rfl rfl ?_
      have hBB : Below w.heap.size w (ov w1 (w.heap.size + 1) #[.slice (some ⟨b, off, none⟩) l c, .int .i64 next] 28) := by have q := HB.out; (repeat' (first | (with_reducible exact Below.refl _ _) | (with_reducible assumption) | (with_reducible refine below_from_drew ?_) | (with_reducible refine Below.alloc ?_ ?_ _) | (with_reducible refine Below.drew ?_) | (with_reducible refine below_drewN ?_ _) | (with_reducible refine Below.setCell ?_ ?_ _) | (with_reducible refine below_via ?_ (by assumption) ?_) | (with_reducible refine below_ov ?_ ?_ _ _) | go_size))
      exact ⟨_, rfl, HREF.out.below hBB, (fun q => absurd q (by decide)), hBB⟩
    · have hF : dropT R n = (A ++ C.drop (subR d C).length, 0) := by unfold dropT; rw [if_neg hn0, hf]
      rw [hF]
      have hat := atF_some hf
      rw [hat] at HAT
      obtain ⟨hR, _⟩ := findR_some hf
      have hAn : 0 < A.length := by
        rcases A with _ | ⟨x, A⟩
        · exact absurd ((hw.root hR).2 rfl) hn0
        · simp
      have hne : (n == 0) = false := by simp [hn0]
      obtain ⟨i, hi⟩ : ∃ i, A.length = i := ⟨_, rfl⟩
      obtain ⟨q, hq⟩ : ∃ q, (subR d C).length = q := ⟨_, rfl⟩
      have hE := fun u hu => HEN.out u hu A C d hR
      have hlen : l = i + (C.length + 1) := by rw [← hl, hR, ← hi]; simp
      have hqc : q ≤ C.length := by rw [← hq]; exact subR_le d C
      rw [hi] at hE hAn HAT
      rw [hq] at hE ⊢
      obtain ⟨e, he⟩ : ∃ e, i + 1 + q = e := ⟨_, rfl⟩
      rw [he] at hE
      have HE := Lib.hid hE
      have hdr : A ++ C.drop q = A ++ R.drop e := by
        have h0 : A.drop (A.length + 1 + q) = [] := List.drop_eq_nil_of_le (by omega)
        rw [hR, ← he, ← hi, List.drop_append, h0, List.nil_append, show A.length + 1 + q - A.length = q + 1 by omega, List.drop_succ_cons]
      rw [hdr]
      obtain ⟨i0, hin, hz0, hz1, hz2⟩ := info_parts infoRow
      have HV := Lib.hid (RowsAt.vals hc)
      obtain ⟨ad, hif, had⟩ : ∃ ad : Addr, (if c = e then (some ⟨b, off, none⟩ : Option Addr) else some ⟨b, off + e * 2, none⟩) = some ad ∧ ∀ j u, (rowVals (R.drop e))[j]? = some u → ad.add j = ⟨b, off + (e * 2 + j), none⟩ ∧ (rowVals R)[e * 2 + j]? = some u := by
        have hg : ∀ j u, (rowVals (R.drop e))[j]? = some u → (rowVals R)[e * 2 + j]? = some u := fun j u hj => by
          have e1 : R = R.take e ++ R.drop e := (List.take_append_drop e R).symm
          have hl2 : (rowVals (R.take e)).length = e * 2 := by rw [rowVals_len, List.length_take, Nat.min_eq_left (by omega)]
          rw [e1, rowVals_append, List.getElem?_append_right (by omega), hl2, show e * 2 + j - e * 2 = j by omega]; exact hj
        by_cases h : c = e
        · refine ⟨⟨b, off, none⟩, by rw [if_pos h], fun j u hj => ?_⟩
          have : R.drop e = [] := List.drop_eq_nil_of_le (by omega)
          rw [this] at hj; simp [rowVals] at hj
        · exact ⟨⟨b, off + e * 2, none⟩, by rw [if_neg h], fun j u hj => ⟨by rw [Addr.add_lit, Nat.add_assoc], hg j u hj⟩⟩
      have HAD := Lib.hid had
      have c5 : (0 : Int) ≤ (e : Int) := by omega
      have c6 : (e : Int) ≤ (l : Int) := by omega
      have HLE := Lib.hid (show l = i + (C.length + 1) ∧ i + 1 + q = e ∧ q ≤ C.length from ⟨hlen, he, hqc⟩)
      have HR := Lib.hid hR; have HI := Lib.hid hi; have HL := Lib.hid hl
      have hob : Old w b := hb
      clear hc hra hF hw hl hf hat hn0 hE hR hi hq HEN HREF
      have c1 : (0 : Int) ≤ (i : Int) := by omega
      have c2 : (i : Int) ≤ (c : Int) := by omega
      have c3 : (i : Int) ≤ (l : Int) := by omega
      have c4 : ¬ (i : Int) < 0 := by omega
      have HLEN := Lib.hid hlen; clear hlen had he hdr hqc
      go_enter Try.func17, Try.ntmps17
      go_wp2_with fail
      refine (HAT.out _ (by (repeat' (first | (with_reducible exact Below.refl _ _) | (with_reducible assumption) | (with_reducible refine below_from_drew ?_) | (with_reducible refine Below.alloc ?_ ?_ _) | (with_reducible refine Below.drew ?_) | (with_reducible refine below_drewN ?_ _) | (with_reducible refine Below.setCell ?_ ?_ _) | (with_reducible refine below_via ?_ (by assumption) ?_) | (with_reducible refine below_ov ?_ ?_ _ _) | go_size)))).mono ?_
      rintro e w1 ⟨rfl, hb1⟩
      have hH0 : Has w1 w.heap.size #[.slice (some ⟨b, off, none⟩) l c, .int .i64 next] 28 := has_below hb1 (has_alloc (has_new rfl))
      have hH1 : Has w1 (w.heap.size + 1) #[.slice none 0 0, .int .i64 0] 28 := has_below hb1 (has_new (by simp))
      have HB := Lib.hid (below_via (by (repeat' (first | (with_reducible exact Below.refl _ _) | (with_reducible assumption) | (with_reducible refine below_from_drew ?_) | (with_reducible refine Below.alloc ?_ ?_ _) | (with_reducible refine Below.drew ?_) | (with_reducible refine below_drewN ?_ _) | (with_reducible refine Below.setCell ?_ ?_ _) | (with_reducible refine below_via ?_ (by assumption) ?_) | (with_reducible refine below_ov ?_ ?_ _ _) | go_size)) : Below w.heap.size w ((w.alloc (.cells #[.slice (some ⟨b, off, none⟩) l c, .int .i64 next] 28)).alloc (.cells #[.slice none 0 0, .int .i64 0] 28))) hb1 (by simp; omega))
      have hl0 := hH0.lt
      have hl1 := hH1.lt
      have g0 := has_cell hH0 (o := 0) rfl
      have HH0 := Lib.hid hH0; have HH1 := Lib.hid hH1
      clear hb1 hH0 hH1
      go_wp2_with (at_builtin; refine wpList_append_own _ rfl _ _ 26 rfl (w.heap.size + 2) 133 i0 (.agg #[.int .i64 0, .int .i64 0]) 2 16 Try.underlying26 hin hz0 hz1 hz2 rfl (by decide) _ _ _ rfl (World.ownsRow_nil _ _ _ _) ⟨b, off, none⟩ i c (rowVals A) rfl ?p0 ?p1 ?p2 ?p3 ?p4 ?p5 ?_)
      case p0 => rw [rowVals_len, HI.out]
      case p1 =>
        intro j u hj
        rw [Addr.add_lit]
        refine (HB.out.cell (p := ⟨b, off + j, none⟩) hb).trans (HV.out j u ?_)
        rw [HR.out, rowVals_append, List.getElem?_append_left (List.getElem?_eq_some_iff.1 hj).1]; exact hj
      case p2 => exact rowVals_one _
      case p3 => have := HLEN.out; have := HL.out; unfold maxLen; omega
      case p4 => have := HLEN.out; have := HL.out; omega
      case p5 => omega
      intro v2 w2 hown2 hgrow2 hnil2
      clear hnil2
      have hB2 : Below w.heap.size w w2 := Below.grown HB.out hgrow2 (by omega) (fun bb h => by cases h)
      have hH0 := has_grown hgrow2 HH0.out (by simp [Value.ownBlock])
      have hH1 := has_grown hgrow2 HH1.out (by simp [Value.ownBlock])
      obtain ⟨al2, ca2, rfl, _, _⟩ := row_reads hown2
      have g0 := has_cell hH0 (o := 0) rfl
      have g1 := has_cell hH0 (o := 1) rfl
      have hl0' := hH0.lt
      have HB2 := Lib.hid hB2; have HH0' := Lib.hid hH0; have HH1' := Lib.hid hH1; have HO2 := Lib.hid hown2
      clear hgrow2 hB2 hH0 hH1 hown2
      clear hl0 hl1
      clear HH0 HH1 HB
      go_wp2_with fail
      refine region_ord [(0, 0), (1, 0), (2, 0), (3, 0), (4, 0), (5, 1), (6, 0), (7, 2), (8, 2)] (by kernel_rfl) (by kernel_rfl) (fun _ _ d _ _ h => by cases d <;> exact h) (fun hS => ?_)
      (refine wpG_read (v := ?_) rfl (.inl ⟨by rfl, fun wx hbx => ?_⟩) ?_; rotate_left; (focus (obtain ⟨cx0, fx0, zx0⟩ := bk hbx (w.heap.size) (by first | omega | (simp; done) | (simp; omega)); go_simp; (try go_bits); (try with_reducible rfl))); try simp only [Act.put, List.setIfInBounds_toArray, List.set_cons_zero, List.set_cons_succ])
      (refine wpG_read (v := ?_) rfl (.inl ⟨by rfl, fun wx hbx => ?_⟩) ?_; rotate_left; (focus (obtain ⟨cx0, fx0, zx0⟩ := bk hbx (w.heap.size) (by first | omega | (simp; done) | (simp; omega)); go_simp; (try go_bits); (try with_reducible rfl))); try simp only [Act.put, List.setIfInBounds_toArray, List.set_cons_zero, List.set_cons_succ])
      (refine wpG_read (v := ?_) rfl (.inl ⟨by rfl, fun wx hbx => ?_⟩) ?_; rotate_left; (focus (obtain ⟨cx0, fx0, zx0⟩ := bk hbx (w.heap.size) (by first | omega | (simp; done) | (simp; omega)); go_simp; (try go_bits); (try with_reducible rfl))); try simp only [Act.put, List.setIfInBounds_toArray, List.set_cons_zero, List.set_cons_succ])
      (refine wpG_read (v := ?_) rfl (.inl ⟨by rfl, fun wx hbx => ?_⟩) ?_; rotate_left; (focus (obtain ⟨cx0, fx0, zx0⟩ := bk hbx (w.heap.size) (by first | omega | (simp; done) | (simp; omega)); go_simp; (try go_bits); (try with_reducible rfl))); try simp only [Act.put, List.setIfInBounds_toArray, List.set_cons_zero, List.set_cons_succ])
      (refine wpG_read (v := ?_) rfl (.inl ⟨by rfl, fun wx hbx => ?_⟩) ?_; rotate_left; (focus (obtain ⟨cx0, fx0, zx0⟩ := bk hbx (w.heap.size) (by first | omega | (simp; done) | (simp; omega)); go_simp; (try go_bits); (try with_reducible rfl))); try simp only [Act.put, List.setIfInBounds_toArray, List.set_cons_zero, List.set_cons_succ])
      (refine wpG_make rfl (fun K hK => ?_); go_simp; (go_at_call 55; (with_reducible refine (HE.out _ (have q := HB2.out; (by (repeat' (first | (with_reducible exact Below.refl _ _) | (with_reducible assumption) | (with_reducible refine below_from_drew ?_) | (with_reducible refine Below.alloc ?_ ?_ _) | (with_reducible refine Below.drew ?_) | (with_reducible refine below_drewN ?_ _) | (with_reducible refine Below.setCell ?_ ?_ _) | (with_reducible refine below_via ?_ (by assumption) ?_) | (with_reducible refine below_ov ?_ ?_ _ _) | go_size))))).mono ?_); rintro e u3 ⟨rfl, hb⟩; have hz := hb.size; refine (fun hB => ?_ : Below w2.heap.size w2 u3 → _) ?_; rotate_left; (focus ((repeat' (first | (with_reducible exact Below.refl _ _) | (with_reducible assumption) | (with_reducible refine below_from_drew ?_) | (with_reducible refine Below.alloc ?_ ?_ _) | (with_reducible refine Below.drew ?_) | (with_reducible refine below_drewN ?_ _) | (with_reducible refine Below.setCell ?_ ?_ _) | (with_reducible refine below_via ?_ (by assumption) ?_) | (with_reducible refine below_ov ?_ ?_ _ _) | go_size)); done)); (try simp only [World.size_alloc, World.size_setCell, World.size_drew, ov_size] at hz)); (try simp only []); refine hK _ _ ?_ (fun hS2 => ?_); (focus ((repeat' (first | (with_reducible exact Below.refl _ _) | (with_reducible assumption) | (with_reducible refine below_from_drew ?_) | (with_reducible refine Below.alloc ?_ ?_ _) | (with_reducible refine Below.drew ?_) | (with_reducible refine below_drewN ?_ _) | (with_reducible refine Below.setCell ?_ ?_ _) | (with_reducible refine below_via ?_ (by assumption) ?_) | (with_reducible refine below_ov ?_ ?_ _ _) | go_size)); done)); clear hK K hS; have hS := hS2; clear hS2; (try clear hb); try simp only [Act.put, List.setIfInBounds_toArray, List.set_cons_zero, List.set_cons_succ])
      (refine wpG_read (v := ?_) rfl (.inl ⟨by rfl, fun wx hbx => ?_⟩) ?_; rotate_left; (focus (obtain ⟨cx0, fx0, zx0⟩ := bk hbx (w.heap.size) (by first | omega | (simp; done) | (simp; omega)); go_simp; (try go_bits); (try with_reducible rfl))); try simp only [Act.put, List.setIfInBounds_toArray, List.set_cons_zero, List.set_cons_succ])
      refine wpG_late rfl (fun K hK => ?_)
      rw [if_pos (by rfl)]
      have HO3 := Lib.hid (row_below hB HO2.out)
      have HB3 := Lib.hid (below_via HB2.out hB HB2.out.size)
      have HH2 := Lib.hid (has_below hB HH0'.out); have HH3 := Lib.hid (has_below hB HH1'.out)
      obtain ⟨g1, g2, g3⟩ := HLE.out
      refine wp_append_own (P := Try.prog) _ _ _ _ rfl (w.heap.size + 2) 133 i0 (.agg #[.int .i64 0, .int .i64 0]) 2 16 Try.underlying26 hin hz0 hz1 hz2 rfl (by decide) _ _ _ rfl HO3.out ad (l - e) (c - e) (rowVals (R.drop e)) rfl ?p0 ?p1 ?p2 ?p3 ?p4 ?p5 ?_
      case p0 => rw [rowVals_len, List.length_drop, HL.out]
      case p1 =>
        intro j u hj
        obtain ⟨q1, q2⟩ := HAD.out j u hj
        rw [q1]
        exact (HB3.out.cell (p := ⟨b, _, none⟩) hb).trans (HV.out _ u q2)
      case p2 => exact rowVals_one _
      case p3 => have := HL.out; unfold maxLen; omega
      case p4 => have := HL.out; omega
      case p5 => have := HH3.out.lt; omega
      intro v3 w3 hown3 hgrow3 hnil3
      refine hK _ _ ?_
      clear hnil3 hK K g1 g2 g3 HB2 HH0' HH1' HO2 hz hB
      refine wpG_late rfl (fun K hK => ?_)
      go_simp
      refine hK _ _ ?_
      clear hK K
      refine wpG_nil ?_
      try simp only [Act.put, List.setIfInBounds_toArray, List.set_cons_zero, List.set_cons_succ]
      have hB3 : Below w.heap.size w w3 := Below.grown HB3.out hgrow3 (by have := HH3.out.lt; omega) (fun bb h => by have := row_block HO3.out bb h; omega)
      have hH0 := has_grown hgrow3 HH2.out (row_ne HO3.out (by omega))
      have hH1 := has_grown hgrow3 HH3.out (row_ne HO3.out (by omega))
      obtain ⟨al3, ca3, rfl, hca3, _⟩ := row_reads hown3
      have g0 := has_cell hH0 (o := 0) rfl
      have g1 := has_cell hH0 (o := 1) rfl
      have hl1 := hH1.lt
      have hl0 := hH0.lt
      have HOWN := Lib.hid hown3
      have HBW := Lib.hid hB3; have HOV := Lib.hid (ov_self hH1)
      clear hown3 hgrow3 hB3 hH0 HO3 HB3 HH2 HH3
      rw [← HOV.out]
      clear hH1
      go_wp2_with fail
      refine bodyPost_ct (b := w.heap.size + 1) Try.results17 rfl rfl (has_ov_same hl1) Try.underlying28 rfl rfl rfl rfl ?_
      have hBB : Below w.heap.size w (ov w3 (w.heap.size + 1) #[.slice al3 (i + (l - e)) ca3, .int .i64 next] 28) := by have q := HBW.out; (repeat' (first | (with_reducible exact Below.refl _ _) | (with_reducible assumption) | (with_reducible refine below_from_drew ?_) | (with_reducible refine Below.alloc ?_ ?_ _) | (with_reducible refine Below.drew ?_) | (with_reducible refine below_drewN ?_ _) | (with_reducible refine Below.setCell ?_ ?_ _) | (with_reducible refine below_via ?_ (by assumption) ?_) | (with_reducible refine below_ov ?_ ?_ _ _) | go_size))
      refine ⟨_, rfl, ?_, fun _ a bb o l c x q1 q2 => ?_, hBB⟩; rotate_left; (focus (injection q1 with q1; injection q1 with q1; injection q1 with q1 _; injection q1 with q1 _ _; subst q1; have := row_block HOWN.out bb (by rw [q2]; rfl); omega))
      obtain ⟨r1, r2, r3⟩ := HLE.out
      have hlr : (A ++ R.drop e).length = i + (l - e) := by rw [List.length_append, List.length_drop, HL.out, HI.out]
      refine refAt_mk ?_ hlr (by omega) hca3
      have hrow := rowv_in (b := w.heap.size + 1) (cs := #[.slice al3 (i + (l - e)) ca3, .int .i64 next]) (T := 28) HOWN.out (by omega)
      rw [← rowVals_append] at hrow
      exact rowsAt_owned hrow hlr
end Go.Proofs.Ytcpehmlkhmfmhaa
