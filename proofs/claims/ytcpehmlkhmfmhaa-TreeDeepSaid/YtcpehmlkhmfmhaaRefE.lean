/- clapboardref10: Add by contract. -/
import Derived.Test.YtcpehmlkhmfmhaaRefD
import Derived.Test.YtcpehmlkhmfmhaaTree
import Derived.Test.YtcpehmlkhmfmhaaFix
namespace Go.Proofs.Ytcpehmlkhmfmhaa
open Go.RowKit
set_option linter.unusedSimpArgs false
set_option linter.unusedVariables false
-- below_from_drew
attribute [local go_sem] ov_cell_same ov_cell_other ov_frozen_same ov_frozen_other ov_size ov_setCell_same ov_setCell_other cell_alloc_old frozen_alloc_old setCell_alloc_old old_alloc old_ov old_drew old_drewN old_setCell
attribute [local go_sem ↓] run_max2 run_min2

def nextG (next f : Int) : Int := if f = 0 then next + 1 else next
/-- What Add leaves. -/
def RAddPost (R : Rows) (next par at_ : Int) (w : World) (e : Ending) (w' : World) : Prop :=
  ∃ v', e = .returned (.tuple #[v', .int .i64 (addT R next par at_).2.1, .int .i64 (addT R next par at_).2.2]) ∧ RefAt w' v' (addT R next par at_).1 (nextG next (addT R next par at_).2.2) ∧ Below w.heap.size w w'
theorem RAddPost.mk {R R' : Rows} {next par at_ k f : Int} {w w' : World} {e : Ending} {v' : Value} (hF : addT R next par at_ = (R', k, f)) (he : e = .returned (.tuple #[v', .int .i64 k, .int .i64 f])) (ht : RefAt w' v' R' (nextG next f)) (hb : Below w.heap.size w w') : RAddPost R next par at_ w e w' := by
  unfold RAddPost; rw [hF]; exact ⟨v', he, ht, hb⟩
theorem rdepth_le {R A C : Rows} {next n d : Int} (h : WfR R next) (e : R = A ++ (n, d) :: C) : 0 ≤ d ∧ d ≤ 64 := by
  refine ⟨?_, h.deep (n, d) (by rw [e]; simp)⟩
  obtain ⟨R', hR, hall⟩ := h.head
  have hm : (n, d) ∈ R := by rw [e]; simp
  rw [hR] at hm
  cases hm with
  | head => exact Int.le_refl _
  | tail _ hm => have := hall _ hm; show 0 ≤ (n, d).2; omega
theorem rowsAt_one {w : World} {g : Nat} {n d : Int} {T : TypeId} (h : Has w g #[.int .i64 n, .int .i64 d] T) : RowsAt w (some ⟨g, 0, none⟩) [(n, d)] := fun _ => ⟨g, 0, rfl, h.lt, fun i hi => by
  obtain rfl : i = 0 := by simp at hi; exact hi
  exact ⟨has_cell h rfl, has_cell h rfl⟩⟩
/-- Rows lie in no block of a slice and a number. -/
theorem rowsAt_not {w : World} {p : Nat} {x : Option Addr} {y z : Nat} {k : Int} {T : TypeId} {R : Rows} {b off : Nat} (hp : Has w p #[.slice x y z, .int .i64 k] T) (h0 : 0 < R.length) (h : ∀ i, i < R.length → w.cell? ⟨b, off + i * 2, none⟩ = some (.int .i64 (R.getD i (0, 0)).1) ∧ w.cell? ⟨b, off + i * 2 + 1, none⟩ = some (.int .i64 (R.getD i (0, 0)).2)) : b ≠ p := fun e => by
  subst e
  obtain ⟨h1, h2⟩ := h 0 h0
  rw [hp.cells] at h1 h2
  rcases off with _ | _ | off
  · simp at h1
  · simp at h2
  · simp at h1
theorem rowsAt_ov2 {u : World} {p0 p1 : Nat} {x0 x1 : Option Addr} {y0 y1 z0 z1 : Nat} {k0 k1 : Int} {T0 T1 T0' T1' : TypeId} {c0 c1 : Array Value} {R : Rows} {a : Option Addr} (hne : p0 ≠ p1) (h0 : p0 < u.heap.size) (h1 : p1 < u.heap.size)
    (h : RowsAt (ov (ov u p0 #[.slice x0 y0 z0, .int .i64 k0] T0) p1 #[.slice x1 y1 z1, .int .i64 k1] T1) a R) : RowsAt (ov (ov u p0 c0 T0') p1 c1 T1') a R := fun hl => by
  obtain ⟨b, off, rfl, hb, hc⟩ := h hl
  have n1 : b ≠ p1 := rowsAt_not (has_ov_same (by rw [ov_size]; exact h1)) hl hc
  have n0 : b ≠ p0 := rowsAt_not (has_ov_other hne (has_ov_same h0)) hl hc
  refine ⟨b, off, rfl, by simpa using hb, fun i hi => ?_⟩
  obtain ⟨q1, q2⟩ := hc i hi
  have a1 : ∀ o, ¬ ((⟨b, o, none⟩ : Addr) = ⟨p1, o, none⟩) := fun o e => n1 (by injection e)
  have a0 : ∀ o, ¬ ((⟨b, o, none⟩ : Addr) = ⟨p0, o, none⟩) := fun o e => n0 (by injection e)
  rw [ov_cell_other (a1 _), ov_cell_other (a0 _)] at q1 q2
  exact ⟨by rw [ov_cell_other (a1 _), ov_cell_other (a0 _)]; exact q1, by rw [ov_cell_other (a1 _), ov_cell_other (a0 _)]; exact q2⟩
set_option maxRecDepth 100000 in
set_option maxHeartbeats 8000000 in
theorem radd_any (v : Value) (R : Rows) (next par at_ : Int) (w : World) (h : RefAt w v R next) (hw : WfR R next) (hm : R.length ≤ 50000) (hx0 : 1 ≤ next) (hx1 : next ≤ 1000000) :
    Calls Try.prog 21 #[v, .int .i64 par, .int .i64 at_] w (RAddPost R next par at_ w) := by
  have HREF := Lib.hid h
  obtain ⟨b, off, c, rfl, hlc, hb, hc⟩ := h
  obtain ⟨l, hl⟩ : ∃ l, R.length = l := ⟨_, rfl⟩
  rw [hl] at hlc ⊢
  have hra : RowsAt w (some ⟨b, off, none⟩) R := fun _ => ⟨b, off, rfl, hb, hc⟩
  have HAT := Lib.hid (fun u (hu : Below w.heap.size w u) => at_any (some ⟨b, off, none⟩) l c next par R u hl (by omega) (hra.below hu))
  have HL := Lib.hid hl
  have hob : Old w b := hb
  rcases hf : findR par R with _ | ⟨A, d, C⟩
  · have hF : addT R next par at_ = (R, 0, 9) := by unfold addT; rw [hf]
    have hat := atF_none hf
    rw [hat] at HAT
    have HFF := Lib.hid hF
    clear hc hra hF hw hl hm hf hat hx0 hx1
    generalize hA : Value.agg #[.slice (some ⟨b, off, none⟩) R.length c, .int .i64 next] = v at HREF
    rw [HL.out] at hA
    subst hA
    go_enter Try.func21, Try.ntmps21
    go_wp2_with fail
    refine (HAT.out _ (by (repeat' (first | (with_reducible exact Below.refl _ _) | (with_reducible assumption) | (with_reducible refine below_from_drew ?_) | (with_reducible refine Below.alloc ?_ ?_ _) | (with_reducible refine Below.drew ?_) | (with_reducible refine below_drewN ?_ _) | (with_reducible refine Below.setCell ?_ ?_ _) | (with_reducible refine below_via ?_ (by assumption) ?_) | (with_reducible refine below_ov ?_ ?_ _ _) | go_size)))).mono ?_
    rintro e w1 ⟨rfl, hb1⟩
    have hH0 : Has w1 w.heap.size #[.slice (some ⟨b, off, none⟩) l c, .int .i64 next] 28 := has_below hb1 (has_alloc (has_new rfl))
    have hH1 : Has w1 (w.heap.size + 1) #[.slice none 0 0, .int .i64 0] 28 := has_below hb1 (has_new (by simp))
    have HB := Lib.hid (below_via (by (repeat' (first | (with_reducible exact Below.refl _ _) | (with_reducible assumption) | (with_reducible refine below_from_drew ?_) | (with_reducible refine Below.alloc ?_ ?_ _) | (with_reducible refine Below.drew ?_) | (with_reducible refine below_drewN ?_ _) | (with_reducible refine Below.setCell ?_ ?_ _) | (with_reducible refine below_via ?_ (by assumption) ?_) | (with_reducible refine below_ov ?_ ?_ _ _) | go_size)) : Below w.heap.size w ((w.alloc (.cells #[.slice (some ⟨b, off, none⟩) l c, .int .i64 next] 28)).alloc (.cells #[.slice none 0 0, .int .i64 0] 28))) hb1 (by simp; omega))
    have hl0 := hH0.lt
    have hl1 := hH1.lt
    have HOV := Lib.hid (ov_self hH1)
    have g0 := has_cell hH0 (o := 0) rfl
    have g1 := has_cell hH0 (o := 1) rfl
    clear hb1
    rw [← HOV.out]
    clear hH1
    go_wp2_with fail
    refine bodyPost_ctt (b := w.heap.size + 1) Try.results21 rfl rfl rfl (has_ov_same (by first | exact hl1 | (simp; omega))) Try.underlying28 rfl rfl rfl rfl ?_
    have hBB : Below w.heap.size w (ov w1 (w.heap.size + 1) #[.slice (some ⟨b, off, none⟩) l c, .int .i64 next] 28) := by have q := HB.out; (repeat' (first | (with_reducible exact Below.refl _ _) | (with_reducible assumption) | (with_reducible refine below_from_drew ?_) | (with_reducible refine Below.alloc ?_ ?_ _) | (with_reducible refine Below.drew ?_) | (with_reducible refine below_drewN ?_ _) | (with_reducible refine Below.setCell ?_ ?_ _) | (with_reducible refine below_via ?_ (by assumption) ?_) | (with_reducible refine below_ov ?_ ?_ _ _) | go_size))
    exact .mk HFF.out rfl (HREF.out.below hBB) hBB
  · obtain ⟨hR, hnA⟩ := findR_some hf
    have hat := atF_some hf
    rw [hat] at HAT
    have hst : Steps ((par, d) :: C) := by have q := hw.steps; rw [hR] at q; exact q.right
    have hlen : l = A.length + (C.length + 1) := by rw [← hl, hR]; simp
    obtain ⟨hd0, hd1⟩ := rdepth_le hw hR
    have hgi := getD_split (A := A) (C := C) (x := (par, d))
    rw [← hR] at hgi
    have hq2 := (hc A.length (by omega)).2
    rw [hgi] at hq2
    simp only at hq2
    have hcs := cutR_spec d at_.toNat C
    have hkl0 : (kidsR d C).length ≤ C.length := by
      have h1 := lvl_len2 (d + 1) (subR d C)
      have h2 := subR_le d C
      show (lvl (d + 1) (subR d C)).length ≤ _
      omega
    have HK := Lib.hid (fun u (hu : Below w.heap.size w u) => rkids_any (some ⟨b, off, none⟩) l c next par d R A C u hl (by omega) (hra.below hu) hR hst)
    have HP := Lib.hid (fun u (hu : Below w.heap.size w u) k (hk : k ≤ (kidsR d C).length) => rplace_any (some ⟨b, off, none⟩) l c k next par d R A C u hl (by omega) (hra.below hu) hR hst hk)
    have HWI := Lib.hid (fun u (hu : Below w.heap.size w u) q (hq : q ≤ l) sa (hS : RowsAt u sa [(next, d + 1)]) => with_any b off l c q 1 1 sa next R [(next, d + 1)] u hl (by omega) (by omega) hlc (Nat.lt_of_lt_of_le hb hu.size) (fun i hi => ⟨(hu.cell (p := ⟨b, _, none⟩) hb).trans (hc i hi).1, (hu.cell (p := ⟨b, _, none⟩) hb).trans (hc i hi).2⟩) hq rfl (by omega) (by omega) hS)
    have hFr : at_ < 0 ∨ ((kidsR d C).length : Int) < at_ → addT R next par at_ = (R, 0, 2) := fun q => by unfold addT; rw [hf]; exact if_pos q
    have hFc : ¬ (at_ < 0 ∨ ((kidsR d C).length : Int) < at_) → 1024 ≤ R.length → addT R next par at_ = (R, 0, 8) := fun q q2 => by unfold addT; rw [hf]; show (if _ then _ else _) = _; rw [if_neg q, if_pos q2]
    have hFd : ¬ (at_ < 0 ∨ ((kidsR d C).length : Int) < at_) → ¬ 1024 ≤ R.length → 64 ≤ d → addT R next par at_ = (R, 0, 7) := fun q q2 q3 => by unfold addT; rw [hf]; show (if _ then _ else _) = _; rw [if_neg q, if_neg q2, if_pos q3]
    have hFo : ¬ (at_ < 0 ∨ ((kidsR d C).length : Int) < at_) → ¬ 1024 ≤ R.length → ¬ 64 ≤ d → addT R next par at_ = (R.take (A.length + 1 + cutR d at_.toNat C) ++ [(next, d + 1)] ++ R.drop (A.length + 1 + cutR d at_.toNat C), next, 0) := fun q q2 q3 => by
      unfold addT; rw [hf]; show (if _ then _ else _) = _; rw [if_neg q, if_neg q2, if_neg q3]
      have e1 : R.take (A.length + 1 + cutR d at_.toNat C) = A ++ (par, d) :: C.take (cutR d at_.toNat C) := by
        rw [hR, List.take_append, List.take_of_length_le (by omega), show A.length + 1 + cutR d at_.toNat C - A.length = cutR d at_.toNat C + 1 by omega, List.take_succ_cons]
      have e2 : R.drop (A.length + 1 + cutR d at_.toNat C) = C.drop (cutR d at_.toNat C) := by
        rw [hR, List.drop_append, List.drop_eq_nil_of_le (by omega), List.nil_append, show A.length + 1 + cutR d at_.toNat C - A.length = cutR d at_.toNat C + 1 by omega, List.drop_succ_cons]
      rw [e1, e2]
    have HFr := Lib.hid hFr; have HFc := Lib.hid hFc; have HFd := Lib.hid hFd; have HFo := Lib.hid hFo; have HCS := Lib.hid hcs; have HLEN := Lib.hid hlen; have HQ := Lib.hid hq2; have HKL := Lib.hid hkl0
    clear hc hra hw hm hf hat hR hnA hst hlen hgi hq2 hFr hFc hFd hFo hcs hkl0
    rw [hl] at HFc HFd HFo
    generalize hA : Value.agg #[.slice (some ⟨b, off, none⟩) R.length c, .int .i64 next] = v at HREF
    rw [HL.out] at hA
    subst hA
    clear hl
    generalize hkl : (kidsR d C).length = kl at *
    generalize hi : A.length = i at *
    have HI := Lib.hid hi; have HKK := Lib.hid hkl
    clear hi hkl
    go_enter Try.func21, Try.ntmps21
    go_wp2_with fail
    refine (HAT.out _ (by (repeat' (first | (with_reducible exact Below.refl _ _) | (with_reducible assumption) | (with_reducible refine below_from_drew ?_) | (with_reducible refine Below.alloc ?_ ?_ _) | (with_reducible refine Below.drew ?_) | (with_reducible refine below_drewN ?_ _) | (with_reducible refine Below.setCell ?_ ?_ _) | (with_reducible refine below_via ?_ (by assumption) ?_) | (with_reducible refine below_ov ?_ ?_ _ _) | go_size)))).mono ?_
    rintro e w1 ⟨rfl, hb1⟩
    have hH0 : Has w1 w.heap.size #[.slice (some ⟨b, off, none⟩) l c, .int .i64 next] 28 := has_below hb1 (has_alloc (has_new rfl))
    have hH1 : Has w1 (w.heap.size + 1) #[.slice none 0 0, .int .i64 0] 28 := has_below hb1 (has_new (by simp))
    have HB := Lib.hid (below_via (by (repeat' (first | (with_reducible exact Below.refl _ _) | (with_reducible assumption) | (with_reducible refine below_from_drew ?_) | (with_reducible refine Below.alloc ?_ ?_ _) | (with_reducible refine Below.drew ?_) | (with_reducible refine below_drewN ?_ _) | (with_reducible refine Below.setCell ?_ ?_ _) | (with_reducible refine below_via ?_ (by assumption) ?_) | (with_reducible refine below_ov ?_ ?_ _ _) | go_size)) : Below w.heap.size w ((w.alloc (.cells #[.slice (some ⟨b, off, none⟩) l c, .int .i64 next] 28)).alloc (.cells #[.slice none 0 0, .int .i64 0] 28))) hb1 (by simp; omega))
    have hl0 := hH0.lt
    have g0 := has_cell hH0 (o := 0) rfl
    have g1 := has_cell hH0 (o := 1) rfl
    have HH0 := Lib.hid hH0; have HH1 := Lib.hid hH1
    clear hb1 hH0 hH1
    have hi0 : ¬ ((i : Int) < 0) := by omega
    by_cases ca : at_ < 0
    · have HFF := Lib.hid (HFr.out (.inl ca))
      have hH1 := HH1.out
      have hl1 := hH1.lt
      have HOV := Lib.hid (ov_self hH1)
      clear hH1
      rw [← HOV.out]
      go_wp2_with fail
      refine bodyPost_ctt (b := w.heap.size + 1) Try.results21 rfl rfl rfl (has_ov_same (by first | exact hl1 | (simp; omega))) Try.underlying28 rfl rfl rfl rfl ?_
      have hBB : Below w.heap.size w (ov w1 (w.heap.size + 1) #[.slice (some ⟨b, off, none⟩) l c, .int .i64 next] 28) := by have q := HB.out; (repeat' (first | (with_reducible exact Below.refl _ _) | (with_reducible assumption) | (with_reducible refine below_from_drew ?_) | (with_reducible refine Below.alloc ?_ ?_ _) | (with_reducible refine Below.drew ?_) | (with_reducible refine below_drewN ?_ _) | (with_reducible refine Below.setCell ?_ ?_ _) | (with_reducible refine below_via ?_ (by assumption) ?_) | (with_reducible refine below_ov ?_ ?_ _ _) | go_size))
      exact .mk HFF.out rfl (HREF.out.below hBB) hBB
    · have c0 : decide (at_ < 0) = false := by simp; omega
      have hat0 : 0 ≤ at_ := by omega
      have HCA := Lib.hid ca
      clear ca
      go_wp2_with fail
      refine (HK.out _ HB.out).mono ?_
      rintro e w2 ⟨al, ca2, rfl, _, hb2⟩
      have HH20 := Lib.hid (has_below hb2 HH0.out); have HH21 := Lib.hid (has_below hb2 HH1.out)
      have HB2 := Lib.hid (below_via HB.out hb2 HB.out.size)
      clear hb2 g0 g1 hl0
      have hl0 := HH20.out.lt
      have g0 := has_cell HH20.out (o := 0) rfl
      have g1 := has_cell HH20.out (o := 1) rfl
      have q2 := (HB2.out.cell (p := ⟨b, off + i * 2 + 1, none⟩) hb).trans HQ.out
      have hob2 : Old w2 b := Nat.lt_of_lt_of_le hb HB2.out.size
      rcases Int.lt_or_le (kl : Int) at_ with c3 | c3
      · have HFF := Lib.hid (HFr.out (.inr c3))
        have hH1 := HH21.out
        have hl1 := hH1.lt
        have HOV := Lib.hid (ov_self hH1)
        clear hH1
        rw [← HOV.out]
        go_wp2_with fail
        refine bodyPost_ctt (b := w.heap.size + 1) Try.results21 rfl rfl rfl (has_ov_same (by first | exact hl1 | (simp; omega))) Try.underlying28 rfl rfl rfl rfl ?_
        have hBB : Below w.heap.size w (ov w2 (w.heap.size + 1) #[.slice (some ⟨b, off, none⟩) l c, .int .i64 next] 28) := by have q := HB2.out; (repeat' (first | (with_reducible exact Below.refl _ _) | (with_reducible assumption) | (with_reducible refine below_from_drew ?_) | (with_reducible refine Below.alloc ?_ ?_ _) | (with_reducible refine Below.drew ?_) | (with_reducible refine below_drewN ?_ _) | (with_reducible refine Below.setCell ?_ ?_ _) | (with_reducible refine below_via ?_ (by assumption) ?_) | (with_reducible refine below_ov ?_ ?_ _ _) | go_size))
        exact .mk HFF.out rfl (HREF.out.below hBB) hBB
      · have c4 : decide ((kl : Int) < at_) = false := by simp; omega
        have HNR := Lib.hid (show ¬ (at_ < 0 ∨ (kl : Int) < at_) by omega)
        by_cases c5 : 1024 ≤ l
        · have HFF := Lib.hid (HFc.out HNR.out c5)
          have c6 : (1024 : Int) ≤ (l : Int) := by omega
          have hH1 := HH21.out
          have hl1 := hH1.lt
          have HOV := Lib.hid (ov_self hH1)
          clear hH1
          rw [← HOV.out]
          go_wp2_with fail
          refine bodyPost_ctt (b := w.heap.size + 1) Try.results21 rfl rfl rfl (has_ov_same (by first | exact hl1 | (simp; omega))) Try.underlying28 rfl rfl rfl rfl ?_
          have hBB : Below w.heap.size w (ov w2 (w.heap.size + 1) #[.slice (some ⟨b, off, none⟩) l c, .int .i64 next] 28) := by have q := HB2.out; (repeat' (first | (with_reducible exact Below.refl _ _) | (with_reducible assumption) | (with_reducible refine below_from_drew ?_) | (with_reducible refine Below.alloc ?_ ?_ _) | (with_reducible refine Below.drew ?_) | (with_reducible refine below_drewN ?_ _) | (with_reducible refine Below.setCell ?_ ?_ _) | (with_reducible refine below_via ?_ (by assumption) ?_) | (with_reducible refine below_ov ?_ ?_ _ _) | go_size))
          exact .mk HFF.out rfl (HREF.out.below hBB) hBB
        · have c6 : decide ((1024 : Int) ≤ (l : Int)) = false := by simp; omega
          have HC5 := Lib.hid c5
          have hl4 : (l : Int) < 1024 := by omega
          have hil : (i : Int) < (l : Int) := by have := HLEN.out; omega
          clear c5
          by_cases c7 : 64 ≤ d
          · have HFF := Lib.hid (HFd.out HNR.out HC5.out c7)
            have hH1 := HH21.out
            have hl1 := hH1.lt
            have HOV := Lib.hid (ov_self hH1)
            clear hH1
            rw [← HOV.out]
            go_wp2_with fail
            refine bodyPost_ctt (b := w.heap.size + 1) Try.results21 rfl rfl rfl (has_ov_same (by first | exact hl1 | (simp; omega))) Try.underlying28 rfl rfl rfl rfl ?_
            have hBB : Below w.heap.size w (ov w2 (w.heap.size + 1) #[.slice (some ⟨b, off, none⟩) l c, .int .i64 next] 28) := by have q := HB2.out; (repeat' (first | (with_reducible exact Below.refl _ _) | (with_reducible assumption) | (with_reducible refine below_from_drew ?_) | (with_reducible refine Below.alloc ?_ ?_ _) | (with_reducible refine Below.drew ?_) | (with_reducible refine below_drewN ?_ _) | (with_reducible refine Below.setCell ?_ ?_ _) | (with_reducible refine below_via ?_ (by assumption) ?_) | (with_reducible refine below_ov ?_ ?_ _ _) | go_size))
            exact .mk HFF.out rfl (HREF.out.below hBB) hBB
          · have c8 : decide ((64 : Int) ≤ d) = false := by simp; omega
            have HFF := Lib.hid (HFo.out HNR.out HC5.out (by omega))
            have hd2 : d < 64 := by omega
            obtain ⟨k, rfl⟩ : ∃ k : Nat, at_ = (k : Int) := ⟨at_.toNat, by omega⟩
            have hkk : k ≤ kl := by omega
            have hff := HFF.out
            rw [Int.toNat_natCast] at hff
            have hcl : i + 1 + cutR d k C ≤ l := by
              obtain ⟨A2, B, e1, e2, _⟩ := HCS.out (by simp; exact hkk)
              rw [Int.toNat_natCast] at e2
              have q1 := HLEN.out
              have q2 := congrArg List.length e1
              rw [List.length_append] at q2
              omega
            have hP := fun u hu => HP.out u hu k hkk
            generalize i + 1 + cutR d k C = q at *
            have HCL := Lib.hid hcl; have HPK := Lib.hid hP
            clear HFF hP
            have HFF := Lib.hid hff
            clear hff hcl
            clear c7 c3 hat0
            go_wp2_with fail
            refine region_tree (.rd 0 (.rd 1 (.rd 2 (.rd 3 (.rd 5 (.rd 6 (.rd 7 (.rd 8 (.rd 9 (.rd 10 (.rd 11 (.rd 12 (.rd 13 (.br 4 (.mk 14 (.mk 15 (.lt 16 .nl))) (.mk 14 (.mk 4 (.mk 15 (.lt 16 .nl)))))))))))))))))) (by kernel_rfl) (by kernel_rfl) (fun _ _ d _ _ h => by cases d <;> exact h) (fun hS => ?_)
            (refine wpT_read (v := ?_) rfl (.inl ⟨by rfl, fun wx hbx => ?_⟩) ?_; rotate_left; (focus (obtain ⟨cx0, fx0, zx0⟩ := bk hbx (w.heap.size) (by first | omega | (simp; done) | (simp; omega)); obtain ⟨cx1, fx1, zx1⟩ := bk hbx (b) (by first | omega | (simp; done) | (simp; omega)); go_simp; (try go_bits); (try with_reducible rfl))); try simp only [Act.put, List.setIfInBounds_toArray, List.set_cons_zero, List.set_cons_succ])
            (refine wpT_read (v := ?_) rfl (.inl ⟨by rfl, fun wx hbx => ?_⟩) ?_; rotate_left; (focus (obtain ⟨cx0, fx0, zx0⟩ := bk hbx (w.heap.size) (by first | omega | (simp; done) | (simp; omega)); obtain ⟨cx1, fx1, zx1⟩ := bk hbx (b) (by first | omega | (simp; done) | (simp; omega)); go_simp; (try go_bits); (try with_reducible rfl))); try simp only [Act.put, List.setIfInBounds_toArray, List.set_cons_zero, List.set_cons_succ])
            (refine wpT_read (v := ?_) rfl (.inl ⟨by rfl, fun wx hbx => ?_⟩) ?_; rotate_left; (focus (obtain ⟨cx0, fx0, zx0⟩ := bk hbx (w.heap.size) (by first | omega | (simp; done) | (simp; omega)); obtain ⟨cx1, fx1, zx1⟩ := bk hbx (b) (by first | omega | (simp; done) | (simp; omega)); go_simp; (try go_bits); (try with_reducible rfl))); try simp only [Act.put, List.setIfInBounds_toArray, List.set_cons_zero, List.set_cons_succ])
            (refine wpT_read (v := ?_) rfl (.inl ⟨by rfl, fun wx hbx => ?_⟩) ?_; rotate_left; (focus (obtain ⟨cx0, fx0, zx0⟩ := bk hbx (w.heap.size) (by first | omega | (simp; done) | (simp; omega)); obtain ⟨cx1, fx1, zx1⟩ := bk hbx (b) (by first | omega | (simp; done) | (simp; omega)); go_simp; (try go_bits); (try with_reducible rfl))); try simp only [Act.put, List.setIfInBounds_toArray, List.set_cons_zero, List.set_cons_succ])
            (refine wpT_read (v := ?_) rfl (.inl ⟨by rfl, fun wx hbx => ?_⟩) ?_; rotate_left; (focus (obtain ⟨cx0, fx0, zx0⟩ := bk hbx (w.heap.size) (by first | omega | (simp; done) | (simp; omega)); obtain ⟨cx1, fx1, zx1⟩ := bk hbx (b) (by first | omega | (simp; done) | (simp; omega)); go_simp; (try go_bits); (try with_reducible rfl))); try simp only [Act.put, List.setIfInBounds_toArray, List.set_cons_zero, List.set_cons_succ])
            (refine wpT_read (v := ?_) rfl (.inl ⟨by rfl, fun wx hbx => ?_⟩) ?_; rotate_left; (focus (obtain ⟨cx0, fx0, zx0⟩ := bk hbx (w.heap.size) (by first | omega | (simp; done) | (simp; omega)); obtain ⟨cx1, fx1, zx1⟩ := bk hbx (b) (by first | omega | (simp; done) | (simp; omega)); go_simp; (try go_bits); (try with_reducible rfl))); try simp only [Act.put, List.setIfInBounds_toArray, List.set_cons_zero, List.set_cons_succ])
            (refine wpT_read (v := ?_) rfl (.inl ⟨by rfl, fun wx hbx => ?_⟩) ?_; rotate_left; (focus (obtain ⟨cx0, fx0, zx0⟩ := bk hbx (w.heap.size) (by first | omega | (simp; done) | (simp; omega)); obtain ⟨cx1, fx1, zx1⟩ := bk hbx (b) (by first | omega | (simp; done) | (simp; omega)); go_simp; (try go_bits); (try with_reducible rfl))); try simp only [Act.put, List.setIfInBounds_toArray, List.set_cons_zero, List.set_cons_succ])
            (refine wpT_read (v := ?_) rfl (.inl ⟨by rfl, fun wx hbx => ?_⟩) ?_; rotate_left; (focus (obtain ⟨cx0, fx0, zx0⟩ := bk hbx (w.heap.size) (by first | omega | (simp; done) | (simp; omega)); obtain ⟨cx1, fx1, zx1⟩ := bk hbx (b) (by first | omega | (simp; done) | (simp; omega)); go_simp; (try go_bits); (try with_reducible rfl))); try simp only [Act.put, List.setIfInBounds_toArray, List.set_cons_zero, List.set_cons_succ])
            (refine wpT_read (v := ?_) rfl (.inl ⟨by rfl, fun wx hbx => ?_⟩) ?_; rotate_left; (focus (obtain ⟨cx0, fx0, zx0⟩ := bk hbx (w.heap.size) (by first | omega | (simp; done) | (simp; omega)); obtain ⟨cx1, fx1, zx1⟩ := bk hbx (b) (by first | omega | (simp; done) | (simp; omega)); go_simp; (try go_bits); (try with_reducible rfl))); try simp only [Act.put, List.setIfInBounds_toArray, List.set_cons_zero, List.set_cons_succ])
            (refine wpT_read (v := ?_) rfl (.inl ⟨by rfl, fun wx hbx => ?_⟩) ?_; rotate_left; (focus (obtain ⟨cx0, fx0, zx0⟩ := bk hbx (w.heap.size) (by first | omega | (simp; done) | (simp; omega)); obtain ⟨cx1, fx1, zx1⟩ := bk hbx (b) (by first | omega | (simp; done) | (simp; omega)); go_simp; (try go_bits); (try with_reducible rfl))); try simp only [Act.put, List.setIfInBounds_toArray, List.set_cons_zero, List.set_cons_succ])
            (refine wpT_read (v := ?_) rfl (.inl ⟨by rfl, fun wx hbx => ?_⟩) ?_; rotate_left; (focus (obtain ⟨cx0, fx0, zx0⟩ := bk hbx (w.heap.size) (by first | omega | (simp; done) | (simp; omega)); obtain ⟨cx1, fx1, zx1⟩ := bk hbx (b) (by first | omega | (simp; done) | (simp; omega)); go_simp; (try go_bits); (try with_reducible rfl))); try simp only [Act.put, List.setIfInBounds_toArray, List.set_cons_zero, List.set_cons_succ])
            (refine wpT_read (v := ?_) rfl (.inl ⟨by rfl, fun wx hbx => ?_⟩) ?_; rotate_left; (focus (obtain ⟨cx0, fx0, zx0⟩ := bk hbx (w.heap.size) (by first | omega | (simp; done) | (simp; omega)); obtain ⟨cx1, fx1, zx1⟩ := bk hbx (b) (by first | omega | (simp; done) | (simp; omega)); go_simp; (try go_bits); (try with_reducible rfl))); try simp only [Act.put, List.setIfInBounds_toArray, List.set_cons_zero, List.set_cons_succ])
            (refine wpT_read (v := ?_) rfl (.inl ⟨by rfl, fun wx hbx => ?_⟩) ?_; rotate_left; (focus (obtain ⟨cx0, fx0, zx0⟩ := bk hbx (w.heap.size) (by first | omega | (simp; done) | (simp; omega)); obtain ⟨cx1, fx1, zx1⟩ := bk hbx (b) (by first | omega | (simp; done) | (simp; omega)); go_simp; (try go_bits); (try with_reducible rfl))); try simp only [Act.put, List.setIfInBounds_toArray, List.set_cons_zero, List.set_cons_succ])
            refine wpT_both rfl (fun K hK => ?_) ?_
            (focus ((go_simp; (go_at_call 62; (with_reducible refine (HPK.out _ (have q := HB2.out; (by (repeat' (first | (with_reducible exact Below.refl _ _) | (with_reducible assumption) | (with_reducible refine below_from_drew ?_) | (with_reducible refine Below.alloc ?_ ?_ _) | (with_reducible refine Below.drew ?_) | (with_reducible refine below_drewN ?_ _) | (with_reducible refine Below.setCell ?_ ?_ _) | (with_reducible refine below_via ?_ (by assumption) ?_) | (with_reducible refine below_ov ?_ ?_ _ _) | go_size))))).mono ?_); rintro e u3 ⟨rfl, hb⟩; have hz := hb.size; refine (fun hB => ?_ : Below w2.heap.size w2 u3 → _) ?_; rotate_left; (focus ((repeat' (first | (with_reducible exact Below.refl _ _) | (with_reducible assumption) | (with_reducible refine below_from_drew ?_) | (with_reducible refine Below.alloc ?_ ?_ _) | (with_reducible refine Below.drew ?_) | (with_reducible refine below_drewN ?_ _) | (with_reducible refine Below.setCell ?_ ?_ _) | (with_reducible refine below_via ?_ (by assumption) ?_) | (with_reducible refine below_ov ?_ ?_ _ _) | go_size)); done)); (try simp only [World.size_alloc, World.size_setCell, World.size_drew, ov_size] at hz)); (try simp only []); (try have hbk := hb); refine hK _ _ ?_ (fun hS2 => ?_); (focus ((repeat' (first | (with_reducible exact Below.refl _ _) | (with_reducible assumption) | (with_reducible refine below_from_drew ?_) | (with_reducible refine Below.alloc ?_ ?_ _) | (with_reducible refine Below.drew ?_) | (with_reducible refine below_drewN ?_ _) | (with_reducible refine Below.setCell ?_ ?_ _) | (with_reducible refine below_via ?_ (by assumption) ?_) | (with_reducible refine below_ov ?_ ?_ _ _) | go_size)); done)); clear hK K hS; have hS := hS2; clear hS2; (try clear hb); try simp only [Act.put, List.setIfInBounds_toArray, List.set_cons_zero, List.set_cons_succ]); (refine wpT_make rfl (fun K hK => ?_); go_simp; (try simp only []); (try simp only []); (try have hbk := hb); refine hK _ _ ?_ (fun hS2 => ?_); (focus ((repeat' (first | (with_reducible exact Below.refl _ _) | (with_reducible assumption) | (with_reducible refine below_from_drew ?_) | (with_reducible refine Below.alloc ?_ ?_ _) | (with_reducible refine Below.drew ?_) | (with_reducible refine below_drewN ?_ _) | (with_reducible refine Below.setCell ?_ ?_ _) | (with_reducible refine below_via ?_ (by assumption) ?_) | (with_reducible refine below_ov ?_ ?_ _ _) | go_size)); done)); clear hK K hS; have hS := hS2; clear hS2; (try clear hb); try simp only [Act.put, List.setIfInBounds_toArray, List.set_cons_zero, List.set_cons_succ])))
            rotate_left 1
            (focus (refine wpT_make rfl (fun K hK => ?_); (go_simp; (try simp only []); (try simp only []); (try have hbk := hb); refine hK _ _ ?_ (fun hS2 => ?_); (focus ((repeat' (first | (with_reducible exact Below.refl _ _) | (with_reducible assumption) | (with_reducible refine below_from_drew ?_) | (with_reducible refine Below.alloc ?_ ?_ _) | (with_reducible refine Below.drew ?_) | (with_reducible refine below_drewN ?_ _) | (with_reducible refine Below.setCell ?_ ?_ _) | (with_reducible refine below_via ?_ (by assumption) ?_) | (with_reducible refine below_ov ?_ ?_ _ _) | go_size)); done)); clear hK K hS; have hS := hS2; clear hS2; (try clear hb); try simp only [Act.put, List.setIfInBounds_toArray, List.set_cons_zero, List.set_cons_succ]); (refine wpT_make rfl (fun K hK => ?_); go_simp; (go_at_call 62; (with_reducible refine (HPK.out _ (have q := HB2.out; (by (repeat' (first | (with_reducible exact Below.refl _ _) | (with_reducible assumption) | (with_reducible refine below_from_drew ?_) | (with_reducible refine Below.alloc ?_ ?_ _) | (with_reducible refine Below.drew ?_) | (with_reducible refine below_drewN ?_ _) | (with_reducible refine Below.setCell ?_ ?_ _) | (with_reducible refine below_via ?_ (by assumption) ?_) | (with_reducible refine below_ov ?_ ?_ _ _) | go_size))))).mono ?_); rintro e u3 ⟨rfl, hb⟩; have hz := hb.size; refine (fun hB => ?_ : Below w2.heap.size w2 u3 → _) ?_; rotate_left; (focus ((repeat' (first | (with_reducible exact Below.refl _ _) | (with_reducible assumption) | (with_reducible refine below_from_drew ?_) | (with_reducible refine Below.alloc ?_ ?_ _) | (with_reducible refine Below.drew ?_) | (with_reducible refine below_drewN ?_ _) | (with_reducible refine Below.setCell ?_ ?_ _) | (with_reducible refine below_via ?_ (by assumption) ?_) | (with_reducible refine below_ov ?_ ?_ _ _) | go_size)); done)); (try simp only [World.size_alloc, World.size_setCell, World.size_drew, ov_size] at hz)); (try simp only []); (try have hbk := hb); refine hK _ _ ?_ (fun hS2 => ?_); (focus ((repeat' (first | (with_reducible exact Below.refl _ _) | (with_reducible assumption) | (with_reducible refine below_from_drew ?_) | (with_reducible refine Below.alloc ?_ ?_ _) | (with_reducible refine Below.drew ?_) | (with_reducible refine below_drewN ?_ _) | (with_reducible refine Below.setCell ?_ ?_ _) | (with_reducible refine below_via ?_ (by assumption) ?_) | (with_reducible refine below_ov ?_ ?_ _ _) | go_size)); done)); clear hK K hS; have hS := hS2; clear hS2; (try clear hb); try simp only [Act.put, List.setIfInBounds_toArray, List.set_cons_zero, List.set_cons_succ])))
            · have hBW : Below w.heap.size w u3 := by have q := below_via HB2.out hB HB2.out.size; (repeat' (first | (with_reducible exact Below.refl _ _) | (with_reducible assumption) | (with_reducible refine below_from_drew ?_) | (with_reducible refine Below.alloc ?_ ?_ _) | (with_reducible refine Below.drew ?_) | (with_reducible refine below_drewN ?_ _) | (with_reducible refine Below.setCell ?_ ?_ _) | (with_reducible refine below_via ?_ (by assumption) ?_) | (with_reducible refine below_ov ?_ ?_ _ _) | go_size))
              have hHW0 : Has u3 _ _ _ := has_below hB HH20.out
              have hHW1 : Has u3 _ _ _ := has_below hB HH21.out
              have hrow : RowsAt u3 (some ⟨w2.heap.size, 0, none⟩) [(next, d + 1)] := rowsAt_one (T := 133) (has_below hbk (by (repeat' (first | (with_reducible refine has_drew ?_) | (with_reducible refine has_drewN ?_) | (with_reducible refine has_new ?_; (first | (with_reducible rfl) | omega | (simp; done) | (simp; omega))) | (with_reducible refine has_ov_same ?_; (first | (with_reducible rfl) | omega | (simp; done) | (simp; omega))) | (with_reducible refine has_alloc ?_) | (with_reducible refine has_ov_other ?_ ?_; (focus (first | (with_reducible rfl) | omega | (simp; done) | (simp; omega)))) | (with_reducible assumption)))))
              refine wpT_make rfl (fun K hK => ?_)
              go_simp
              (go_at_call 61; (with_reducible refine (HWI.out _ hBW q HCL.out _ hrow).mono ?_); rintro e w4 ⟨al4, ca4, rfl, hca4, hR4, hb4⟩)
              refine hK _ _ (below_via hS hb4 hS.size) (fun hS2 => ?_)
              clear hS2
              clear hK K hS
              (try simp only [Act.put, List.setIfInBounds_toArray, List.set_cons_zero, List.set_cons_succ])
              obtain ⟨u5, rfl, hB5, hz5, z0, o0, z1, o1⟩ := after2 (w := w) hb4 hBW hHW0 hHW1
              refine wpT_late rfl (fun K hK => ?_)
              go_simp
              refine hK _ _ ?_
              clear hK K
              (try simp only [Act.put, List.setIfInBounds_toArray, List.set_cons_zero, List.set_cons_succ])
              refine wpT_nil ?_
              have HR4 := Lib.hid hR4
              clear hR4 hb4 hrow hBW hHW0 hHW1 hbk hB hz
              have HB5 := Lib.hid hB5
              clear hB5
              go_wp2_with fail
              refine bodyPost_ctt (b := w.heap.size + 1) Try.results21 rfl rfl rfl (has_ov_same (by rw [ov_size]; exact z1)) Try.underlying28 rfl rfl rfl rfl ?_
              have hBB : Below w.heap.size w (ov (ov u5 w.heap.size #[.slice al4 (l + 1) ca4, .int .i64 (next + 1)] 28) (w.heap.size + 1) #[.slice al4 (l + 1) ca4, .int .i64 (next + 1)] 28) := by have q := HB5.out; (repeat' (first | (with_reducible exact Below.refl _ _) | (with_reducible assumption) | (with_reducible refine below_from_drew ?_) | (with_reducible refine Below.alloc ?_ ?_ _) | (with_reducible refine Below.drew ?_) | (with_reducible refine below_drewN ?_ _) | (with_reducible refine Below.setCell ?_ ?_ _) | (with_reducible refine below_via ?_ (by assumption) ?_) | (with_reducible refine below_ov ?_ ?_ _ _) | go_size))
              have hlr : (R.take q ++ [(next, d + 1)] ++ R.drop q).length = l + 1 := by
                have h1 := HL.out
                have h2 := HCL.out
                simp only [List.length_append, List.length_take, List.length_drop, List.length_cons, List.length_nil]
                omega
              exact .mk HFF.out rfl (refAt_mk (rowsAt_ov2 (by omega) z0 z1 HR4.out) hlr (by omega) hca4) hBB
            · have hBW : Below w.heap.size w (u3.alloc (.cells #[.int .i64 next, .int .i64 (d + 1)] 133)) := by have q := below_via HB2.out hB HB2.out.size; (repeat' (first | (with_reducible exact Below.refl _ _) | (with_reducible assumption) | (with_reducible refine below_from_drew ?_) | (with_reducible refine Below.alloc ?_ ?_ _) | (with_reducible refine Below.drew ?_) | (with_reducible refine below_drewN ?_ _) | (with_reducible refine Below.setCell ?_ ?_ _) | (with_reducible refine below_via ?_ (by assumption) ?_) | (with_reducible refine below_ov ?_ ?_ _ _) | go_size))
              have hHW0 : Has (u3.alloc (.cells #[.int .i64 next, .int .i64 (d + 1)] 133)) _ _ _ := has_alloc (has_below hB HH20.out)
              have hHW1 : Has (u3.alloc (.cells #[.int .i64 next, .int .i64 (d + 1)] 133)) _ _ _ := has_alloc (has_below hB HH21.out)
              have hrow : RowsAt (u3.alloc (.cells #[.int .i64 next, .int .i64 (d + 1)] 133)) (some ⟨u3.heap.size, 0, none⟩) [(next, d + 1)] := rowsAt_one (T := 133) (has_new rfl)
              refine wpT_make rfl (fun K hK => ?_)
              go_simp
              (go_at_call 61; (with_reducible refine (HWI.out _ hBW q HCL.out _ hrow).mono ?_); rintro e w4 ⟨al4, ca4, rfl, hca4, hR4, hb4⟩)
              refine hK _ _ (below_via hS hb4 hS.size) (fun hS2 => ?_)
              clear hS2
              clear hK K hS
              (try simp only [Act.put, List.setIfInBounds_toArray, List.set_cons_zero, List.set_cons_succ])
              obtain ⟨u5, rfl, hB5, hz5, z0, o0, z1, o1⟩ := after2 (w := w) hb4 hBW hHW0 hHW1
              refine wpT_late rfl (fun K hK => ?_)
              go_simp
              refine hK _ _ ?_
              clear hK K
              (try simp only [Act.put, List.setIfInBounds_toArray, List.set_cons_zero, List.set_cons_succ])
              refine wpT_nil ?_
              have HR4 := Lib.hid hR4
              clear hR4 hb4 hrow hBW hHW0 hHW1 hbk hB hz
              have HB5 := Lib.hid hB5
              clear hB5
              go_wp2_with fail
              refine bodyPost_ctt (b := w.heap.size + 1) Try.results21 rfl rfl rfl (has_ov_same (by rw [ov_size]; exact z1)) Try.underlying28 rfl rfl rfl rfl ?_
              have hBB : Below w.heap.size w (ov (ov u5 w.heap.size #[.slice al4 (l + 1) ca4, .int .i64 (next + 1)] 28) (w.heap.size + 1) #[.slice al4 (l + 1) ca4, .int .i64 (next + 1)] 28) := by have q := HB5.out; (repeat' (first | (with_reducible exact Below.refl _ _) | (with_reducible assumption) | (with_reducible refine below_from_drew ?_) | (with_reducible refine Below.alloc ?_ ?_ _) | (with_reducible refine Below.drew ?_) | (with_reducible refine below_drewN ?_ _) | (with_reducible refine Below.setCell ?_ ?_ _) | (with_reducible refine below_via ?_ (by assumption) ?_) | (with_reducible refine below_ov ?_ ?_ _ _) | go_size))
              have hlr : (R.take q ++ [(next, d + 1)] ++ R.drop q).length = l + 1 := by
                have h1 := HL.out
                have h2 := HCL.out
                simp only [List.length_append, List.length_take, List.length_drop, List.length_cons, List.length_nil]
                omega
              exact .mk HFF.out rfl (refAt_mk (rowsAt_ov2 (by omega) z0 z1 HR4.out) hlr (by omega) hca4) hBB
end Go.Proofs.Ytcpehmlkhmfmhaa
