/- Whole numbers: sum, other sign, comparison, from an int. Whole numbers: from an int; comparison; product. -/
import Derived.Test.YtjcbphhemmdnjaaBigBC
namespace Go.Proofs.Ytjcbphhemmdnjaa
open Go.RowKit
set_option linter.unusedSimpArgs false
set_option linter.unusedVariables false
-- below_from_drew
attribute [local go_sem] ov_cell_same ov_cell_other ov_frozen_same ov_frozen_other ov_size ov_setCell_same ov_setCell_other cell_alloc_old frozen_alloc_old setCell_alloc_old old_alloc old_ov old_drew old_drewN old_setCell
attribute [local go_sem ↓] run_max2 run_min2

/-- Two worlds that are the same but for one block. -/
def Same (W W' : World) (b : Nat) : Prop := W.heap.size ≤ W'.heap.size ∧ ∀ k, k ≠ b → W'.heap[k]? = W.heap[k]?
theorem Same.refl {W : World} {b : Nat} : Same W W b := ⟨Nat.le_refl _, fun _ _ => rfl⟩
theorem same_here {u : World} {b : Nat} {cs cs' : Array Value} {T T' : TypeId} : Same (ov u b cs T) (ov u b cs' T') b := ⟨by rw [ov_size, ov_size]; exact Nat.le_refl _, fun k hk => by
  show (u.heap.setIfInBounds b _)[k]? = (u.heap.setIfInBounds b _)[k]?
  rw [Array.getElem?_setIfInBounds_ne (Ne.symm hk), Array.getElem?_setIfInBounds_ne (Ne.symm hk)]⟩
theorem same_in {u u' : World} {b c : Nat} {cs : Array Value} {T : TypeId} (h : Same u u' b) (hc : c < u.heap.size) : Same (ov u c cs T) (ov u' c cs T) b := ⟨by rw [ov_size, ov_size]; exact h.1, fun k hk => by
  show (u'.heap.setIfInBounds c _)[k]? = (u.heap.setIfInBounds c _)[k]?
  by_cases e : c = k
  · subst e
    rw [Array.getElem?_setIfInBounds_self_of_lt hc, Array.getElem?_setIfInBounds_self_of_lt (Nat.lt_of_lt_of_le hc h.1)]
  · rw [Array.getElem?_setIfInBounds_ne e, Array.getElem?_setIfInBounds_ne e]; exact h.2 k hk⟩
theorem BigR.upd {W W' : World} {a : Option Addr} {cap b : Nat} {l : List Nat} {cs : Array Value} {T : TypeId} (h : BigR W a cap l) (hH : Has W b cs T) (h0 : ∀ x, cs[0]? ≠ some (.int .u64 x)) (hs : Same W W' b) : BigR W' a cap l := by
  obtain ⟨h1, h2, h3⟩ := h
  refine ⟨h1, h2, fun hp => ?_⟩
  obtain ⟨g, rfl, hl, hc⟩ := h3 hp
  have hg : g ≠ b := by
    rintro rfl
    have q := hc 0 hp
    unfold Has at hH
    simp only [World.cell?, hH] at q
    exact h0 _ (by simpa using q)
  refine ⟨g, rfl, Nat.lt_of_lt_of_le hl hs.1, fun i hi => ?_⟩
  rw [← hc i hi]
  exact World.cell?_of_block (a := ⟨g, i, none⟩) (hs.2 g hg)
set_option maxRecDepth 100000 in
set_option maxHeartbeats 4000000 in
theorem plus_lt (s s' : Bool) (hs : (s == s') = false) (hs2 : (s' == s) = false) (aa ab : Option Addr) (ca cb : Nat) (la lb : List Nat) (w : World) (hda : Trim la) (hdb : Trim lb) (hra : BigR w aa ca la) (hrb : BigR w ab cb lb) (hla : la.length ≤ 1000000) (hlb : lb.length ≤ 1000000) (hlt : bv la < bv lb) :
    Calls Try.prog 70 #[.agg #[.bool s, .slice aa la.length ca], .agg #[.bool s', .slice ab lb.length cb]] w fun e w' => ∃ a cap, e = .returned (.agg #[.bool (s' && decide (0 < bv lb - bv la)), .slice a (dg (bv lb - bv la)).length cap]) ∧ BigR w' a cap (dg (bv lb - bv la)) ∧ Below w.heap.size w w' := by
  have HRA := Lib.hid hra; have HRB := Lib.hid hrb
  have hsz := sizes_any aa ab ca cb la lb
  rw [cmpN_lt hlt] at hsz
  have HSZ := Lib.hid hsz
  have HDA := Lib.hid hda; have HDB := Lib.hid hdb; clear hda hdb
  have HPG := Lib.hid (fun w h1 h2 => plus_ge s' s hs2 ab aa cb ca lb la w HDB.out HDA.out h1 h2 hlb hla (Nat.le_of_lt hlt))
  clear hsz hra hrb hlt hs2
  generalize ea : la.length = na at *
  generalize eb : lb.length = nb at *
  clear ea eb
  generalize hdd : dg (bv lb - bv la) = D at *
  have HDD := Lib.hid hdd; clear hdd
  go_enter Try.func70, Try.ntmps70
  go_wp2_with (go_at_call 83; (with_reducible refine (HSZ.out _ HDA.out HDB.out ((((HRA.out.alloc _).alloc _).alloc _)) ((((HRB.out.alloc _).alloc _).alloc _))).mono ?_); rintro e w1 ⟨rfl, hb⟩; refine Exists.elim (after3 (w := w) (b0 := w.heap.size) (cs0 := ?_) (T0 := ?_) (b1 := w.heap.size + 1) (cs1 := ?_) (T1 := ?_) (b2 := w.heap.size + 1 + 1) (cs2 := ?_) (T2 := ?_) hb ?_ ?_ ?_ ?_) ?_; rotate_left 6; (focus ((repeat' (first | (with_reducible exact Below.refl _ _) | (with_reducible assumption) | (with_reducible refine below_from_drew ?_) | (with_reducible refine Below.alloc ?_ ?_ _) | (with_reducible refine Below.drew ?_) | (with_reducible refine below_drewN ?_ _) | (with_reducible refine Below.setCell ?_ ?_ _) | (with_reducible refine below_via ?_ (by assumption) ?_) | (with_reducible refine below_ov ?_ ?_ _ _) | go_size)); done)); (focus ((repeat' (first | (with_reducible refine has_drew ?_) | (with_reducible refine has_drewN ?_) | (with_reducible refine has_new ?_; (first | (with_reducible rfl) | omega | (simp; done) | (simp; omega))) | (with_reducible refine has_ov_same ?_; (first | (with_reducible rfl) | omega | (simp; done) | (simp; omega))) | (with_reducible refine has_alloc ?_) | (with_reducible refine has_ov_other ?_ ?_; (focus (first | (with_reducible rfl) | omega | (simp; done) | (simp; omega)))) | (with_reducible assumption) | (with_reducible exact has_below hB (by assumption)))); done)); (focus ((repeat' (first | (with_reducible refine has_drew ?_) | (with_reducible refine has_drewN ?_) | (with_reducible refine has_new ?_; (first | (with_reducible rfl) | omega | (simp; done) | (simp; omega))) | (with_reducible refine has_ov_same ?_; (first | (with_reducible rfl) | omega | (simp; done) | (simp; omega))) | (with_reducible refine has_alloc ?_) | (with_reducible refine has_ov_other ?_ ?_; (focus (first | (with_reducible rfl) | omega | (simp; done) | (simp; omega)))) | (with_reducible assumption) | (with_reducible exact has_below hB (by assumption)))); done)); (focus ((repeat' (first | (with_reducible refine has_drew ?_) | (with_reducible refine has_drewN ?_) | (with_reducible refine has_new ?_; (first | (with_reducible rfl) | omega | (simp; done) | (simp; omega))) | (with_reducible refine has_ov_same ?_; (first | (with_reducible rfl) | omega | (simp; done) | (simp; omega))) | (with_reducible refine has_alloc ?_) | (with_reducible refine has_ov_other ?_ ?_; (focus (first | (with_reducible rfl) | omega | (simp; done) | (simp; omega)))) | (with_reducible assumption) | (with_reducible exact has_below hB (by assumption)))); done)); rintro uz ⟨rfl, hB, hz, z0, o0, z1, o1, z2, o2⟩; (try simp only [World.size_alloc, World.size_setCell, World.size_drew, ov_size] at hz))
  have r1 := (((HRA.out.alloc _).alloc _).alloc _).below hb
  have r2 := (((HRB.out.alloc _).alloc _).alloc _).below hb
  refine (HPG.out _ r2 r1).mono ?_
  rintro e w1 ⟨a, cap, rfl, hr, hb1⟩
  have f0 := has_below hb1 (b := w.heap.size + 1 + 1) (cs := #[.bool false, .slice none 0 0]) (T := 162) (by (repeat' (first | (with_reducible refine has_drew ?_) | (with_reducible refine has_drewN ?_) | (with_reducible refine has_new ?_; (first | (with_reducible rfl) | omega | (simp; done) | (simp; omega))) | (with_reducible refine has_ov_same ?_; (first | (with_reducible rfl) | omega | (simp; done) | (simp; omega))) | (with_reducible refine has_alloc ?_) | (with_reducible refine has_ov_other ?_ ?_; (focus (first | (with_reducible rfl) | omega | (simp; done) | (simp; omega)))) | (with_reducible assumption) | (with_reducible exact has_below hB (by assumption)))))
  have hB1 : Below w.heap.size w w1 := below_via (by (repeat' (first | (with_reducible exact Below.refl _ _) | (with_reducible assumption) | (with_reducible refine below_from_drew ?_) | (with_reducible refine Below.alloc ?_ ?_ _) | (with_reducible refine Below.drew ?_) | (with_reducible refine below_drewN ?_ _) | (with_reducible refine Below.setCell ?_ ?_ _) | (with_reducible refine below_via ?_ (by assumption) ?_) | (with_reducible refine below_ov ?_ ?_ _ _) | go_size))) hb1 (by go_size)
  clear z0 o0 z1 o1 z2 o2 hz hB
  obtain ⟨u, rfl, hBu, hzu, z0, o0⟩ := after1 (w := w) (W := w1) (w1 := w1) (Below.refl _ _) hB1 f0
  clear hb1 hB1 hzu hb r1 r2 f0 HPG HSZ
  have HR := Lib.hid hr; clear hr
  go_wp2_with fail
  refine bodyPost_ret (by simp [results, Try.results70, go_sem, z0]; try rfl) rfl ?_
  exact ⟨a, cap, rfl, (HR.out.upd (b := (w.heap.size + 1 + 1)) (by (repeat' (first | (with_reducible refine has_drew ?_) | (with_reducible refine has_drewN ?_) | (with_reducible refine has_new ?_; (first | (with_reducible rfl) | omega | (simp; done) | (simp; omega))) | (with_reducible refine has_ov_same ?_; (first | (with_reducible rfl) | omega | (simp; done) | (simp; omega))) | (with_reducible refine has_alloc ?_) | (with_reducible refine has_ov_other ?_ ?_; (focus (first | (with_reducible rfl) | omega | (simp; done) | (simp; omega)))) | (with_reducible assumption) | (with_reducible exact has_below hB (by assumption))))) (by intro _ e; cases e) (by repeat (first | exact same_here | exact Same.refl | refine same_in ?_ (by first | omega | (simp; done) | (simp; omega))))), by (repeat' (first | (with_reducible exact Below.refl _ _) | (with_reducible assumption) | (with_reducible refine below_from_drew ?_) | (with_reducible refine Below.alloc ?_ ?_ _) | (with_reducible refine Below.drew ?_) | (with_reducible refine below_drewN ?_ _) | (with_reducible refine Below.setCell ?_ ?_ _) | (with_reducible refine below_via ?_ (by assumption) ?_) | (with_reducible refine below_ov ?_ ?_ _ _) | go_size))⟩
/-- The sign and the length of a number; what its digits are. -/
def sg (z : Int) : Bool := decide (z < 0)
def ln (z : Int) : Nat := (dg z.natAbs).length
def BigZ (w : World) (a : Option Addr) (cap : Nat) (z : Int) : Prop := BigR w a cap (dg z.natAbs)
theorem BigZ.below {w w1 : World} {a : Option Addr} {cap : Nat} {z : Int} (h : BigZ w a cap z) (hb : Below w.heap.size w w1) : BigZ w1 a cap z := BigR.below h hb
theorem BigZ.alloc {w : World} {a : Option Addr} {cap : Nat} {z : Int} (h : BigZ w a cap z) (o : Obj) : BigZ (w.alloc o) a cap z := BigR.alloc h o
theorem BigZ.upd {W W' : World} {a : Option Addr} {cap b : Nat} {z : Int} {cs : Array Value} {T : TypeId} (h : BigZ W a cap z) (hH : Has W b cs T) (h0 : ∀ x, cs[0]? ≠ some (.int .u64 x)) (hs : Same W W' b) : BigZ W' a cap z := BigR.upd h hH h0 hs
theorem BigZ.abs {w : World} {a : Option Addr} {cap : Nat} {x y : Int} (h : BigZ w a cap x) (e : x.natAbs = y.natAbs) : BigZ w a cap y := by unfold BigZ at *; rw [← e]; exact h
theorem ln_abs {x y : Int} (e : x.natAbs = y.natAbs) : ln x = ln y := by unfold ln; rw [e]
theorem sm_of {z : Int} {k : Nat} (h : z.natAbs < 65536 ^ k) (hk : k ≤ 1000000) : ln z ≤ 1000000 := Nat.le_trans (dg_len_le h) hk
theorem ln_zero {z : Int} : ln z = 0 ↔ z = 0 := by
  constructor
  · intro h
    have h1 : dg z.natAbs = [] := List.eq_nil_of_length_eq_zero h
    have h2 := dg_bv z.natAbs
    rw [h1] at h2
    simp [bv] at h2
    omega
  · rintro rfl; rfl
theorem plus_any (a b : Option Addr) (ca cb : Nat) (x y : Int) (w : World) (h1 : BigZ w a ca x) (h2 : BigZ w b cb y) (hx : ln x ≤ 1000000) (hy : ln y ≤ 1000000) :
    Calls Try.prog 70 #[.agg #[.bool (sg x), .slice a (ln x) ca], .agg #[.bool (sg y), .slice b (ln y) cb]] w fun e w' => ∃ r cr, e = .returned (.agg #[.bool (sg (x + y)), .slice r (ln (x + y)) cr]) ∧ BigZ w' r cr (x + y) ∧ Below w.heap.size w w' := by
  have ex := dg_bv x.natAbs
  have ey := dg_bv y.natAbs
  by_cases hs : sg x = sg y
  · rw [← hs]
    refine (plus_same (sg x) a b ca cb (dg x.natAbs) (dg y.natAbs) w (dg_trim _).1 (dg_trim _).1 h1 h2 hx hy).mono ?_
    rintro e w' ⟨r, cr, rfl, hr, hb⟩
    rw [ex, ey] at hr ⊢
    have hs' : decide (x < 0) = decide (y < 0) := hs
    have e1 : x.natAbs + y.natAbs = (x + y).natAbs := by
      by_cases q : x < 0
      · have : y < 0 := by simpa [q] using hs'.symm
        omega
      · have : ¬ y < 0 := by simpa [q] using hs'.symm
        omega
    have e2 : (sg x && decide (0 < x.natAbs + y.natAbs)) = sg (x + y) := by
      unfold sg
      by_cases q : x < 0
      · have : y < 0 := by simpa [q] using hs'.symm
        simp [q]; omega
      · have : ¬ y < 0 := by simpa [q] using hs'.symm
        simp [q]; omega
    rw [e2, e1]
    rw [e1] at hr
    exact ⟨r, cr, rfl, hr, hb⟩
  · have hs1 : (sg x == sg y) = false := by simpa using hs
    have hs2 : (sg y == sg x) = false := by simpa using fun h => hs h.symm
    have hd : (x < 0 ∧ 0 ≤ y) ∨ (0 ≤ x ∧ y < 0) := by
      by_cases q : x < 0 <;> by_cases q2 : y < 0
      · exact absurd (by simp [sg, q, q2]) hs
      · left; omega
      · right; omega
      · exact absurd (by simp [sg, q, q2]) hs
    rcases Nat.lt_or_ge x.natAbs y.natAbs with hl | hl
    · refine (plus_lt (sg x) (sg y) hs1 hs2 a b ca cb (dg x.natAbs) (dg y.natAbs) w (dg_trim _) (dg_trim _) h1 h2 hx hy (by rw [ex, ey]; exact hl)).mono ?_
      rintro e w' ⟨r, cr, rfl, hr, hb⟩
      rw [ex, ey] at hr ⊢
      have e1 : y.natAbs - x.natAbs = (x + y).natAbs := by omega
      have e2 : (sg y && decide (0 < y.natAbs - x.natAbs)) = sg (x + y) := by
        unfold sg
        rcases hd with ⟨d1, d2⟩ | ⟨d1, d2⟩
        · have : ¬ y < 0 := by omega
          simp [this]; omega
        · simp [d2]; omega
      rw [e2, e1]
      rw [e1] at hr
      exact ⟨r, cr, rfl, hr, hb⟩
    · refine (plus_ge (sg x) (sg y) hs1 a b ca cb (dg x.natAbs) (dg y.natAbs) w (dg_trim _) (dg_trim _) h1 h2 hx hy (by rw [ex, ey]; exact hl)).mono ?_
      rintro e w' ⟨r, cr, rfl, hr, hb⟩
      rw [ex, ey] at hr ⊢
      have e1 : x.natAbs - y.natAbs = (x + y).natAbs := by omega
      have e2 : (sg x && decide (0 < x.natAbs - y.natAbs)) = sg (x + y) := by
        unfold sg
        rcases hd with ⟨d1, d2⟩ | ⟨d1, d2⟩
        · simp [d1]; omega
        · have : ¬ x < 0 := by omega
          simp [this]; omega
      rw [e2, e1]
      rw [e1] at hr
      exact ⟨r, cr, rfl, hr, hb⟩
theorem ofU_z (n : Nat) (w : World) (hn : n < 18446744073709551616) :
    Calls Try.prog 71 #[.int .u64 (n : Int)] w fun e w' => ∃ r cr, e = .returned (.agg #[.bool (sg n), .slice r (ln n) cr]) ∧ BigZ w' r cr n ∧ Below w.heap.size w w' := by
  refine (ofU_any n w hn).mono ?_
  rintro e w' ⟨r, cr, rfl, hr, hb⟩
  have e1 : sg (n : Int) = false := by simp [sg]
  exact ⟨r, cr, by rw [e1]; rfl, hr, hb⟩
/-- The other sign. -/
theorem minus_any (a : Option Addr) (ca : Nat) (x : Int) (w : World) (h1 : BigZ w a ca x) :
    Calls Try.prog 85 #[.agg #[.bool (sg x), .slice a (ln x) ca]] w fun e w' => ∃ r cr, e = .returned (.agg #[.bool (sg (-x)), .slice r (ln (-x)) cr]) ∧ BigZ w' r cr (-x) ∧ Below w.heap.size w w' := by
  have ht := fun w h => trim_any (!sg x) a ca (dg x.natAbs) w (dg_trim _).1 h
  have e1 : (!sg x && decide (0 < bv (dg x.natAbs))) = sg (-x) := by rw [dg_bv]; unfold sg; rw [Bool.eq_iff_iff]; simp; omega
  rw [e1, dg_bv] at ht
  have HT := Lib.hid ht; clear ht e1
  have e2 := ln_abs (x := x) (y := -x) (by omega)
  have E2 := Lib.hid e2; clear e2
  change BigR w a ca (dg x.natAbs) at h1
  have hR := h1
  rw [show (dg x.natAbs).length = ln x from rfl] at HT
  have HR := Lib.hid hR; clear hR h1
  generalize hs : sg x = s at *
  generalize hn : ln x = n at *
  clear hs
  have HN := Lib.hid hn; clear hn
  go_enter Try.func85, Try.ntmps85
  go_wp2_with (go_at_call 82; (with_reducible refine (HT.out _ ((HR.out.alloc _).alloc _)).mono ?_); rintro e w1 ⟨rfl, hb⟩; refine Exists.elim (after2 (w := w) (b0 := w.heap.size) (cs0 := ?_) (T0 := ?_) (b1 := w.heap.size + 1) (cs1 := ?_) (T1 := ?_) hb ?_ ?_ ?_) ?_; rotate_left 4; (focus ((repeat' (first | (with_reducible exact Below.refl _ _) | (with_reducible assumption) | (with_reducible refine below_from_drew ?_) | (with_reducible refine Below.alloc ?_ ?_ _) | (with_reducible refine Below.drew ?_) | (with_reducible refine below_drewN ?_ _) | (with_reducible refine Below.setCell ?_ ?_ _) | (with_reducible refine below_via ?_ (by assumption) ?_) | (with_reducible refine below_ov ?_ ?_ _ _) | go_size)); done)); (focus ((repeat' (first | (with_reducible refine has_drew ?_) | (with_reducible refine has_drewN ?_) | (with_reducible refine has_new ?_; (first | (with_reducible rfl) | omega | (simp; done) | (simp; omega))) | (with_reducible refine has_ov_same ?_; (first | (with_reducible rfl) | omega | (simp; done) | (simp; omega))) | (with_reducible refine has_alloc ?_) | (with_reducible refine has_ov_other ?_ ?_; (focus (first | (with_reducible rfl) | omega | (simp; done) | (simp; omega)))) | (with_reducible assumption) | (with_reducible exact has_below hB (by assumption)))); done)); (focus ((repeat' (first | (with_reducible refine has_drew ?_) | (with_reducible refine has_drewN ?_) | (with_reducible refine has_new ?_; (first | (with_reducible rfl) | omega | (simp; done) | (simp; omega))) | (with_reducible refine has_ov_same ?_; (first | (with_reducible rfl) | omega | (simp; done) | (simp; omega))) | (with_reducible refine has_alloc ?_) | (with_reducible refine has_ov_other ?_ ?_; (focus (first | (with_reducible rfl) | omega | (simp; done) | (simp; omega)))) | (with_reducible assumption) | (with_reducible exact has_below hB (by assumption)))); done)); rintro uz ⟨rfl, hB, hz, z0, o0, z1, o1⟩; (try simp only [World.size_alloc, World.size_setCell, World.size_drew, ov_size] at hz))
  have r1 := ((HR.out.alloc _).alloc _).below hb
  refine bodyPost_ret (by simp [results, Try.results85, go_sem, z0, z1]; try rfl) rfl ?_
  exact ⟨a, ca, by rw [← E2.out], BigZ.abs (x := x) ((r1.upd (b := (w.heap.size + 1)) (by (repeat' (first | (with_reducible refine has_drew ?_) | (with_reducible refine has_drewN ?_) | (with_reducible refine has_new ?_; (first | (with_reducible rfl) | omega | (simp; done) | (simp; omega))) | (with_reducible refine has_ov_same ?_; (first | (with_reducible rfl) | omega | (simp; done) | (simp; omega))) | (with_reducible refine has_alloc ?_) | (with_reducible refine has_ov_other ?_ ?_; (focus (first | (with_reducible rfl) | omega | (simp; done) | (simp; omega)))) | (with_reducible assumption) | (with_reducible exact has_below hB (by assumption))))) (by intro _ e; cases e) (by repeat (first | exact same_here | exact Same.refl | refine same_in ?_ (by first | omega | (simp; done) | (simp; omega)))))) (by omega), by (repeat' (first | (with_reducible exact Below.refl _ _) | (with_reducible assumption) | (with_reducible refine below_from_drew ?_) | (with_reducible refine Below.alloc ?_ ?_ _) | (with_reducible refine Below.drew ?_) | (with_reducible refine below_drewN ?_ _) | (with_reducible refine Below.setCell ?_ ?_ _) | (with_reducible refine below_via ?_ (by assumption) ?_) | (with_reducible refine below_ov ?_ ?_ _ _) | go_size))⟩
end Go.Proofs.Ytjcbphhemmdnjaa
namespace Go.Proofs.Ytjcbphhemmdnjaa
open Go.RowKit
set_option linter.unusedSimpArgs false
set_option linter.unusedVariables false
-- below_from_drew
attribute [local go_sem] ov_cell_same ov_cell_other ov_frozen_same ov_frozen_other ov_size ov_setCell_same ov_setCell_other cell_alloc_old frozen_alloc_old setCell_alloc_old old_alloc old_ov old_drew old_drewN old_setCell
attribute [local go_sem ↓] run_max2 run_min2

theorem sizes_z (a b : Option Addr) (ca cb : Nat) (x y : Int) (w : World) (h1 : BigZ w a ca x) (h2 : BigZ w b cb y) :
    Calls Try.prog 83 #[.slice a (ln x) ca, .slice b (ln y) cb] w fun e w' => e = .returned (.int .i64 (cmpN x.natAbs y.natAbs)) ∧ Below w.heap.size w w' := by
  have h := sizes_any a b ca cb (dg x.natAbs) (dg y.natAbs) w (dg_trim _) (dg_trim _) h1 h2
  rw [dg_bv, dg_bv] at h
  exact h
/-- One number against another one. -/
def cmpI (x y : Int) : Int := if x < y then -1 else if y < x then 1 else 0
set_option maxRecDepth 100000 in
set_option maxHeartbeats 4000000 in
theorem cmp_any (a b : Option Addr) (ca cb : Nat) (x y : Int) (w : World) (h1 : BigZ w a ca x) (h2 : BigZ w b cb y) :
    Calls Try.prog 88 #[.agg #[.bool (sg x), .slice a (ln x) ca], .agg #[.bool (sg y), .slice b (ln y) cb]] w fun e w' => e = .returned (.int .i64 (cmpI x y)) ∧ Below w.heap.size w w' := by
  have HZ1 := Lib.hid (sizes_z a b ca cb x y); have HZ2 := Lib.hid (sizes_z b a cb ca y x)
  have H1 := Lib.hid h1; have H2 := Lib.hid h2; clear h1 h2
  by_cases hs : x < 0
  · have e1 : sg x = true := by simpa [sg] using hs
    by_cases ht : y < 0
    · have e2 : sg y = true := by simpa [sg] using ht
      have e3 : cmpN y.natAbs x.natAbs = cmpI x y := by unfold cmpN cmpI; split <;> split <;> (try split) <;> omega
      rw [e1, e2, ← e3]; clear e1 e2 e3
      go_enter Try.func88, Try.ntmps88
      go_wp2_with (go_at_call 83; (with_reducible refine (HZ2.out _ ((H2.out.alloc _).alloc _) ((H1.out.alloc _).alloc _)).mono ?_); rintro e w1 ⟨rfl, hb⟩; refine Exists.elim (after2 (w := w) (b0 := w.heap.size) (cs0 := ?_) (T0 := ?_) (b1 := w.heap.size + 1) (cs1 := ?_) (T1 := ?_) hb ?_ ?_ ?_) ?_; rotate_left 4; (focus ((repeat' (first | (with_reducible exact Below.refl _ _) | (with_reducible assumption) | (with_reducible refine below_from_drew ?_) | (with_reducible refine Below.alloc ?_ ?_ _) | (with_reducible refine Below.drew ?_) | (with_reducible refine below_drewN ?_ _) | (with_reducible refine Below.setCell ?_ ?_ _) | (with_reducible refine below_via ?_ (by assumption) ?_) | (with_reducible refine below_ov ?_ ?_ _ _) | go_size)); done)); (focus ((repeat' (first | (with_reducible refine has_drew ?_) | (with_reducible refine has_drewN ?_) | (with_reducible refine has_new ?_; (first | (with_reducible rfl) | omega | (simp; done) | (simp; omega))) | (with_reducible refine has_ov_same ?_; (first | (with_reducible rfl) | omega | (simp; done) | (simp; omega))) | (with_reducible refine has_alloc ?_) | (with_reducible refine has_ov_other ?_ ?_; (focus (first | (with_reducible rfl) | omega | (simp; done) | (simp; omega)))) | (with_reducible assumption) | (with_reducible exact has_below hB (by assumption)))); done)); (focus ((repeat' (first | (with_reducible refine has_drew ?_) | (with_reducible refine has_drewN ?_) | (with_reducible refine has_new ?_; (first | (with_reducible rfl) | omega | (simp; done) | (simp; omega))) | (with_reducible refine has_ov_same ?_; (first | (with_reducible rfl) | omega | (simp; done) | (simp; omega))) | (with_reducible refine has_alloc ?_) | (with_reducible refine has_ov_other ?_ ?_; (focus (first | (with_reducible rfl) | omega | (simp; done) | (simp; omega)))) | (with_reducible assumption) | (with_reducible exact has_below hB (by assumption)))); done)); rintro uz ⟨rfl, hB, hz, z0, o0, z1, o1⟩; (try simp only [World.size_alloc, World.size_setCell, World.size_drew, ov_size] at hz))
      go_ret
      exact ⟨rfl, by (repeat' (first | (with_reducible exact Below.refl _ _) | (with_reducible assumption) | (with_reducible refine below_from_drew ?_) | (with_reducible refine Below.alloc ?_ ?_ _) | (with_reducible refine Below.drew ?_) | (with_reducible refine below_drewN ?_ _) | (with_reducible refine Below.setCell ?_ ?_ _) | (with_reducible refine below_via ?_ (by assumption) ?_) | (with_reducible refine below_ov ?_ ?_ _ _) | go_size))⟩
    · have e2 : sg y = false := by simpa [sg] using ht
      have e3 : cmpI x y = -1 := by unfold cmpI; rw [if_pos (by omega)]
      rw [e1, e2, e3]; clear e1 e2 e3
      go_enter Try.func88, Try.ntmps88
      go_wp2_with fail
      go_ret
      exact ⟨rfl, by (repeat' (first | (with_reducible exact Below.refl _ _) | (with_reducible assumption) | (with_reducible refine below_from_drew ?_) | (with_reducible refine Below.alloc ?_ ?_ _) | (with_reducible refine Below.drew ?_) | (with_reducible refine below_drewN ?_ _) | (with_reducible refine Below.setCell ?_ ?_ _) | (with_reducible refine below_via ?_ (by assumption) ?_) | (with_reducible refine below_ov ?_ ?_ _ _) | go_size))⟩
  · have e1 : sg x = false := by simpa [sg] using hs
    by_cases ht : y < 0
    · have e2 : sg y = true := by simpa [sg] using ht
      have e3 : cmpI x y = 1 := by unfold cmpI; rw [if_neg (by omega), if_pos (by omega)]
      rw [e1, e2, e3]; clear e1 e2 e3
      go_enter Try.func88, Try.ntmps88
      go_wp2_with fail
      go_ret
      exact ⟨rfl, by (repeat' (first | (with_reducible exact Below.refl _ _) | (with_reducible assumption) | (with_reducible refine below_from_drew ?_) | (with_reducible refine Below.alloc ?_ ?_ _) | (with_reducible refine Below.drew ?_) | (with_reducible refine below_drewN ?_ _) | (with_reducible refine Below.setCell ?_ ?_ _) | (with_reducible refine below_via ?_ (by assumption) ?_) | (with_reducible refine below_ov ?_ ?_ _ _) | go_size))⟩
    · have e2 : sg y = false := by simpa [sg] using ht
      have e3 : cmpN x.natAbs y.natAbs = cmpI x y := by unfold cmpN cmpI; split <;> split <;> (try split) <;> omega
      rw [e1, e2, ← e3]; clear e1 e2 e3
      go_enter Try.func88, Try.ntmps88
      go_wp2_with (go_at_call 83; (with_reducible refine (HZ1.out _ ((H1.out.alloc _).alloc _) ((H2.out.alloc _).alloc _)).mono ?_); rintro e w1 ⟨rfl, hb⟩; refine Exists.elim (after2 (w := w) (b0 := w.heap.size) (cs0 := ?_) (T0 := ?_) (b1 := w.heap.size + 1) (cs1 := ?_) (T1 := ?_) hb ?_ ?_ ?_) ?_; rotate_left 4; (focus ((repeat' (first | (with_reducible exact Below.refl _ _) | (with_reducible assumption) | (with_reducible refine below_from_drew ?_) | (with_reducible refine Below.alloc ?_ ?_ _) | (with_reducible refine Below.drew ?_) | (with_reducible refine below_drewN ?_ _) | (with_reducible refine Below.setCell ?_ ?_ _) | (with_reducible refine below_via ?_ (by assumption) ?_) | (with_reducible refine below_ov ?_ ?_ _ _) | go_size)); done)); (focus ((repeat' (first | (with_reducible refine has_drew ?_) | (with_reducible refine has_drewN ?_) | (with_reducible refine has_new ?_; (first | (with_reducible rfl) | omega | (simp; done) | (simp; omega))) | (with_reducible refine has_ov_same ?_; (first | (with_reducible rfl) | omega | (simp; done) | (simp; omega))) | (with_reducible refine has_alloc ?_) | (with_reducible refine has_ov_other ?_ ?_; (focus (first | (with_reducible rfl) | omega | (simp; done) | (simp; omega)))) | (with_reducible assumption) | (with_reducible exact has_below hB (by assumption)))); done)); (focus ((repeat' (first | (with_reducible refine has_drew ?_) | (with_reducible refine has_drewN ?_) | (with_reducible refine has_new ?_; (first | (with_reducible rfl) | omega | (simp; done) | (simp; omega))) | (with_reducible refine has_ov_same ?_; (first | (with_reducible rfl) | omega | (simp; done) | (simp; omega))) | (with_reducible refine has_alloc ?_) | (with_reducible refine has_ov_other ?_ ?_; (focus (first | (with_reducible rfl) | omega | (simp; done) | (simp; omega)))) | (with_reducible assumption) | (with_reducible exact has_below hB (by assumption)))); done)); rintro uz ⟨rfl, hB, hz, z0, o0, z1, o1⟩; (try simp only [World.size_alloc, World.size_setCell, World.size_drew, ov_size] at hz))
      go_ret
      exact ⟨rfl, by (repeat' (first | (with_reducible exact Below.refl _ _) | (with_reducible assumption) | (with_reducible refine below_from_drew ?_) | (with_reducible refine Below.alloc ?_ ?_ _) | (with_reducible refine Below.drew ?_) | (with_reducible refine below_drewN ?_ _) | (with_reducible refine Below.setCell ?_ ?_ _) | (with_reducible refine below_via ?_ (by assumption) ?_) | (with_reducible refine below_ov ?_ ?_ _ _) | go_size))⟩
theorem sg_pos {z : Int} (h : 0 ≤ z) : sg z = false := by simp [sg]; omega
theorem sg_neg {z : Int} (h : z < 0) : sg z = true := by simpa [sg] using h
theorem ln_small {z : Int} (h : z.natAbs ≤ 18446744073709551615) : ln z ≤ 1000000 := sm_of (k := 4) (by omega) (by omega)
set_option maxRecDepth 100000 in
set_option maxHeartbeats 4000000 in
theorem ofZ_any (z : Int) (w : World) (hz : -9223372036854775808 ≤ z ∧ z ≤ 9223372036854775807) :
    Calls Try.prog 69 #[.int .i64 z] w fun e w' => ∃ r cr, e = .returned (.agg #[.bool (sg z), .slice r (ln z) cr]) ∧ BigZ w' r cr z ∧ Below w.heap.size w w' := by
  by_cases hs : 0 ≤ z
  · have ho := fun w => ofU_z z.natAbs w (by omega)
    rw [show ((z.natAbs : Nat) : Int) = z by omega] at ho
    have HO := Lib.hid ho; clear ho
    obtain ⟨hz1, hz2⟩ := hz
    go_enter Try.func69, Try.ntmps69
    go_wp2_with (go_at_call 71; (with_reducible refine (HO.out _).mono ?_); rintro e w1 ⟨r, cr, rfl, hr, hb⟩; refine Exists.elim (after1 (w := w) (b0 := w.heap.size) (cs0 := ?_) (T0 := ?_) hb ?_ ?_) ?_; rotate_left 2; (focus ((repeat' (first | (with_reducible exact Below.refl _ _) | (with_reducible assumption) | (with_reducible refine below_from_drew ?_) | (with_reducible refine Below.alloc ?_ ?_ _) | (with_reducible refine Below.drew ?_) | (with_reducible refine below_drewN ?_ _) | (with_reducible refine Below.setCell ?_ ?_ _) | (with_reducible refine below_via ?_ (by assumption) ?_) | (with_reducible refine below_ov ?_ ?_ _ _) | go_size)); done)); (focus ((repeat' (first | (with_reducible refine has_drew ?_) | (with_reducible refine has_drewN ?_) | (with_reducible refine has_new ?_; (first | (with_reducible rfl) | omega | (simp; done) | (simp; omega))) | (with_reducible refine has_ov_same ?_; (first | (with_reducible rfl) | omega | (simp; done) | (simp; omega))) | (with_reducible refine has_alloc ?_) | (with_reducible refine has_ov_other ?_ ?_; (focus (first | (with_reducible rfl) | omega | (simp; done) | (simp; omega)))) | (with_reducible assumption) | (with_reducible exact has_below hB (by assumption)))); done)); rintro uz ⟨rfl, hB, hz, z0, o0⟩; (try simp only [World.size_alloc, World.size_setCell, World.size_drew, ov_size] at hz))
    refine bodyPost_ret (by simp [results, Try.results69, go_sem, z0]; try rfl) rfl ?_
    exact ⟨r, cr, rfl, (hr.upd (b := w.heap.size) (by (repeat' (first | (with_reducible refine has_drew ?_) | (with_reducible refine has_drewN ?_) | (with_reducible refine has_new ?_; (first | (with_reducible rfl) | omega | (simp; done) | (simp; omega))) | (with_reducible refine has_ov_same ?_; (first | (with_reducible rfl) | omega | (simp; done) | (simp; omega))) | (with_reducible refine has_alloc ?_) | (with_reducible refine has_ov_other ?_ ?_; (focus (first | (with_reducible rfl) | omega | (simp; done) | (simp; omega)))) | (with_reducible assumption) | (with_reducible exact has_below hB (by assumption))))) (by intro _ e; cases e) (by repeat (first | exact same_here | exact Same.refl | refine same_in ?_ (by first | omega | (simp; done) | (simp; omega))))), by (repeat' (first | (with_reducible exact Below.refl _ _) | (with_reducible assumption) | (with_reducible refine below_from_drew ?_) | (with_reducible refine Below.alloc ?_ ?_ _) | (with_reducible refine Below.drew ?_) | (with_reducible refine below_drewN ?_ _) | (with_reducible refine Below.setCell ?_ ?_ _) | (with_reducible refine below_via ?_ (by assumption) ?_) | (with_reducible refine below_ov ?_ ?_ _ _) | go_size))⟩
  · obtain ⟨m, hm, ho⟩ : ∃ m : Int, m = -(z + 1) ∧ ∀ w, Calls Try.prog 71 #[.int .u64 (-(z + 1))] w fun e w' => ∃ r cr, e = .returned (.agg #[.bool (sg m), .slice r (ln m) cr]) ∧ BigZ w' r cr m ∧ Below w.heap.size w w' := ⟨_, rfl, fun w => by
      have := ofU_z (-(z + 1)).toNat w (by omega)
      rwa [show (((-(z + 1)).toNat : Nat) : Int) = -(z + 1) by omega] at this⟩
    obtain ⟨n, hn, ho1⟩ : ∃ n : Int, n = 1 ∧ ∀ w, Calls Try.prog 71 #[.int .u64 1] w fun e w' => ∃ r cr, e = .returned (.agg #[.bool (sg n), .slice r (ln n) cr]) ∧ BigZ w' r cr n ∧ Below w.heap.size w w' := ⟨_, rfl, fun w => ofU_z 1 w (by omega)⟩
    have hl1 := ln_small (z := m) (by omega)
    have hl2 := ln_small (z := n) (by omega)
    have HO := Lib.hid ho; have HO1 := Lib.hid ho1; clear ho ho1
    have e1 := ln_abs (x := m + n) (y := z) (by omega)
    have e2 := sg_neg (z := z) (by omega)
    have E1 := Lib.hid e1; have E2 := Lib.hid e2; clear e1 e2
    have E3 := Lib.hid (show (m + n).natAbs = z.natAbs by omega)
    have HL1 := Lib.hid hl1; have HL2 := Lib.hid hl2; clear hl1 hl2 hm hn
    obtain ⟨hz1, hz2⟩ := hz
    go_enter Try.func69, Try.ntmps69
    go_wp2_with fail
    (go_at_call 71; (with_reducible refine (HO.out _).mono ?_); rintro e w1 ⟨r, cr, rfl, hr, hb⟩; refine Exists.elim (after1 (w := w) (b0 := w.heap.size) (cs0 := ?_) (T0 := ?_) hb ?_ ?_) ?_; rotate_left 2; (focus ((repeat' (first | (with_reducible exact Below.refl _ _) | (with_reducible assumption) | (with_reducible refine below_from_drew ?_) | (with_reducible refine Below.alloc ?_ ?_ _) | (with_reducible refine Below.drew ?_) | (with_reducible refine below_drewN ?_ _) | (with_reducible refine Below.setCell ?_ ?_ _) | (with_reducible refine below_via ?_ (by assumption) ?_) | (with_reducible refine below_ov ?_ ?_ _ _) | go_size)); done)); (focus ((repeat' (first | (with_reducible refine has_drew ?_) | (with_reducible refine has_drewN ?_) | (with_reducible refine has_new ?_; (first | (with_reducible rfl) | omega | (simp; done) | (simp; omega))) | (with_reducible refine has_ov_same ?_; (first | (with_reducible rfl) | omega | (simp; done) | (simp; omega))) | (with_reducible refine has_alloc ?_) | (with_reducible refine has_ov_other ?_ ?_; (focus (first | (with_reducible rfl) | omega | (simp; done) | (simp; omega)))) | (with_reducible assumption) | (with_reducible exact has_below hB (by assumption)))); done)); rintro ua ⟨rfl, hB, hz, z0, o0⟩; (try simp only [World.size_alloc, World.size_setCell, World.size_drew, ov_size] at hz))
    go_wp2_with fail
    (go_at_call 71; (with_reducible refine (HO1.out _).mono ?_); rintro e w1 ⟨r1, cr1, rfl, hr1, hb⟩; replace hr := hr.below hb; refine Exists.elim (after1 (w := w) (b0 := w.heap.size) (cs0 := ?_) (T0 := ?_) hb ?_ ?_) ?_; rotate_left 2; (focus ((repeat' (first | (with_reducible exact Below.refl _ _) | (with_reducible assumption) | (with_reducible refine below_from_drew ?_) | (with_reducible refine Below.alloc ?_ ?_ _) | (with_reducible refine Below.drew ?_) | (with_reducible refine below_drewN ?_ _) | (with_reducible refine Below.setCell ?_ ?_ _) | (with_reducible refine below_via ?_ (by assumption) ?_) | (with_reducible refine below_ov ?_ ?_ _ _) | go_size)); done)); (focus ((repeat' (first | (with_reducible refine has_drew ?_) | (with_reducible refine has_drewN ?_) | (with_reducible refine has_new ?_; (first | (with_reducible rfl) | omega | (simp; done) | (simp; omega))) | (with_reducible refine has_ov_same ?_; (first | (with_reducible rfl) | omega | (simp; done) | (simp; omega))) | (with_reducible refine has_alloc ?_) | (with_reducible refine has_ov_other ?_ ?_; (focus (first | (with_reducible rfl) | omega | (simp; done) | (simp; omega)))) | (with_reducible assumption) | (with_reducible exact has_below hB (by assumption)))); done)); rintro ub ⟨rfl, hB, hz, z0, o0⟩; (try simp only [World.size_alloc, World.size_setCell, World.size_drew, ov_size] at hz))
    go_wp2_with fail
    (go_at_call 70; (with_reducible refine (plus_any _ _ _ _ _ _ _ hr hr1 HL1.out HL2.out).mono ?_); rintro e w1 ⟨r2, cr2, rfl, hr2, hb⟩; refine Exists.elim (after1 (w := w) (b0 := w.heap.size) (cs0 := ?_) (T0 := ?_) hb ?_ ?_) ?_; rotate_left 2; (focus ((repeat' (first | (with_reducible exact Below.refl _ _) | (with_reducible assumption) | (with_reducible refine below_from_drew ?_) | (with_reducible refine Below.alloc ?_ ?_ _) | (with_reducible refine Below.drew ?_) | (with_reducible refine below_drewN ?_ _) | (with_reducible refine Below.setCell ?_ ?_ _) | (with_reducible refine below_via ?_ (by assumption) ?_) | (with_reducible refine below_ov ?_ ?_ _ _) | go_size)); done)); (focus ((repeat' (first | (with_reducible refine has_drew ?_) | (with_reducible refine has_drewN ?_) | (with_reducible refine has_new ?_; (first | (with_reducible rfl) | omega | (simp; done) | (simp; omega))) | (with_reducible refine has_ov_same ?_; (first | (with_reducible rfl) | omega | (simp; done) | (simp; omega))) | (with_reducible refine has_alloc ?_) | (with_reducible refine has_ov_other ?_ ?_; (focus (first | (with_reducible rfl) | omega | (simp; done) | (simp; omega)))) | (with_reducible assumption) | (with_reducible exact has_below hB (by assumption)))); done)); rintro uc ⟨rfl, hB, hz, z0, o0⟩; (try simp only [World.size_alloc, World.size_setCell, World.size_drew, ov_size] at hz))
    go_wp2_with fail
    refine bodyPost_ret (by simp [results, Try.results69, go_sem, z0]; try rfl) rfl ?_
    refine ⟨r2, cr2, by rw [E2.out, ← E1.out], ?_, by (repeat' (first | (with_reducible exact Below.refl _ _) | (with_reducible assumption) | (with_reducible refine below_from_drew ?_) | (with_reducible refine Below.alloc ?_ ?_ _) | (with_reducible refine Below.drew ?_) | (with_reducible refine below_drewN ?_ _) | (with_reducible refine Below.setCell ?_ ?_ _) | (with_reducible refine below_via ?_ (by assumption) ?_) | (with_reducible refine below_ov ?_ ?_ _ _) | go_size))⟩
    refine BigZ.abs ?_ E3.out
    exact ((hr2.upd (b := w.heap.size) (by (repeat' (first | (with_reducible refine has_drew ?_) | (with_reducible refine has_drewN ?_) | (with_reducible refine has_new ?_; (first | (with_reducible rfl) | omega | (simp; done) | (simp; omega))) | (with_reducible refine has_ov_same ?_; (first | (with_reducible rfl) | omega | (simp; done) | (simp; omega))) | (with_reducible refine has_alloc ?_) | (with_reducible refine has_ov_other ?_ ?_; (focus (first | (with_reducible rfl) | omega | (simp; done) | (simp; omega)))) | (with_reducible assumption) | (with_reducible exact has_below hB (by assumption))))) (by intro _ e; cases e) (by repeat (first | exact same_here | exact Same.refl | refine same_in ?_ (by first | omega | (simp; done) | (simp; omega))))) : BigZ (ov uc w.heap.size #[.bool true, .slice r2 (ln (m + n)) cr2] 162) r2 cr2 (m + n)).alloc _
end Go.Proofs.Ytjcbphhemmdnjaa
