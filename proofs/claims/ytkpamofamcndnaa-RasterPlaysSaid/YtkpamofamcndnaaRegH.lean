/- region.heights by contract. -/
import Derived.Test.YtkpamofamcndnaaRegG
namespace Go.Proofs.Ytkpamofamcndnaa
open Go.RowKit Go.Shelf
set_option linter.unusedSimpArgs false
set_option linter.unusedVariables false
-- below_from_drew
attribute [local go_sem] ov_cell_same ov_cell_other ov_frozen_same ov_frozen_other ov_size ov_setCell_same ov_setCell_other cell_alloc_old frozen_alloc_old setCell_alloc_old old_alloc old_ov old_drew old_drewN old_setCell
attribute [local go_sem ↓] run_max2 run_min2

/-- Cells that bands are read from. -/
def HeadC (A : List BandZ) (xs : List Value) : Prop := xs.length = A.length * 3 ∧ (∀ u ∈ xs, u.oneCell' = true) ∧ ∀ i, i < A.length → xs[i * 3]? = some (.int .i64 (A.getD i b0Z).y0) ∧ xs[i * 3 + 1]? = some (.int .i64 (A.getD i b0Z).y1) ∧ ∃ ea l ec, xs[i * 3 + 2]? = some (.slice ea l ec)
theorem bands_cells {w : World} {a : Option Addr} {A : List BandZ} (h : BandsAt w a A) : ∃ xs, HeadC A xs ∧ CellsIn w a A.length xs := by
  rcases Nat.eq_zero_or_pos A.length with h0 | h0
  · obtain rfl : A = [] := List.eq_nil_of_length_eq_zero h0
    exact ⟨[], ⟨rfl, by simp, fun i hi => by simp at hi⟩, fun h => by simp at h⟩
  · obtain ⟨b, off, rfl, hb, hc⟩ := h h0
    have hj : ∀ j, j < A.length * 3 → ∃ v, w.cell? ⟨b, off + j, none⟩ = some v ∧ v.oneCell' = true := fun j hj => by
      obtain ⟨k0, k1, ea, ec, k2, _, _⟩ := hc (j / 3) (by omega)
      have hm : j % 3 = 0 ∨ j % 3 = 1 ∨ j % 3 = 2 := by omega
      rcases hm with hm | hm | hm
      · exact ⟨_, by rw [← k0]; congr 2; omega, rfl⟩
      · exact ⟨_, by rw [← k1]; congr 2; omega, rfl⟩
      · exact ⟨_, by rw [← k2]; congr 2; omega, rfl⟩
    refine ⟨(List.range (A.length * 3)).map fun j => (w.cell? ⟨b, off + j, none⟩).getD (.int .i64 0), ⟨by simp, ?_, ?_⟩, ?_⟩
    · intro u hu
      obtain ⟨j, h1, rfl⟩ := List.mem_map.1 hu
      obtain ⟨v, h2, h3⟩ := hj j (by simpa using h1)
      rw [h2]; exact h3
    · intro i hi
      obtain ⟨k0, k1, ea, ec, k2, _, _⟩ := hc i hi
      have g : ∀ j, j < A.length * 3 → ((List.range (A.length * 3)).map fun j => (w.cell? ⟨b, off + j, none⟩).getD (.int .i64 0))[j]? = some ((w.cell? ⟨b, off + j, none⟩).getD (.int .i64 0)) := fun j hj => by simp [hj]
      refine ⟨?_, ?_, ea, (A.getD i b0Z).es.length, ec, ?_⟩
      · rw [g _ (by omega), k0]; rfl
      · rw [g _ (by omega), show off + (i * 3 + 1) = off + i * 3 + 1 by omega, k1]; rfl
      · rw [g _ (by omega), show off + (i * 3 + 2) = off + i * 3 + 2 by omega, k2]; rfl
    · intro _
      refine ⟨b, off, rfl, hb, fun j u hju => ?_⟩
      have hjl : j < A.length * 3 := by have := (List.getElem?_eq_some_iff.1 hju).1; simpa using this
      obtain ⟨v, h2, h3⟩ := hj j hjl
      simp [hjl, h2] at hju
      rw [h2, hju]
theorem headC_append {A B : List BandZ} {xs ys : List Value} (h : HeadC A xs) (k : HeadC B ys) : HeadC (A ++ B) (xs ++ ys) := by
  refine ⟨by rw [List.length_append, List.length_append, h.1, k.1]; omega, fun u hu => (List.mem_append.1 hu).elim (h.2.1 u) (k.2.1 u), fun i hi => ?_⟩
  rw [List.length_append] at hi
  by_cases c : i < A.length
  · obtain ⟨h0, h1, h2⟩ := h.2.2 i c
    have e : (A ++ B).getD i b0Z = A.getD i b0Z := by simp [List.getD_eq_getElem?_getD, List.getElem?_append_left c]
    rw [e, List.getElem?_append_left (by rw [h.1]; omega), List.getElem?_append_left (by rw [h.1]; omega), List.getElem?_append_left (by rw [h.1]; omega)]
    exact ⟨h0, h1, h2⟩
  · obtain ⟨h0, h1, h2⟩ := k.2.2 (i - A.length) (by omega)
    have e : (A ++ B).getD i b0Z = B.getD (i - A.length) b0Z := by simp [List.getD_eq_getElem?_getD, List.getElem?_append_right (show A.length ≤ i by omega)]
    rw [e, List.getElem?_append_right (by rw [h.1]; omega), List.getElem?_append_right (by rw [h.1]; omega), List.getElem?_append_right (by rw [h.1]; omega), h.1]
    rw [show i * 3 - A.length * 3 = (i - A.length) * 3 by omega, show i * 3 + 1 - A.length * 3 = (i - A.length) * 3 + 1 by omega, show i * 3 + 2 - A.length * 3 = (i - A.length) * 3 + 2 by omega]
    exact ⟨h0, h1, h2⟩
theorem heightsL_append (A B : List BandZ) : heightsL (A ++ B) = heightsL A ++ heightsL B := by simp [heightsL]
theorem heightsL_snoc {C : List BandZ} {i : Nat} (h : i < C.length) : heightsL (C.take (i + 1)) = heightsL (C.take i) ++ [(C.getD i b0Z).y0, (C.getD i b0Z).y1] := by
  rw [List.take_add_one, heightsL_append, List.getElem?_eq_getElem h]
  simp [heightsL, List.getD_eq_getElem?_getD, h]
theorem heightsL_length (A : List BandZ) : (heightsL A).length = 2 * A.length := by
  induction A with
  | nil => rfl
  | cons b A ih => simp [heightsL] at ih ⊢; omega
theorem intVals_two (xs : List Int) (x y : Int) : intVals (xs ++ [x, y]) = intVals xs ++ [.int .i64 x, .int .i64 y] := by simp [intVals]
def HgtI (w : World) (C : List BandZ) (sv iv : Value) (wr : World) : Prop :=
  ∃ (i : Nat) (al : Option Addr) (ca : Nat), iv = .int .i64 (i : Int) ∧ i ≤ C.length ∧ sv = .slice al (2 * i) ca ∧ Below w.heap.size w wr ∧ wr.ownsRow w.heap.size 3 1 (.slice al (2 * i) ca) (2 * i) (intVals (heightsL (C.take i)))
set_option maxRecDepth 100000 in
set_option maxHeartbeats 4000000 in
theorem heights_any (a b : Option Addr) (n c m d : Nat) (A B : List BandZ) (w : World) (hn : A.length = n) (hm : B.length = m) (hnx : n ≤ 20000000000) (hmx : m ≤ 20000000000) (h1 : BandsAt w a A) (h2 : BandsAt w b B) (C : List BandZ) (hC : A ++ B = C) :
    Calls Try.prog 76 #[.agg #[.slice a n c], .agg #[.slice b m d]] w fun e w' => ∃ al ca, e = .returned (.slice al (sortD (heightsL C)).length ca) ∧ IntsAt w' al (sortD (heightsL C)) ∧ Below w.heap.size w w' := by
  obtain ⟨i0, hi0, hz0, hz1, hz2⟩ := info_parts infoI
  obtain ⟨xs, hx1, hx2⟩ := bands_cells h1
  obtain ⟨ys, hy1, hy2⟩ := bands_cells h2
  rw [hn] at hx2
  rw [hm] at hy2
  have hl1 := hx1.1; have hl2 := hy1.1
  rw [hn] at hl1
  rw [hm] at hl2
  have hcon := fun (u : World) (g : Nat) (T : TypeId) (hg : Has u g #[.slice a n c, .slice b m d] T) (hb : Below w.heap.size w u) => concatB_any g n c m d a b xs ys T u hg (by omega) (by omega) (hx2.below hb) (hy2.below hb) hl1 hl2 hx1.2.1 hy1.2.1
  have hap := headC_append hx1 hy1
  have hCl : (A ++ B).length = n + m := by rw [List.length_append, hn, hm]
  rw [hC] at hap hCl
  have HC := Lib.hid hcon; have HH := Lib.hid hap; have HCN := Lib.hid hCl
  have HN := Lib.hid hn; have HM := Lib.hid hm
  clear hcon hap hCl hC hx1 hx2 hy1 hy2 hl1 hl2 h1 h2 hn hm
  go_enter Try.func76, Try.ntmps76
  go_wp2_with fail
  refine (HC.out _ _ _ (by (repeat' (first | (with_reducible refine has_drew ?_) | (with_reducible refine has_drewN ?_) | (with_reducible refine has_new ?_; (first | (with_reducible rfl) | omega | (simp; done) | (simp; omega))) | (with_reducible refine has_ov_same ?_; (first | (with_reducible rfl) | omega | (simp; done) | (simp; omega))) | (with_reducible refine has_alloc ?_) | (with_reducible refine has_ov_other ?_ ?_; (focus (first | (with_reducible rfl) | omega | (simp; done) | (simp; omega)))) | (with_reducible assumption) | (with_reducible exact has_below hB (by assumption))))) (by (repeat' (first | (with_reducible exact Below.refl _ _) | (with_reducible assumption) | (with_reducible refine below_from_drew ?_) | (with_reducible refine Below.alloc ?_ ?_ _) | (with_reducible refine Below.drew ?_) | (with_reducible refine below_drewN ?_ _) | (with_reducible refine Below.setCell ?_ ?_ _) | (with_reducible refine below_via ?_ (by assumption) ?_) | (with_reducible refine below_ov ?_ ?_ _ _) | go_size)))).mono ?_
  rintro e w1 ⟨v, rfl, hown, hb⟩
  obtain ⟨ar, cr, rfl, _, _, hcells⟩ := row_reads hown
  have hB : Below w.heap.size w w1 := by (repeat' (first | (with_reducible exact Below.refl _ _) | (with_reducible assumption) | (with_reducible refine below_from_drew ?_) | (with_reducible refine Below.alloc ?_ ?_ _) | (with_reducible refine Below.drew ?_) | (with_reducible refine below_drewN ?_ _) | (with_reducible refine Below.setCell ?_ ?_ _) | (with_reducible refine below_via ?_ (by assumption) ?_) | (with_reducible refine below_ov ?_ ?_ _ _) | go_size))
  have HCL := Lib.hid hcells; have HB := Lib.hid hB
  clear hown hb hB hcells HC
  generalize xs ++ ys = zs at *
  obtain ⟨k, hk⟩ : ∃ k, n + m = k := ⟨_, rfl⟩
  have hk2 : (n : Int) + m = k := by omega
  rw [hk] at HCN HCL
  try rw [hk]
  have hkm : k ≤ 40000000000 := by omega
  clear hk hk2
  go_wp2_with fail
  go_loopw [5, 15] (fun sv iv wr => HgtI w1 C sv iv wr) (fun _ iv _ => k - (intOf iv).toNat)
  case atStart => unfold HgtI; exact ⟨0, none, 0, rfl, Nat.zero_le _, rfl, Below.refl _ _, World.ownsRow_nil _ _ _ _⟩
  case round =>
    unfold HgtI at hrel
    obtain ⟨i, ao, co, rfl, hi, rfl, hbx, hown⟩ := hrel
    rw [HCN.out] at hi
    have hzx := hbx.size
    have HBX := Lib.hid hbx; have HO := Lib.hid hown
    clear hbx hown
    rcases Nat.lt_or_ge i k with c1 | c1
    · have c2 : (i : Int) < k := by omega
      have c3 : (0 : Int) ≤ (i : Int) := by omega
      obtain ⟨g, rfl, hgb, hgl, hgc⟩ := HCL.out (by omega)
      obtain ⟨e0, e1, ea, l, ec, e2⟩ := HH.out.2.2 i (by rw [HCN.out]; exact c1)
      have g0 := (HBX.out.cell (p := ⟨g, i * 3, none⟩) hgl).trans (hgc _ _ e0)
      have g1 := (HBX.out.cell (p := ⟨g, i * 3 + 1, none⟩) hgl).trans (hgc _ _ e1)
      have g2 := (HBX.out.cell (p := ⟨g, i * 3 + 2, none⟩) hgl).trans (hgc _ _ e2)
      have HS := Lib.hid (heightsL_snoc (C := C) (i := i) (by rw [HCN.out]; exact c1))
      generalize C.getD i b0Z = x at *
      obtain ⟨y0, y1, es⟩ := x
      simp only at g0 g1
      have hgr : g < wr.heap.size := Nat.lt_of_lt_of_le hgl HBX.out.size
      have hob : Old wr g := hgr
      clear hgc e0 e1 e2
      go_wp2_with (at_builtin; refine wpList_append_own _ rfl _ _ 71 rfl w1.heap.size 3 i0 (.int .i64 0) 1 8 Try.underlying71 hi0 hz0 hz1 hz2 rfl (by decide) _ _ _ rfl ((HO.out.alloc _).alloc _) ⟨wr.heap.size + 1, 0, none⟩ 2 2 [.int .i64 y0, .int .i64 y1] rfl rfl (newi_at (by simp)) (one_of rfl) (by unfold maxLen; omega) (by omega) (by simp; omega) ?_)
      intro v' w7 hown7 hgrow7 hnil7
      clear hnil7
      have hB7 : Below w1.heap.size w1 w7 := Below.grown (by have q := HBX.out; (repeat' (first | (with_reducible exact Below.refl _ _) | (with_reducible assumption) | (with_reducible refine below_from_drew ?_) | (with_reducible refine Below.alloc ?_ ?_ _) | (with_reducible refine Below.drew ?_) | (with_reducible refine below_drewN ?_ _) | (with_reducible refine Below.setCell ?_ ?_ _) | (with_reducible refine below_via ?_ (by assumption) ?_) | (with_reducible refine below_ov ?_ ?_ _ _) | go_size))) hgrow7 (by simp; omega) (fun bb h => by have := row_block HO.out bb h; omega)
      obtain ⟨al', ca', rfl, _, _⟩ := row_reads hown7
      have HB7 := Lib.hid hB7; have HO7 := Lib.hid hown7
      clear hgrow7 hB7 hown7
      go_wp2_with fail
      go_roundw
      case rel => unfold HgtI; exact ⟨i + 1, al', ca', by go_num, by rw [HCN.out]; omega, rfl, HB7.out, by rw [HS.out, intVals_two]; exact HO7.out⟩
      case measure => simp [intOf]; omega
    · obtain rfl : k = i := by omega
      have c2 : decide ((k : Int) < k) = false := by simp
      have hown := HO.out
      rw [List.take_of_length_le (by rw [HCN.out]; exact Nat.le_refl _)] at hown
      have hBW := below_via HB.out HBX.out HB.out.size
      have HO2 := Lib.hid hown; have HBW := Lib.hid hBW
      have hHl : (heightsL C).length = 2 * k := by rw [heightsL_length, HCN.out]
      clear hown hBW HO
      have HS := Lib.hid (sort_own _ (2 * k) co ao _ wr HO2.out hHl (by omega))
      go_wp2_with fail
      refine HS.out.mono ?_
      rintro e w2 ⟨rfl, hown2, hg2⟩
      have hB2 : Below w.heap.size w w2 := Below.grown HBW.out hg2 HBW.out.size (fun bb h => by have := row_block HO2.out bb h; have := HB.out.size; omega)
      have HO3 := Lib.hid hown2; have HB2 := Lib.hid hB2
      clear hown2 hg2 hB2 HS
      have HS := Lib.hid (compact_own _ (2 * k) co ao _ w2 HO3.out (by rw [msort_length]; exact hHl) (by omega))
      rw [compact_sort] at HS
      clear hHl
      go_wp2_with fail
      refine HS.out.mono ?_
      rintro e w3 ⟨rfl, hown3, hg3⟩
      have hB3 : Below w.heap.size w w3 := Below.grown HB2.out hg3 HB2.out.size (fun bb h => by have := row_block HO3.out bb h; have := HB.out.size; omega)
      have hI3 := intsAt_owned hown3 rfl
      have HI3 := Lib.hid hI3; have HB3 := Lib.hid hB3
      clear hown3 hg3 hB3 hI3 HS
      go_wp2_with fail
      go_ret
      exact ⟨ao, co, rfl, HI3.out, HB3.out⟩
end Go.Proofs.Ytkpamofamcndnaa
