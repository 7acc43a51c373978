/- slices.Sort and slices.Compact on a slice of the call's own; region.runs by contract. -/
import Derived.Test.YtkpamofamcndnaaRegF
import Derived.Shelf.Slices.In.SortNone
namespace Go.Proofs.Ytkpamofamcndnaa
open Go.RowKit Go.Shelf
set_option linter.unusedSimpArgs false
set_option linter.unusedVariables false
-- below_from_drew
attribute [local go_sem] ov_cell_same ov_cell_other ov_frozen_same ov_frozen_other ov_size ov_setCell_same ov_setCell_other cell_alloc_old frozen_alloc_old setCell_alloc_old old_alloc old_ov old_drew old_drewN old_setCell
attribute [local go_sem ↓] run_max2 run_min2

abbrev msort (xs : List Int) : List Int := xs.mergeSort fun x y => decide (x ≤ y)
theorem msort_length (xs : List Int) : (msort xs).length = xs.length := List.length_mergeSort xs
/-- A slice of the call's own, sorted by the library. -/
theorem sort_own (base n c : Nat) (a : Option Addr) (xs : List Int) (w : World) (h : w.ownsRow base 3 1 (.slice a n c) n (intVals xs)) (hn : xs.length = n) (hm : n ≤ 100000000000) :
    Calls Try.prog 84 #[.slice a n c] w fun e w' => e = .returned (.tuple #[]) ∧ w'.ownsRow base 3 1 (.slice a n c) n (intVals (msort xs)) ∧ w.grownBy w' (Value.slice a n c).ownBlock := by
  rcases h.2 with ⟨h1, h2⟩ | ⟨g, cap, cur, h1, hb, hg, hnc, hcm, hcs, ht⟩
  · cases h1
    have hx : xs = [] := List.eq_nil_of_length_eq_zero hn
    subst hx
    refine (Any.slices_Sort_int_none laysM none 0 w).mono ?_
    rintro e w' ⟨rfl, rfl⟩
    exact ⟨rfl, by rw [show msort [] = [] from by simp [msort]]; exact h, rfl, rfl, rfl, Nat.le_refl _, fun _ _ _ => rfl⟩
  · cases h1
    subst hn
    have hH := holds_of_blockI (ss := xs) hg (by rw [Nat.mul_one] at ht; exact ht)
    refine (Any.slices_Sort_int laysM g 0 c xs w hH (by rcases Nat.lt_or_ge g w.heap.size with q | q; exact q; rw [Array.getElem?_eq_none q] at hg; cases hg) (by omega)).mono ?_
    rintro e w' ⟨rfl, k, os, rfl⟩
    exact ⟨rfl, ownsRow_sortedI (msort_length xs) hb hg hnc hcm hcs, grownBy_sortedI _⟩
theorem row_take {w : World} {base g n c k : Nat} {e : TypeId} {xs : List Value} (h : w.ownsRow base e 1 (.slice (some ⟨g, 0, none⟩) n c) n xs) (hk : k ≤ n) : w.ownsRow base e 1 (.slice (some ⟨g, 0, none⟩) k c) k (xs.take k) := by
  rcases h.2 with ⟨h1, h2⟩ | ⟨g', cap, cur, h1, hb, hg, hnc, hcm, hcs, ht⟩
  · cases h1
  · cases h1
    refine ⟨by rw [List.length_take, h.1]; omega, .inr ⟨g, c, cur, rfl, hb, hg, by omega, hcm, hcs, ?_⟩⟩
    rw [← ht, List.take_take]
    congr 1; omega
theorem row_mono' {w : World} {base base' size n : Nat} {e : TypeId} {v : Value} {xs : List Value} (h : w.ownsRow base e size v n xs) (hb : base' ≤ base) : w.ownsRow base' e size v n xs := by
  refine ⟨h.1, ?_⟩
  rcases h.2 with h1 | ⟨g, cap, cur, h1, h2, h3⟩
  · exact .inl h1
  · exact .inr ⟨g, cap, cur, h1, Nat.le_trans hb h2, h3⟩
/-- .. and made compact by it. -/
theorem compact_own (base n c : Nat) (a : Option Addr) (xs : List Int) (w : World) (h : w.ownsRow base 3 1 (.slice a n c) n (intVals xs)) (hn : xs.length = n) (hm : n ≤ 100000000000) :
    Calls Try.prog 85 #[.slice a n c] w fun e w' => e = .returned (.slice a (Lib.compact xs).length c) ∧ w'.ownsRow base 3 1 (.slice a (Lib.compact xs).length c) (Lib.compact xs).length (intVals (Lib.compact xs)) ∧ w.grownBy w' (Value.slice a n c).ownBlock := by
  rcases h.2 with ⟨h1, h2⟩ | ⟨g, cap, cur, h1, hb, hg, hnc, hcm, hcs, ht⟩
  · cases h1
    have hx : xs = [] := List.eq_nil_of_length_eq_zero hn
    subst hx
    refine (Any.slices_Compact_int_empty laysK none 0 w).mono ?_
    rintro e w' ⟨rfl, rfl⟩
    exact ⟨rfl, h, rfl, rfl, rfl, Nat.le_refl _, fun _ _ _ => rfl⟩
  · cases h1
    subst hn
    have hH := holds_of_blockI (ss := xs) hg (by rw [Nat.mul_one] at ht; exact ht)
    refine (Any.slices_Compact_int laysK g 0 c xs w hH (by omega) hnc).mono ?_
    rintro e w' ⟨rfl, k, rfl⟩
    have hle := Lib.compact_length_le xs
    have hl : (Lib.compact xs ++ List.replicate (xs.length - (Lib.compact xs).length) 0).length = xs.length := by simp; omega
    have h1 := ownsRow_sortedI (n := k) (os := #[]) (ts := Lib.compact xs ++ List.replicate (xs.length - (Lib.compact xs).length) 0) hl hb hg hnc hcm hcs
    have h2 := grownBy_sortedI (w := w) (g := g) (n := k) (os := #[]) (Lib.compact xs ++ List.replicate (xs.length - (Lib.compact xs).length) 0).toArray
    have e0 : ∀ u : World, Go.Sort.grow u #[] = u := fun u => by simp [Go.Sort.grow]
    rw [e0] at h1 h2
    refine ⟨rfl, ?_, h2⟩
    have h3 := row_take h1 hle
    rw [List.map_append, List.take_append_of_le_length (by simp), List.take_of_length_le (by simp)] at h3
    exact h3
/-- Where the loop of runs stands. -/
def RunI (w : World) (K : Int → Bool) (P : List Int) (sv iv : Value) (wr : World) : Prop :=
  ∃ (i : Nat) (al : Option Addr) (ca : Nat) (out : List Int), iv = .int .i64 (i : Int) ∧ i ≤ P.length ∧ out.length ≤ i ∧ sv = .slice al out.length ca ∧ Below w.heap.size w wr ∧ wr.ownsRow w.heap.size 3 1 (.slice al out.length ca) out.length (intVals out) ∧ runsG K P true = out ++ runsG K (P.drop i) (decide (out.length % 2 = 0))
theorem drop_intD {P : List Int} {i : Nat} (h : i < P.length) : P.drop i = P.getD i 0 :: P.drop (i + 1) := by
  rw [List.drop_eq_getElem_cons h]; simp [List.getD_eq_getElem?_getD, h]
theorem cellsIn_ints {w : World} {a : Option Addr} {n : Nat} {xs : List Int} (h : IntsAt w a xs) (hn : xs.length = n) : CellsIn w a n (intVals xs) := fun h0 => by
  obtain ⟨b, off, h1, h2, h4⟩ := h (by omega)
  refine ⟨b, off, h1, h2, fun j u hj => ?_⟩
  have hjl : j < xs.length := by have := (List.getElem?_eq_some_iff.1 hj).1; simpa [intVals] using this
  rw [h4 j hjl, ← hj, intVals_get hjl]
theorem intVals_one (xs : List Int) : ∀ u ∈ intVals xs, u.oneCell' = true := fun u hu => by
  obtain ⟨y, _, rfl⟩ := List.mem_map.1 hu; rfl
theorem intVals_length (xs : List Int) : (intVals xs).length = xs.length := by simp [intVals]
theorem intVals_append (xs ys : List Int) : intVals (xs ++ ys) = intVals xs ++ intVals ys := by simp [intVals]
theorem par_eq (n : Nat) : (decide ((n : Int).tmod 2 = 0)) = decide (n % 2 = 0) := by
  have : (n : Int).tmod 2 = ((n % 2 : Nat) : Int) := by rw [Int.tmod_eq_emod_of_nonneg (by omega)]; omega
  rw [this]; congr 1; apply propext; omega
set_option maxRecDepth 100000 in
set_option maxHeartbeats 4000000 in
theorem runs_any (kf : FuncId) (keep : Bool → Bool → Bool) (hk : Keeps kf keep) (a b : Option Addr) (n c m d : Nat) (ea eb : List Int) (lo : Int) (w : World) (hua : Up lo ea) (hub : Up lo eb) (hn : ea.length = n) (hm : eb.length = m) (hnx : n ≤ 50000000000) (hmx : m ≤ 50000000000) (h1 : IntsAt w a ea) (h2 : IntsAt w b eb) (R : List Int) (hR : runsZ keep (sortD (ea ++ eb)) ea eb = R) :
    Calls Try.prog 78 #[.slice a n c, .slice b m d, .func (Fn.func kf) #[] #[]] w fun e w' => ∃ al ca, e = .returned (.slice al R.length ca) ∧ R.length ≤ ca ∧ w'.ownsRow w.heap.size 3 1 (.slice al R.length ca) R.length (intVals R) ∧ Below w.heap.size w w' := by
  obtain ⟨i0, hi0, hz0, hz1, hz2⟩ := info_parts infoI
  have HK := Lib.hid hk; have HUA := Lib.hid hua; have HUB := Lib.hid hub; have HN := Lib.hid hn; have HM := Lib.hid hm; have H1 := Lib.hid h1; have H2 := Lib.hid h2; have HR := Lib.hid hR
  clear hk hua hub hn hm h1 h2 hR
  have hcon := fun (u : World) (g : Nat) (T : TypeId) (hg : Has u g #[.slice a n c, .slice b m d] T) (hb : Below w.heap.size w u) => concatI_any g n c m d a b (intVals ea) (intVals eb) T u hg (by omega) (by omega) ((cellsIn_ints H1.out HN.out).below hb) ((cellsIn_ints H2.out HM.out).below hb) (by rw [intVals_length, HN.out]; omega) (by rw [intVals_length, HM.out]; omega) (intVals_one _) (intVals_one _)
  have HC := Lib.hid hcon
  clear hcon
  have hent := HK.out.1
  go_enter Try.func78, Try.ntmps78
  go_wp2_with fail
  refine (HC.out _ _ _ (by (repeat' (first | (with_reducible refine has_drew ?_) | (with_reducible refine has_drewN ?_) | (with_reducible refine has_new ?_; (first | (with_reducible rfl) | omega | (simp; done) | (simp; omega))) | (with_reducible refine has_ov_same ?_; (first | (with_reducible rfl) | omega | (simp; done) | (simp; omega))) | (with_reducible refine has_alloc ?_) | (with_reducible refine has_ov_other ?_ ?_; (focus (first | (with_reducible rfl) | omega | (simp; done) | (simp; omega)))) | (with_reducible assumption) | (with_reducible exact has_below hB (by assumption))))) (by (repeat' (first | (with_reducible exact Below.refl _ _) | (with_reducible assumption) | (with_reducible refine below_from_drew ?_) | (with_reducible refine Below.alloc ?_ ?_ _) | (with_reducible refine Below.drew ?_) | (with_reducible refine below_drewN ?_ _) | (with_reducible refine Below.setCell ?_ ?_ _) | (with_reducible refine below_via ?_ (by assumption) ?_) | (with_reducible refine below_ov ?_ ?_ _ _) | go_size)))).mono ?_
  rintro e w1 ⟨v, rfl, hown, hb⟩
  obtain ⟨al, ca, rfl, _, _⟩ := row_reads hown
  have hB : Below w.heap.size w w1 := by (repeat' (first | (with_reducible exact Below.refl _ _) | (with_reducible assumption) | (with_reducible refine below_from_drew ?_) | (with_reducible refine Below.alloc ?_ ?_ _) | (with_reducible refine Below.drew ?_) | (with_reducible refine below_drewN ?_ _) | (with_reducible refine Below.setCell ?_ ?_ _) | (with_reducible refine below_via ?_ (by assumption) ?_) | (with_reducible refine below_ov ?_ ?_ _ _) | go_size))
  have HO := Lib.hid hown; have HB := Lib.hid hB
  clear hown hb hB
  have HS := Lib.hid (sort_own _ (n + m) ca al (ea ++ eb) w1 (by rw [intVals_append]; exact HO.out) (by rw [List.length_append, HN.out, HM.out]) (by omega))
  go_wp2_with fail
  refine HS.out.mono ?_
  rintro e w2 ⟨rfl, hown2, hg2⟩
  have hB2 : Below w.heap.size w w2 := Below.grown HB.out hg2 HB.out.size (fun bb h => by have := row_block HO.out bb h; simp at this; omega)
  have HO2 := Lib.hid hown2; have HB2 := Lib.hid hB2
  clear hown2 hg2 hB2 HS
  have HS := Lib.hid (compact_own _ (n + m) ca al _ w2 HO2.out (by rw [msort_length, List.length_append, HN.out, HM.out]) (by omega))
  rw [compact_sort] at HS
  go_wp2_with fail
  refine HS.out.mono ?_
  rintro e w3 ⟨rfl, hown3, hg3⟩
  have hB3 : Below w.heap.size w w3 := Below.grown HB2.out hg3 HB2.out.size (fun bb h => by have := row_block HO2.out bb h; simp at this; omega)
  have hI3 := intsAt_owned hown3 rfl
  have hUp : Up lo (sortD (ea ++ eb)) := sortD_up (fun x hx => by
    rcases List.mem_append.1 hx with hx | hx
    · exact HUA.out.lt x hx
    · exact HUB.out.lt x hx)
  have hPl : (sortD (ea ++ eb)).length ≤ 100000000000 := by
    rw [← compact_sort]
    have q1 := Lib.compact_length_le (msort (ea ++ eb))
    rw [msort_length, List.length_append, HN.out, HM.out] at q1
    exact Nat.le_trans q1 (by omega)
  have HI3 := Lib.hid hI3; have HB3 := Lib.hid hB3
  clear hown3 hg3 hB3 hI3 HS HO2 HO HC hUp
  have hR := HR.out
  unfold runsZ at hR
  clear HR
  have HR := Lib.hid hR
  clear hR
  generalize sortD (ea ++ eb) = P at *
  obtain ⟨pl, hpl⟩ : ∃ pl, P.length = pl := ⟨_, rfl⟩
  have HPL := Lib.hid hpl
  rw [hpl] at hPl
  rw [hpl]
  clear hpl
  go_wp2_with fail
  go_loopw [8, 20] (fun sv iv wr => RunI w3 (fun p => keep (inR ea p) (inR eb p)) P sv iv wr) (fun _ iv _ => pl - (intOf iv).toNat)
  case atStart => unfold RunI; exact ⟨0, none, 0, [], rfl, Nat.zero_le _, Nat.le_refl _, rfl, Below.refl _ _, World.ownsRow_nil _ _ _ _, rfl⟩
  case round =>
    unfold RunI at hrel
    obtain ⟨i, ao, co, out, rfl, hi, hol, rfl, hbx, hown, heq⟩ := hrel
    have hbw := below_via HB3.out hbx HB3.out.size
    have hI := HI3.out.below hbx
    rw [HPL.out] at hi
    have HBW := Lib.hid hbw; have HO := Lib.hid hown; have HI := Lib.hid hI; have HEQ := Lib.hid heq; have HBX := Lib.hid hbx
    clear hbx hbw hown hI heq
    rcases Nat.lt_or_ge i pl with c1 | c1
    · have c2 : (i : Int) < pl := by omega
      have c3 : (0 : Int) ≤ (i : Int) := by omega
      obtain ⟨bp, op, rfl, hbp, hcp⟩ := HI.out (by rw [HPL.out]; omega)
      have g0 := hcp i (by rw [HPL.out]; exact c1)
      have hd := drop_intD (P := P) (i := i) (by rw [HPL.out]; exact c1)
      have hq := HEQ.out
      rw [hd] at hq
      have hob : Old wr bp := hbp
      generalize P.getD i 0 = x at *
      have HQ := Lib.hid hq
      have hwA := within_any a n c x lo ea wr HN.out (by omega) HUA.out (H1.out.below HBW.out)
      have hwB := fun (u : World) (hu : Below wr.heap.size wr u) => within_any b m d x lo eb u HM.out (by omega) HUB.out ((H2.out.below HBW.out).below hu)
      have HWA := Lib.hid hwA; have HWB := Lib.hid hwB
      clear hcp hd hq hwA hwB
      go_wp2_with fail
      refine HWA.out.mono ?_
      rintro e w4 ⟨rfl, hb4⟩
      have HB4 := Lib.hid hb4
      clear hb4 g0
      go_wp2_with fail
      refine (HWB.out _ HB4.out).mono ?_
      rintro e w5 ⟨rfl, hb5⟩
      have HB5 := Lib.hid (HB4.out.trans (hb5.mono HB4.out.size))
      clear hb5
      go_wp2_with fail
      refine (HK.out.2 _ _ _).mono ?_
      rintro e w6 ⟨rfl, rfl⟩
      have HY := Lib.hid (below_via HBW.out HB5.out HBW.out.size)
      have HO5 := Lib.hid (row_below HB5.out HO.out)
      have HX5 := Lib.hid (below_via HBX.out HB5.out HBX.out.size)
      have hpar := par_eq out.length
      generalize hkv : keep (inR ea x) (inR eb x) = kv at *
      generalize hpv : decide (out.length % 2 = 0) = pv at *
      by_cases hkp : kv = pv
      · have HKP := Lib.hid hkp; have HKV := Lib.hid hkv; have HPV := Lib.hid hpv
        have h21 : (kv == pv) = true := by simpa using hkp
        have hpar2 : ((out.length : Int) % 2 == 0) = pv := by rw [← hpv]; by_cases q : out.length % 2 = 0 <;> simp [q] <;> omega
        clear hkv hpv hkp hpar
        go_wp2_with (at_builtin; refine wpList_append_own _ rfl _ _ 71 rfl w3.heap.size 3 i0 (.int .i64 0) 1 8 Try.underlying71 hi0 hz0 hz1 hz2 rfl (by decide) _ _ _ rfl (HO5.out.alloc _) ⟨w5.heap.size, 0, none⟩ 1 1 [.int .i64 x] rfl rfl ?p1 ?p2 ?p3 ?p4 ?p5 ?_)
        case p1 => exact newi_at (by simp)
        case p2 => exact one_of rfl
        case p3 => unfold maxLen; omega
        case p4 => omega
        case p5 => have := HX5.out.size; simp; omega
        intro v' w7 hown7 hgrow7 hnil7
        clear hnil7
        have hB7 : Below w3.heap.size w3 w7 := Below.grown ((HX5.out).alloc HX5.out.size _) hgrow7 (by have := HX5.out.size; simp; omega) (fun bb h => by have := row_block HO5.out bb h; omega)
        obtain ⟨al', ca', rfl, _, _⟩ := row_reads hown7
        have HB7 := Lib.hid hB7; have HO7 := Lib.hid hown7
        clear hgrow7 hB7 hown7
        go_wp2_with fail
        go_roundw
        case rel =>
          unfold RunI
          refine ⟨i + 1, al', ca', out ++ [x], by go_num, by rw [HPL.out]; omega, by simp; omega, by simp, HB7.out, by have q := HO7.out; rw [List.length_append, intVals_snoc]; exact q, ?_⟩
          rw [HQ.out, runsG, if_pos (by rw [HKV.out, HKP.out]), List.append_assoc]
          congr 2
          rw [← HPV.out, List.length_append, List.length_singleton]
          congr 1
          rcases Nat.mod_two_eq_zero_or_one out.length with q | q
          · rw [decide_eq_true q, decide_eq_false (by omega)]; rfl
          · rw [decide_eq_false (by omega), decide_eq_true (by omega)]; rfl
        case measure => simp [intOf]; omega
      · have HKP := Lib.hid hkp; have HKV := Lib.hid hkv; have HPV := Lib.hid hpv
        have h21 : (kv == pv) = false := by simpa using hkp
        have hpar2 : ((out.length : Int) % 2 == 0) = pv := by rw [← hpv]; by_cases q : out.length % 2 = 0 <;> simp [q] <;> omega
        clear hkv hpv hkp hpar
        go_wp2_with fail
        go_roundw
        case rel =>
          unfold RunI
          refine ⟨i + 1, ao, co, out, by go_num, by rw [HPL.out]; omega, by omega, rfl, HX5.out, HO5.out, ?_⟩
          rw [HQ.out, runsG, if_neg (by rw [HKV.out]; exact HKP.out), HPV.out]
        case measure => simp [intOf]; omega
    · obtain rfl : pl = i := by omega
      have c2 : decide ((pl : Int) < pl) = false := by simp
      have hR : R = out := by
        rw [← HR.out, HEQ.out, List.drop_of_length_le (by rw [HPL.out]; exact Nat.le_refl _)]
        exact List.append_nil _
      subst hR
      have hcc : R.length ≤ co := by
        obtain ⟨_, _, e, q, _⟩ := row_reads HO.out
        cases e; exact q
      go_wp2_with fail
      go_ret
      exact ⟨ao, co, rfl, hcc, row_mono' HO.out HB3.out.size, HBW.out⟩
end Go.Proofs.Ytkpamofamcndnaa
