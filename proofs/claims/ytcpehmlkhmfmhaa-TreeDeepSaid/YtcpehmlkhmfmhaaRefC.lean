/- clapboardref10: New, with, place by contract. -/
import Derived.Test.YtcpehmlkhmfmhaaRefB
import Derived.Test.YtcpehmlkhmfmhaaBlk
namespace Go.Proofs.Ytcpehmlkhmfmhaa
open Go.RowKit
set_option linter.unusedSimpArgs false
set_option linter.unusedVariables false
-- below_from_drew
attribute [local go_sem] ov_cell_same ov_cell_other ov_frozen_same ov_frozen_other ov_size ov_setCell_same ov_setCell_other cell_alloc_old frozen_alloc_old setCell_alloc_old old_alloc old_ov old_drew old_drewN old_setCell
attribute [local go_sem ↓] run_max2 run_min2

def rowVals : Rows → List Value
  | [] => []
  | x :: R => .int .i64 x.1 :: .int .i64 x.2 :: rowVals R
theorem rowVals_append : ∀ A B : Rows, rowVals (A ++ B) = rowVals A ++ rowVals B
  | [], B => rfl
  | x :: A, B => by show _ :: _ :: rowVals (A ++ B) = _; rw [rowVals_append A B]; rfl
theorem rowVals_len : ∀ A : Rows, (rowVals A).length = A.length * 2
  | [] => rfl
  | x :: A => by show (rowVals A).length + 1 + 1 = (A.length + 1) * 2; rw [rowVals_len A]; omega
theorem rowVals_get : ∀ (A : Rows) (i : Nat), i < A.length → (rowVals A)[i * 2]? = some (.int .i64 (A.getD i (0, 0)).1) ∧ (rowVals A)[i * 2 + 1]? = some (.int .i64 (A.getD i (0, 0)).2)
  | [], i, h => by simp at h
  | x :: A, 0, _ => ⟨rfl, rfl⟩
  | x :: A, i + 1, h => by
    have := rowVals_get A i (by simpa using h)
    rw [show (i + 1) * 2 = i * 2 + 1 + 1 by omega]
    exact this
theorem rowVals_one (A : Rows) : ∀ v ∈ rowVals A, v.oneCell' = true := by
  induction A with
  | nil => intro v h; cases h
  | cons x A ih =>
    intro v h
    rcases List.mem_cons.1 h with h | h
    · subst h; rfl
    · rcases List.mem_cons.1 h with h | h
      · subst h; rfl
      · exact ih v h
/-- As cells, one by one. -/
theorem RowsAt.vals {w : World} {b off : Nat} {R : Rows} (h : ∀ i, i < R.length → w.cell? ⟨b, off + i * 2, none⟩ = some (.int .i64 (R.getD i (0, 0)).1) ∧ w.cell? ⟨b, off + i * 2 + 1, none⟩ = some (.int .i64 (R.getD i (0, 0)).2)) : ∀ j u, (rowVals R)[j]? = some u → w.cell? ⟨b, off + j, none⟩ = some u := fun j u hj => by
  have hjl := (List.getElem?_eq_some_iff.1 hj).1
  rw [rowVals_len] at hjl
  have hd : j = j / 2 * 2 ∨ j = j / 2 * 2 + 1 := by omega
  have hi : j / 2 < R.length := by omega
  obtain ⟨q1, q2⟩ := rowVals_get R (j / 2) hi
  obtain ⟨r1, r2⟩ := h (j / 2) hi
  rcases hd with e | e
  · rw [← e] at q1 r1; rw [r1, ← q1, hj]
  · rw [← e] at q2
    rw [show off + j / 2 * 2 + 1 = off + (j / 2 * 2 + 1) by omega, ← e] at r2
    rw [r2, ← q2, hj]
theorem rowsAt_owned {w : World} {base cap n : Nat} {a : Option Addr} {T : TypeId} {R : Rows} (h : w.ownsRow base T 2 (.slice a n cap) n (rowVals R)) (hn : R.length = n) : RowsAt w a R := fun h0 => by
  obtain ⟨a', cap', e, _, _, hr⟩ := row_reads h
  cases e
  obtain ⟨g, rfl, hg, hl, hc⟩ := hr (by omega)
  refine ⟨g, 0, rfl, hl, fun i hi => ?_⟩
  obtain ⟨q1, q2⟩ := rowVals_get R i hi
  rw [Nat.zero_add]
  exact ⟨hc _ _ q1, hc _ _ q2⟩
theorem bodyPost_ct {P : Program} {fn : Func} {R : Ending → World → Prop} {a : Act} {w : World} {p q : Tmp} {ty : TypeId} {n b : Nat} {cs : Array Value} {T : TypeId} {d : TypeDesc} {x : Value} (hr : fn.results = #[.cell p ty, .tmp q])
    (hp : a.tmps.getD p undef = .pointer (some ⟨b, 0, none⟩)) (hq : a.tmps.getD q undef = x) (hg : Has w b cs T) (hu : P.underlying ty = some d) (hd : d.isRow = true) (hi : (P.info? ty).map (·.size) = some n) (hn : cs.size = n)
    (h0 : a.defers = []) (h : R (.returned (.tuple #[.agg cs, x])) w) : bodyPost P fn R .ret a w := by
  refine bodyPost_ret ?_ h0 h
  have e : a.tmps[p]?.getD undef = .pointer (some ⟨b, 0, none⟩) := by simpa using hp
  have e' : a.tmps[q]?.getD undef = x := by simpa using hq
  simp [results, hr, e, e', asAddr, run_loadVar_row w b T ty cs (0, 0) d hg hu (by cases d <;> simp_all) (by rw [hi, hn])]
theorem bodyPost_ctt {P : Program} {fn : Func} {R : Ending → World → Prop} {a : Act} {w : World} {p q r : Tmp} {ty : TypeId} {n b : Nat} {cs : Array Value} {T : TypeId} {d : TypeDesc} {x y : Value} (hr : fn.results = #[.cell p ty, .tmp q, .tmp r])
    (hp : a.tmps.getD p undef = .pointer (some ⟨b, 0, none⟩)) (hq : a.tmps.getD q undef = x) (hq2 : a.tmps.getD r undef = y) (hg : Has w b cs T) (hu : P.underlying ty = some d) (hd : d.isRow = true) (hi : (P.info? ty).map (·.size) = some n) (hn : cs.size = n)
    (h0 : a.defers = []) (h : R (.returned (.tuple #[.agg cs, x, y])) w) : bodyPost P fn R .ret a w := by
  refine bodyPost_ret ?_ h0 h
  have e : a.tmps[p]?.getD undef = .pointer (some ⟨b, 0, none⟩) := by simpa using hp
  have e' : a.tmps[q]?.getD undef = x := by simpa using hq
  have e'' : a.tmps[r]?.getD undef = y := by simpa using hq2
  simp [results, hr, e, e', e'', asAddr, run_loadVar_row w b T ty cs (0, 0) d hg hu (by cases d <;> simp_all) (by rw [hi, hn])]
theorem infoRow : (Try.prog.info? 133).map (fun i => (i.zero, i.size, i.bytes)) = some (some (.agg #[.int .i64 0, .int .i64 0]), 2, 16) := by kernel_rfl
set_option maxRecDepth 100000 in
theorem rnew_any (w : World) : Calls Try.prog 14 #[] w fun e w' => ∃ a c, e = .returned (.agg #[.slice a 1 c, .int .i64 1]) ∧ 1 ≤ c ∧ RowsAt w' a [(0, 0)] ∧ Below w.heap.size w w' := by
  go_enter Try.func14, Try.ntmps14
  go_wp2_with fail
  refine bodyPost_row (cs := ?_) (T := ?_) (n := 2) Try.results14 (b := w.heap.size) (by rfl) ?_ Try.underlying28 rfl (by kernel_rfl) ?_ rfl ?_; rotate_left 2; (focus ((repeat' (first | (with_reducible refine has_drew ?_) | (with_reducible refine has_drewN ?_) | (with_reducible refine has_new ?_; (first | (with_reducible rfl) | omega | (simp; done) | (simp; omega))) | (with_reducible refine has_ov_same ?_; (first | (with_reducible rfl) | omega | (simp; done) | (simp; omega))) | (with_reducible refine has_alloc ?_) | (with_reducible refine has_ov_other ?_ ?_; (focus (first | (with_reducible rfl) | omega | (simp; done) | (simp; omega)))) | (with_reducible assumption))); done)); (focus (rfl))
  refine ⟨_, _, rfl, Nat.le_refl _, fun _ => ⟨w.heap.size + 1, 0, rfl, by simp, fun i hi => ?_⟩, by (repeat' (first | (with_reducible exact Below.refl _ _) | (with_reducible assumption) | (with_reducible refine below_from_drew ?_) | (with_reducible refine Below.alloc ?_ ?_ _) | (with_reducible refine Below.drew ?_) | (with_reducible refine below_drewN ?_ _) | (with_reducible refine Below.setCell ?_ ?_ _) | (with_reducible refine below_via ?_ (by assumption) ?_) | (with_reducible refine below_ov ?_ ?_ _ _) | go_size))⟩
  obtain rfl : i = 0 := by simp at hi; exact hi
  have hn := has_new (w := w.alloc (.cells #[.slice (some ⟨w.heap.size + 1, 0, none⟩) 1 1, .int .i64 1] 28)) (b := w.heap.size + 1) (cs := #[.int .i64 0, .int .i64 0]) (T := 133) (by simp)
  exact ⟨has_cell hn rfl, has_cell hn rfl⟩
set_option maxRecDepth 100000 in
set_option maxHeartbeats 4000000 in
theorem with_any (b off l c q sl sc : Nat) (sa : Option Addr) (next : Int) (R S : Rows) (w : World) (hl : R.length = l) (hm : l ≤ 100000) (hl0 : 0 < l) (hlc : l ≤ c) (hb : b < w.heap.size) (h : ∀ i, i < R.length → w.cell? ⟨b, off + i * 2, none⟩ = some (.int .i64 (R.getD i (0, 0)).1) ∧ w.cell? ⟨b, off + i * 2 + 1, none⟩ = some (.int .i64 (R.getD i (0, 0)).2)) (hq : q ≤ l) (hsl : S.length = sl) (hs0 : 0 < sl) (hsm : sl ≤ 100000) (hS : RowsAt w sa S) :
    Calls Try.prog 61 #[.agg #[.slice (some ⟨b, off, none⟩) l c, .int .i64 next], .int .i64 (q : Int), .slice sa sl sc] w fun e w' => ∃ al ca, e = .returned (.agg #[.slice al (l + sl) ca, .int .i64 next]) ∧ l + sl ≤ ca ∧ RowsAt w' al (R.take q ++ S ++ R.drop q) ∧ Below w.heap.size w w' := by
  obtain ⟨i0, hi, hz0, hz1, hz2⟩ := info_parts infoRow
  have hv := RowsAt.vals h
  have hob : Old w b := hb
  have hql : (q : Int) ≤ l := by omega
  have hqc : (q : Int) ≤ c := by omega
  have hlc' : (l : Int) ≤ c := by omega
  have hq0 : (0 : Int) ≤ (q : Int) := by omega
  have HV := Lib.hid hv; have HL := Lib.hid hl; have HSL := Lib.hid hsl
  clear h hv hl hsl
  go_enter Try.func61, Try.ntmps61
  go_wp2_with (at_builtin; refine wpList_append_own _ rfl _ _ 26 rfl (w.heap.size + 2) 133 i0 (.agg #[.int .i64 0, .int .i64 0]) 2 16 Try.underlying26 hi hz0 hz1 hz2 rfl (by decide) _ _ _ rfl (World.ownsRow_nil _ _ _ _) ⟨b, off, none⟩ q c (rowVals (R.take q)) rfl ?p0 ?p1 ?p2 ?p3 ?p4 ?p5 ?_)
  case p0 => rw [rowVals_len, List.length_take, HL.out, Nat.min_eq_left hq]
  case p1 =>
    intro j u hj
    rw [Addr.add_lit, cell_alloc_old (by show b < _; simp; omega), cell_alloc_old hob]
    have hj2 : (rowVals R)[j]? = some u := by
      have e : R = R.take q ++ R.drop q := (List.take_append_drop q R).symm
      rw [e, rowVals_append, List.getElem?_append_left (List.getElem?_eq_some_iff.1 hj).1]; exact hj
    exact HV.out j u hj2
  case p2 => exact rowVals_one _
  case p3 => unfold maxLen; omega
  case p4 => omega
  case p5 => simp
  intro v1 w1 hown1 hgrow1 hnil1
  clear hnil1
  have hB1 : Below w.heap.size w w1 := Below.grown (by (repeat' (first | (with_reducible exact Below.refl _ _) | (with_reducible assumption) | (with_reducible refine below_from_drew ?_) | (with_reducible refine Below.alloc ?_ ?_ _) | (with_reducible refine Below.drew ?_) | (with_reducible refine below_drewN ?_ _) | (with_reducible refine Below.setCell ?_ ?_ _) | (with_reducible refine below_via ?_ (by assumption) ?_) | (with_reducible refine below_ov ?_ ?_ _ _) | go_size))) hgrow1 (by simp; omega) (fun bb h => by cases h)
  have hH0 : Has w1 w.heap.size #[.slice (some ⟨b, off, none⟩) l c, .int .i64 next] 28 := has_grown hgrow1 (has_alloc (has_new rfl)) (by simp [Value.ownBlock])
  have hH1 : Has w1 (w.heap.size + 1) #[.slice none 0 0, .int .i64 0] 28 := has_grown hgrow1 (has_new (by simp)) (by simp [Value.ownBlock])
  obtain ⟨al1, ca1, rfl, _, _⟩ := row_reads hown1
  obtain ⟨sb, soff, rfl, hsb, hsv⟩ := hS (by rw [HSL.out]; exact hs0)
  have HSV := Lib.hid (RowsAt.vals hsv)
  have HO1 := Lib.hid hown1; have HB1 := Lib.hid hB1; have HH0 := Lib.hid hH0; have HH1 := Lib.hid hH1
  clear hown1 hgrow1 hB1 hH0 hH1 hsv
  go_wp2_with (at_builtin; refine wpList_append_own _ rfl _ _ 26 rfl (w.heap.size + 2) 133 i0 (.agg #[.int .i64 0, .int .i64 0]) 2 16 Try.underlying26 hi hz0 hz1 hz2 rfl (by decide) _ _ _ rfl HO1.out ⟨sb, soff, none⟩ sl sc (rowVals S) rfl ?p0 ?p1 ?p2 ?p3 ?p4 ?p5 ?_)
  case p0 => rw [rowVals_len, HSL.out]
  case p1 =>
    intro j u hj
    rw [Addr.add_lit]
    exact (HB1.out.cell (p := ⟨sb, soff + j, none⟩) hsb).trans (HSV.out j u hj)
  case p2 => exact rowVals_one _
  case p3 => unfold maxLen; omega
  case p4 => omega
  case p5 => have := HH1.out.lt; omega
  intro v2 w2 hown2 hgrow2 hnil2
  clear hnil2
  have hB2 : Below w.heap.size w w2 := Below.grown HB1.out hgrow2 (by have := HH1.out.lt; omega) (fun bb h => by have := row_block HO1.out bb h; omega)
  have hH0 := has_grown hgrow2 HH0.out (row_ne HO1.out (by omega))
  have hH1 := has_grown hgrow2 HH1.out (row_ne HO1.out (by omega))
  obtain ⟨al2, ca2, rfl, _, _⟩ := row_reads hown2
  have g0 := has_cell hH0 (o := 0) rfl
  have hl0' := hH0.lt
  have HO2 := Lib.hid hown2; have HB2 := Lib.hid hB2; have HH2 := Lib.hid hH0; have HH3 := Lib.hid hH1
  clear hown2 hgrow2 hB2 hH0 hH1
  have hdrop : ∀ j u, (rowVals (R.drop q))[j]? = some u → (rowVals R)[q * 2 + j]? = some u := fun j u hj => by
    have e : R = R.take q ++ R.drop q := (List.take_append_drop q R).symm
    have hl2 : (rowVals (R.take q)).length = q * 2 := by rw [rowVals_len, List.length_take, HL.out, Nat.min_eq_left hq]
    rw [e, rowVals_append, List.getElem?_append_right (by omega), hl2, show q * 2 + j - q * 2 = j by omega]; exact hj
  have HDR := Lib.hid hdrop; clear hdrop
  have hfin : ∀ (al3 : Option Addr) (ca3 : Nat) (w3 : World), w3.ownsRow (w.heap.size + 2) 133 2 (.slice al3 (q + sl + (l - q)) ca3) (q + sl + (l - q)) (rowVals (R.take q) ++ rowVals S ++ rowVals (R.drop q)) → q + sl + (l - q) ≤ ca3 → RowsAt w3 al3 (R.take q ++ S ++ R.drop q) := fun al3 ca3 w3 ho _ => by
    rw [← rowVals_append, ← rowVals_append] at ho
    exact rowsAt_owned ho (by simp [HL.out, HSL.out]; omega)
  have HFIN := Lib.hid hfin; clear hfin
  have hqq : (l : Int) - q = ((l - q : Nat) : Int) := by omega
  rcases Nat.lt_or_ge q c with hc | hc
  · have hcc : (c : Int) - q = ((c - q : Nat) : Int) := by omega
    have hne : ¬ c = q := by omega
    go_wp2_with (at_builtin; refine wpList_append_own _ rfl _ _ 26 rfl (w.heap.size + 2) 133 i0 (.agg #[.int .i64 0, .int .i64 0]) 2 16 Try.underlying26 hi hz0 hz1 hz2 rfl (by decide) _ _ _ rfl HO2.out ⟨b, off + q * 2, none⟩ (l - q) (c - q) (rowVals (R.drop q)) rfl ?p0 ?p1 ?p2 ?p3 ?p4 ?p5 ?_)
    case p0 => rw [rowVals_len, List.length_drop, HL.out]
    case p1 =>
      intro j u hj
      have h1 := HV.out _ u (HDR.out j u hj)
      rw [Addr.add_lit, Nat.add_assoc]
      exact (HB2.out.cell (p := ⟨b, off + (q * 2 + j), none⟩) hb).trans h1
    case p2 => exact rowVals_one _
    case p3 => unfold maxLen; omega
    case p4 => omega
    case p5 => omega
    intro v3 w3 hown3 hgrow3 hnil3
    clear hnil3
    have hB3 : Below w.heap.size w w3 := Below.grown HB2.out hgrow3 (by omega) (fun bb h => by have := row_block HO2.out bb h; omega)
    have hH0 := has_grown hgrow3 HH2.out (row_ne HO2.out (by omega))
    have hH1 := has_grown hgrow3 HH3.out (row_ne HO2.out (by omega))
    obtain ⟨al3, ca3, rfl, hca3, _⟩ := row_reads hown3
    have g1 := has_cell hH0 (o := 1) rfl
    have hl3 := hH0.lt
    have hl4 := hH1.lt
    have HRR := Lib.hid (HFIN.out al3 ca3 w3 (by rw [List.append_assoc]; exact hown3) hca3)
    have HFO := Lib.hid (fun b off (e : al3 = some ⟨b, off, none⟩) => row_block hown3 b (by rw [e]; rfl))
    have HB3 := Lib.hid hB3; have HOV := Lib.hid (ov_self hH1)
    clear hown3 hgrow3 hB3 hH0 g0
    rw [← HOV.out]
    clear hH1
    go_wp2_with fail
    refine bodyPost_row (cs := ?_) (T := ?_) (n := 2) Try.results61 (b := w.heap.size + 1) (by rfl) ?_ Try.underlying28 rfl (by kernel_rfl) ?_ rfl ?_; rotate_left 2; (focus ((repeat' (first | (with_reducible refine has_drew ?_) | (with_reducible refine has_drewN ?_) | (with_reducible refine has_new ?_; (first | (with_reducible rfl) | omega | (simp; done) | (simp; omega))) | (with_reducible refine has_ov_same ?_; (first | (with_reducible rfl) | omega | (simp; done) | (simp; omega))) | (with_reducible refine has_alloc ?_) | (with_reducible refine has_ov_other ?_ ?_; (focus (first | (with_reducible rfl) | omega | (simp; done) | (simp; omega)))) | (with_reducible assumption))); done)); (focus (rfl))
    have hlen : q + sl + (l - q) = l + sl := by omega
    refine ⟨al3, ca3, by rw [← hlen], by omega, fun h0 => ?_, by have q := HB3.out; (repeat' (first | (with_reducible exact Below.refl _ _) | (with_reducible assumption) | (with_reducible refine below_from_drew ?_) | (with_reducible refine Below.alloc ?_ ?_ _) | (with_reducible refine Below.drew ?_) | (with_reducible refine below_drewN ?_ _) | (with_reducible refine Below.setCell ?_ ?_ _) | (with_reducible refine below_via ?_ (by assumption) ?_) | (with_reducible refine below_ov ?_ ?_ _ _) | go_size))⟩
    obtain ⟨g, go, e, hg, hcc2⟩ := HRR.out h0
    have hfo := HFO.out g go e
    refine ⟨g, go, e, by simp; exact hg, fun i hi => ?_⟩
    obtain ⟨q1, q2⟩ := hcc2 i hi
    exact ⟨(ov_cell_other (fun e => by cases e; omega)).trans q1, (ov_cell_other (fun e => by cases e; omega)).trans q2⟩
  · have hlq : l = q := by omega
    have hcq : c = q := by omega
    subst hcq
    subst hlq
    have hnil : rowVals (R.drop l) = [] := by rw [List.drop_eq_nil_of_le (by rw [HL.out]; exact Nat.le_refl _)]; rfl
    have HNIL := Lib.hid hnil; clear hnil
    go_wp2_with (at_builtin; refine wpList_append_own _ rfl _ _ 26 rfl (w.heap.size + 2) 133 i0 (.agg #[.int .i64 0, .int .i64 0]) 2 16 Try.underlying26 hi hz0 hz1 hz2 rfl (by decide) _ _ _ rfl HO2.out ⟨b, off, none⟩ 0 0 ([] : List Value) rfl ?p0 ?p1 ?p2 ?p3 ?p4 ?p5 ?_)
    case p0 => rfl
    case p1 => intro j u hj; simp at hj
    case p2 => intro u hu; cases hu
    case p3 => unfold maxLen; omega
    case p4 => omega
    case p5 => omega
    intro v3 w3 hown3 hgrow3 hnil3
    clear hnil3
    have hB3 : Below w.heap.size w w3 := Below.grown HB2.out hgrow3 (by omega) (fun bb h => by have := row_block HO2.out bb h; omega)
    have hH0 := has_grown hgrow3 HH2.out (row_ne HO2.out (by omega))
    have hH1 := has_grown hgrow3 HH3.out (row_ne HO2.out (by omega))
    obtain ⟨al3, ca3, rfl, hca3, _⟩ := row_reads hown3
    have g1 := has_cell hH0 (o := 1) rfl
    have hl3 := hH0.lt
    have hl4 := hH1.lt
    have HRR := Lib.hid (HFIN.out al3 ca3 w3 (by rw [Nat.sub_self, HNIL.out, Nat.add_zero]; simpa using hown3) (by omega))
    have HFO := Lib.hid (fun b off (e : al3 = some ⟨b, off, none⟩) => row_block hown3 b (by rw [e]; rfl))
    have HB3 := Lib.hid hB3; have HOV := Lib.hid (ov_self hH1)
    clear hown3 hgrow3 hB3 hH0 g0
    rw [← HOV.out]
    clear hH1
    go_wp2_with fail
    refine bodyPost_row (cs := ?_) (T := ?_) (n := 2) Try.results61 (b := w.heap.size + 1) (by rfl) ?_ Try.underlying28 rfl (by kernel_rfl) ?_ rfl ?_; rotate_left 2; (focus ((repeat' (first | (with_reducible refine has_drew ?_) | (with_reducible refine has_drewN ?_) | (with_reducible refine has_new ?_; (first | (with_reducible rfl) | omega | (simp; done) | (simp; omega))) | (with_reducible refine has_ov_same ?_; (first | (with_reducible rfl) | omega | (simp; done) | (simp; omega))) | (with_reducible refine has_alloc ?_) | (with_reducible refine has_ov_other ?_ ?_; (focus (first | (with_reducible rfl) | omega | (simp; done) | (simp; omega)))) | (with_reducible assumption))); done)); (focus (rfl))
    have hlen : l + sl + 0 = l + sl := by omega
    refine ⟨al3, ca3, by rw [← hlen], by omega, fun h0 => ?_, by have q := HB3.out; (repeat' (first | (with_reducible exact Below.refl _ _) | (with_reducible assumption) | (with_reducible refine below_from_drew ?_) | (with_reducible refine Below.alloc ?_ ?_ _) | (with_reducible refine Below.drew ?_) | (with_reducible refine below_drewN ?_ _) | (with_reducible refine Below.setCell ?_ ?_ _) | (with_reducible refine below_via ?_ (by assumption) ?_) | (with_reducible refine below_ov ?_ ?_ _ _) | go_size))⟩
    obtain ⟨g, go, e, hg, hcc2⟩ := HRR.out h0
    have hfo := HFO.out g go e
    refine ⟨g, go, e, by simp; exact hg, fun i hi => ?_⟩
    obtain ⟨q1, q2⟩ := hcc2 i hi
    exact ⟨(ov_cell_other (fun e => by cases e; omega)).trans q1, (ov_cell_other (fun e => by cases e; omega)).trans q2⟩
end Go.Proofs.Ytcpehmlkhmfmhaa
