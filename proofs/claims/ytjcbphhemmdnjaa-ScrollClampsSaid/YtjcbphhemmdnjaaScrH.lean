/- law23 (scroll): scroll.Clamp by contract. -/
import Derived.Test.YtjcbphhemmdnjaaScrG
import Derived.Maps.RangeRun
namespace Go.Proofs.Ytjcbphhemmdnjaa
open Go Go.RowKit
set_option linter.unusedSimpArgs false
set_option linter.unusedVariables false
-- below_from_drew
attribute [local go_sem] ov_cell_same ov_cell_other ov_frozen_same ov_frozen_other ov_size ov_setCell_same ov_setCell_other cell_alloc_old frozen_alloc_old setCell_alloc_old old_alloc old_ov old_drew old_drewN old_setCell
attribute [local go_sem ↓] run_max2 run_min2
attribute [local go_sem] put_two23 mapOk_alloc mapOf_alloc mapOk_drew mapOf_drew mapOk_drewN mapOf_drewN mapOk_ov mapOf_ov
def two23 (p : Int × Int) : Value := .agg #[.int .i64 p.1, .int .i64 p.2]
theorem zero_two23 (w : World) : (zeroValue 39).run Try.prog w = .ok (two23 (0, 0)) w := by kernel_rfl
theorem look_two23 {w : World} {b : Nat} {k : Int} (h : MapOk w b) : (Instr.lookup 35 (.map (some b)) (.int .i64 k) false).run Try.prog w = .ok (mgetD (mapOf w b) k (two23 (0, 0))) w := run_lookM Try.underlying35 Try.underlying3 zero_two23 k h
theorem look_two23_ok {w : World} {b : Nat} {k : Int} (h : MapOk w b) : (Instr.lookup 35 (.map (some b)) (.int .i64 k) true).run Try.prog w = .ok (.tuple #[mgetD (mapOf w b) k (two23 (0, 0)), .bool (mhas (mapOf w b) k)]) w := run_lookMok Try.underlying35 Try.underlying3 zero_two23 k h
theorem len_two23 {w : World} {b : Nat} (ty : TypeId) (h : MapOk w b) : (Builtin.len_ #[35] ty #[.map (some b)]).run Try.prog w = .ok (.int .i64 ((mapOf w b).length : Nat)) w := run_lenM Try.underlying35 ty h
attribute [local go_sem] look_two23 look_two23_ok len_two23
theorem inj_map23 {α β : Type} {f : α → β} {l : List α} (h : (l.map f).Nodup) {x y : α} (hx : x ∈ l) (hy : y ∈ l) (e : f x = f y) : x = y := by
  rw [List.nodup_iff_pairwise_ne, List.pairwise_map, List.pairwise_iff_getElem] at h
  obtain ⟨i, hi, rfl⟩ := List.getElem_of_mem hx
  obtain ⟨j, hj, rfl⟩ := List.getElem_of_mem hy
  rcases Nat.lt_trichotomy i j with c | c | c
  · exact absurd e (h i j hi hj c)
  · subst c; rfl
  · exact absurd e.symm (h j i hj hi c)
def seenOf23 (w : World) (r : Nat) : Array Nat := match w.heap[r]? with
  | some (.mapIter _ _ s _) => s
  | _ => #[]
def clampP (q m : Int × Int) : Int × Int := (min (max q.1 0) m.1, min (max q.2 0) m.2)
/-- Where the loop that clamps stands: those entries whose stamps were seen are in the new map. -/
structure ClampI (w : World) (q : Int → Int × Int) (m : Int → Option (Int × Int)) (bo : Nat) (es : Array MapEntry) (clock r b0 : Nat) (wr : World) (seen : Array Nat) : Prop where
  it : ∃ c0, wr.heap[r]? = some (.mapIter (some bo) clock seen c0) ∧ clock ≤ c0
  bel : Below w.heap.size w wr
  ok : MapOk wr b0
  got : ∀ x ∈ es.toList, x.born ∈ seen → mlook (mapOf wr b0) (keyZ x.key) = (m (keyZ x.key)).map fun y => two23 (clampP (q (keyZ x.key)) y)
  only : ∀ k, (∀ x ∈ es.toList, x.born ∈ seen → keyZ x.key ≠ k) → mlook (mapOf wr b0) k = none
set_option maxRecDepth 100000 in
set_option maxHeartbeats 4000000 in
theorem clamp_any (w : World) (bq bo : Nat) (q : Int → Int × Int) (m : Int → Option (Int × Int)) (hq : MapOk w bq) (ho : MapOk w bo) (lq : ∀ x, mgetD (mapOf w bq) x (two23 (0, 0)) = two23 (q x)) (lo : ∀ x, mlook (mapOf w bo) x = (m x).map two23) :
    Calls Try.prog 15 #[.map (some bq), .map (some bo)] w fun e w' => ∃ bc, e = .returned (.map (some bc)) ∧ w.heap.size ≤ bc ∧ MapOk w' bc ∧ (∀ x, mlook (mapOf w' bc) x = (m x).map fun y => two23 (clampP (q x) y)) ∧ Below w.heap.size w w' := by
  obtain ⟨es, clock, hes, hst, hkey⟩ := ho
  have hO : MapOk w bo := ⟨es, clock, hes, hst, hkey⟩
  have hml : mapOf w bo = pairsOf es.toList := by unfold mapOf; rw [hes]
  have hbl : bo < w.heap.size := hO.lt
  have hbq : bq < w.heap.size := hq.lt
  have HES := Lib.hid hes; have HST := Lib.hid hst; have HKEY := Lib.hid hkey; have HML := Lib.hid hml; have HQ := Lib.hid hq; have HLQ := Lib.hid lq; have HLO := Lib.hid lo; have HO := Lib.hid hO
  have hmm := @run_makeMap Try.prog
  have hrg := run_range_map (P := Try.prog) (w.alloc (.map #[] 0)) 35 3 39 bo es clock Try.underlying35 (by rw [Below.heap_alloc w _ bo hbl]; exact hes)
  clear hes hst hkey hml hq lq lo hO
  go_enter Try.func15, Try.ntmps15
  go_wp2_with fail
  go_loopw [6] (fun _ wr => ∃ seen, ClampI w q m bo es clock (w.heap.size + 1) w.heap.size wr seen) (fun _ wr => (leftOf es (seenOf23 wr (w.heap.size + 1))).size)
  case atStart =>
    refine ⟨#[], ⟨⟨clock, by
      show ((w.heap.push _).push _)[w.heap.size + 1]? = _
      rw [Array.getElem?_push, if_pos (by simp)], Nat.le_refl _⟩, by (repeat' (first | (with_reducible exact Below.refl _ _) | (with_reducible assumption) | (with_reducible refine below_from_drew ?_) | (with_reducible refine Below.alloc ?_ ?_ _) | (with_reducible refine Below.drew ?_) | (with_reducible refine below_drewN ?_ _) | (with_reducible refine Below.setCell ?_ ?_ _) | (with_reducible refine below_via ?_ (by assumption) ?_) | (with_reducible refine below_ov ?_ ?_ _ _) | go_size)), mapOk_alloc (mapOk_new rfl), fun x _ hx => by simp at hx, fun k _ => ?_⟩⟩
    rw [mapOf_alloc (by show w.heap.size < _; simp), mapOf_new rfl]; rfl
  case round =>
    obtain ⟨seen, hC⟩ := hrel
    obtain ⟨c0, hit, hcc⟩ := hC.it
    have hb := (hC.bel.block bo hbl).trans HES.out
    have hns : seenOf23 wr (w.heap.size + 1) = seen := by unfold seenOf23; rw [hit]
    have HC := Lib.hid hC
    rcases run_next_at (P := Try.prog) wr 0 (w.heap.size + 1) bo clock c0 seen es clock hit hb HST.out.1 hcc with ⟨hz, hrun⟩ | ⟨e, he, w1, hw1, hrun⟩
    · have hall := all_seen es seen hz
      have HALL := Lib.hid hall
      clear hC hit hcc hb hns hz hall
      go_wp2_with fail
      go_ret
      refine ⟨w.heap.size, rfl, Nat.le_refl _, HC.out.ok, fun x => ?_, HC.out.bel⟩
      rcases hx : mlook (mapOf w bo) x with _ | v
      · have hmx := HLO.out x
        rw [hx] at hmx
        have hm0 : m x = none := by cases h : m x with
          | none => rfl
          | some y => rw [h] at hmx; cases hmx
        rw [hm0, HC.out.only x (fun z hz _ e => ?_)]
        · rfl
        · have hnd : (mkeys (pairsOf es.toList)).Nodup := by rw [← HML.out]; exact mapOk_nodup HO.out
          have : mlook (mapOf w bo) (keyZ z.key) = some z.val := by
            rw [HML.out]; exact mlook_of_mem hnd (List.mem_map_of_mem (f := fun e => (keyZ e.key, e.val)) hz)
          rw [e, hx] at this; cases this
      · have hv2 := mlook_mem hx
        rw [HML.out] at hv2
        obtain ⟨z, hz, hze⟩ := List.mem_map.1 hv2
        cases hze
        exact HC.out.got z hz (by simpa using HALL.out z hz)
    · obtain ⟨hees, hens⟩ := mem_left he
      obtain ⟨W2, hW2⟩ : ∃ W2, W2 = Go.ChangeMaps.setBlock w1 (w.heap.size + 1) (.mapIter (some bo) clock (seen.push e.born) clock) := ⟨_, rfl⟩
      rw [← hW2] at hrun
      have hsz : wr.heap.size = W2.heap.size := by rw [hW2]; show _ = (w1.heap.setIfInBounds _ _).size; rw [Array.size_setIfInBounds]; rcases hw1 with q | q <;> subst q <;> rfl
      have hoth : ∀ k, k ≠ w.heap.size + 1 → W2.heap[k]? = wr.heap[k]? := fun k hk => by
        rw [hW2]; show (w1.heap.setIfInBounds _ _)[k]? = _
        rw [Array.getElem?_setIfInBounds_ne (Ne.symm hk)]
        rcases hw1 with q | q <;> subst q <;> rfl
      have hrl : w.heap.size + 1 < wr.heap.size := (Array.getElem?_eq_some_iff.1 hit).1
      have hr2 : W2.heap[w.heap.size + 1]? = some (.mapIter (some bo) clock (seen.push e.born) clock) := by
        rw [hW2]; show (w1.heap.setIfInBounds _ _)[_]? = _
        have : w.heap.size + 1 < w1.heap.size := by rcases hw1 with q | q <;> subst q <;> exact hrl
        simp [this]
      have hB2 : Below w.heap.size w W2 := by
        refine ⟨?_, ?_, ?_, by rw [← hsz]; exact hC.bel.size, fun k hk => (hoth k (by omega)).trans (hC.bel.block k hk)⟩
        · rw [← hC.bel.os, hW2]; rcases hw1 with q | q <;> subst q <;> rfl
        · rw [← hC.bel.tape, hW2]; rcases hw1 with q | q <;> subst q <;> rfl
        · rw [← hC.bel.output, hW2]; rcases hw1 with q | q <;> subst q <;> rfl
      have hb2 : W2.heap[bo]? = some (.map es clock) := (hB2.block bo hbl).trans HES.out
      have hent := run_entry_at (P := Try.prog) W2 (w.heap.size + 1) bo clock seen es clock e hr2 hb2 hees HST.out.2.1
      have hke := isKey_int (HKEY.out e hees)
      have hnd : (mkeys (pairsOf es.toList)).Nodup := by rw [← HML.out]; exact mapOk_nodup HO.out
      have hle : mlook (mapOf w bo) (keyZ e.key) = some e.val := by
        rw [HML.out]; exact mlook_of_mem hnd (List.mem_map_of_mem (f := fun e => (keyZ e.key, e.val)) hees)
      have hmy : ∃ y, m (keyZ e.key) = some y ∧ e.val = two23 y := by
        have h := HLO.out (keyZ e.key)
        rw [hle] at h
        cases hm : m (keyZ e.key) with
        | none => rw [hm] at h; cases h
        | some y => rw [hm] at h; exact ⟨y, rfl, Option.some.inj h⟩
      obtain ⟨y, hmk, hve⟩ := hmy
      have hk2 : MapOk W2 w.heap.size := mapOk_eq (hoth _ (by omega)) hC.ok
      have hm2 : mapOf W2 w.heap.size = mapOf wr w.heap.size := mapOf_eq (hoth _ (by omega))
      have HB2 := Lib.hid hB2; have HVE := Lib.hid hve; have HOTH := Lib.hid hoth; have HR2 := Lib.hid hr2; have HM2 := Lib.hid hm2; have HK2 := Lib.hid hk2; have HKE := Lib.hid hke; have HEES := Lib.hid hees; have HENS := Lib.hid hens; have HSH := Lib.hid (left_shrinks es seen e he); have HNS := Lib.hid hns; have HIT := Lib.hid hit; have HSZ := Lib.hid hsz; have HMK := Lib.hid hmk
      rw [hke, hve] at hrun hent
      generalize keyZ e.key = ky at *
      obtain ⟨y0, y1⟩ := y
      have hqk := HLQ.out ky
      obtain ⟨qq, hqq⟩ : ∃ z, q ky = z := ⟨_, rfl⟩
      have HQK := Lib.hid hqq
      rw [hqq] at hqk
      obtain ⟨q0, q1⟩ := qq
      have hokq : MapOk W2 bq := mapOk_eq (hB2.block _ hbq) HQ.out
      have hlq : mgetD (mapOf W2 bq) ky (two23 (0, 0)) = two23 (q0, q1) := by rw [mapOf_eq (hB2.block _ hbq)]; exact hqk
      have oq : Old W2 bq := hokq.lt
      clear hC hit hcc hb hns hW2 hw1 hoth hr2 hB2 hb2 hke hnd hle hve hm2 hk2 hees hens he hsz hrl hmk hqq hqk
      unfold two23 at hrun hent
      go_upto_region 5 with fail
      refine name_w (f := Code.wp _ _ _ _) (fun X hX => ?_)
      have hXb : Below W2.heap.size W2 X := by rw [hX]; (repeat' (first | (with_reducible exact Below.refl _ _) | (with_reducible assumption) | (with_reducible refine below_from_drew ?_) | (with_reducible refine Below.alloc ?_ ?_ _) | (with_reducible refine Below.drew ?_) | (with_reducible refine below_drewN ?_ _) | (with_reducible refine Below.setCell ?_ ?_ _) | (with_reducible refine below_via ?_ (by assumption) ?_) | (with_reducible refine below_ov ?_ ?_ _ _) | go_size))
      have hX7 : Has X W2.heap.size #[.int .i64 y0, .int .i64 y1] 39 := by rw [hX]; (repeat' (first | (with_reducible refine has_drew ?_) | (with_reducible refine has_drewN ?_) | (with_reducible refine has_new ?_; (first | (with_reducible rfl) | omega | (simp; done) | (simp; omega))) | (with_reducible refine has_ov_same ?_; (first | (with_reducible rfl) | omega | (simp; done) | (simp; omega))) | (with_reducible refine has_alloc ?_) | (with_reducible refine has_ov_other ?_ ?_; (focus (first | (with_reducible rfl) | omega | (simp; done) | (simp; omega)))) | (with_reducible assumption) | (with_reducible exact has_below hB (by assumption))))
      have hokX : MapOk X bq := mapOk_eq (hXb.block _ hokq.lt) hokq
      have hlX : mgetD (mapOf X bq) ky (two23 (0, 0)) = .agg #[.int .i64 q0, .int .i64 q1] := by rw [mapOf_eq (hXb.block _ hokq.lt)]; exact hlq
      have oX : Old X bq := hokX.lt
      clear hX hrun hent hlq hokq oq
      go_upto_region 6 with fail
      refine name_w (f := Code.wp _ _ _ _) (fun Y hY => ?_)
      have hYX : Below X.heap.size X Y := by rw [hY]; (repeat' (first | (with_reducible exact Below.refl _ _) | (with_reducible assumption) | (with_reducible refine below_from_drew ?_) | (with_reducible refine Below.alloc ?_ ?_ _) | (with_reducible refine Below.drew ?_) | (with_reducible refine below_drewN ?_ _) | (with_reducible refine Below.setCell ?_ ?_ _) | (with_reducible refine below_via ?_ (by assumption) ?_) | (with_reducible refine below_ov ?_ ?_ _ _) | go_size))
      have hYb : Below W2.heap.size W2 Y := hXb.trans (hYX.mono hXb.size)
      have hY7 := has_below hYX hX7
      have hY8 : Has Y X.heap.size #[.int .i64 q0, .int .i64 q1] 39 := by rw [hY]; (repeat' (first | (with_reducible refine has_drew ?_) | (with_reducible refine has_drewN ?_) | (with_reducible refine has_new ?_; (first | (with_reducible rfl) | omega | (simp; done) | (simp; omega))) | (with_reducible refine has_ov_same ?_; (first | (with_reducible rfl) | omega | (simp; done) | (simp; omega))) | (with_reducible refine has_alloc ?_) | (with_reducible refine has_ov_other ?_ ?_; (focus (first | (with_reducible rfl) | omega | (simp; done) | (simp; omega)))) | (with_reducible assumption) | (with_reducible exact has_below hB (by assumption))))
      have hok5 : MapOk Y w.heap.size := mapOk_eq (hYb.block _ HK2.out.lt) HK2.out
      have ol5 : Old Y w.heap.size := hok5.lt
      have c7 := hY7.cells; have l7 := hY7.lt; have o7 : Old Y W2.heap.size := l7
      have c8 := hY8.cells; have l8 := hY8.lt; have o8 : Old Y X.heap.size := l8
      have HYB := Lib.hid hYb
      clear hY hX7 hY7 hY8 hokX hlX oX hYX hYb hXb
      go_wp2_with fail
      obtain ⟨Z, hZ⟩ : ∃ Z, Z = putM Y w.heap.size ky (.agg #[.int .i64 (min (max q0 0) y0), .int .i64 (min (max q1 0) y1)]) := ⟨_, rfl⟩
      have hZo : ∀ k, k < W2.heap.size → k ≠ w.heap.size → Z.heap[k]? = W2.heap[k]? := fun k hk hn => by
        rw [hZ, putM_other hn]; exact HYB.out.block k hk
      have hZB : Below w.heap.size w Z := by
        rw [hZ]; exact below_put (HB2.out.trans (HYB.out.mono HB2.out.size)) (Nat.le_refl _)
      have hZK : MapOk Z w.heap.size := by rw [hZ]; exact mapOk_put_same hok5
      have hZm : mapOf Z w.heap.size = mput (mapOf wr w.heap.size) ky (.agg #[.int .i64 (min (max q0 0) y0), .int .i64 (min (max q1 0) y1)]) := by rw [hZ, mapOf_put_same hok5, mapOf_eq (HYB.out.block _ HK2.out.lt), HM2.out]
      have hrr : w.heap.size + 1 < W2.heap.size := (Array.getElem?_eq_some_iff.1 HR2.out).1
      have hZr : Z.heap[w.heap.size + 1]? = some (.mapIter (some bo) clock (seen.push e.born) clock) := (hZo _ hrr (by omega)).trans HR2.out
      rw [← hZ]
      refine ⟨⟨seen.push e.born, ⟨clock, hZr, Nat.le_refl _⟩, hZB, hZK, fun x hx hxs => ?_, fun k hk => ?_⟩, ?_⟩
      · by_cases hbe : x.born = e.born
        · obtain rfl : x = e := inj_map23 HST.out.2.1 hx HEES.out hbe
          have hky : keyZ x.key = ky := by rw [HKE.out]; rfl
          rw [hky, hZm, mlook_put, if_pos rfl, HMK.out, HQK.out]
          rfl
        · have hsn : x.born ∈ seen := by
            rcases Array.mem_push.1 hxs with q | q
            · exact q
            · exact absurd q hbe
          have hne : keyZ x.key ≠ ky := fun q => by
            have hke : keyZ x.key = keyZ e.key := by rw [q, HKE.out]; rfl
            have := keyZ_inj (HKEY.out x hx) (HKEY.out e HEES.out) hke
            exact hbe (by rw [inj_map23 HST.out.2.2 hx HEES.out this])
          rw [hZm, mlook_put, if_neg hne]
          exact HC.out.got x hx hsn
      · have hne : ¬ k = ky := fun q => hk e HEES.out (Array.mem_push_self) (by rw [HKE.out, q]; rfl)
        rw [hZm, mlook_put, if_neg hne]
        exact HC.out.only k (fun x hx hs => hk x hx (Array.mem_push.2 (.inl hs)))
      · have h1 : seenOf23 Z (w.heap.size + 1) = seen.push e.born := by unfold seenOf23; rw [hZr]
        rw [h1, HNS.out]; exact HSH.out
end Go.Proofs.Ytjcbphhemmdnjaa
