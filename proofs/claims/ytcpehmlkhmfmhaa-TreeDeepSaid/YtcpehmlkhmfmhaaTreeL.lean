/- package tree: New, Copy. -/
import Derived.Test.YtcpehmlkhmfmhaaTreeK
import Derived.Maps.RangeRun
namespace Go.Proofs.Ytcpehmlkhmfmhaa
open Go.RowKit
set_option linter.unusedSimpArgs false
set_option linter.unusedVariables false
-- below_from_drew
attribute [local go_sem] ov_cell_same ov_cell_other ov_frozen_same ov_frozen_other ov_size ov_setCell_same ov_setCell_other cell_alloc_old frozen_alloc_old setCell_alloc_old old_alloc old_ov old_drew old_drewN old_setCell
attribute [local go_sem ↓] run_max2 run_min2
attribute [local go_sem] node_f0 node_f1 look_node look_node_ok put_node del_node len_node mapOk_alloc mapOf_alloc mapOk_drew mapOf_drew mapOk_drewN mapOf_drewN mapOk_ov mapOf_ov mapOk_put_same mapOf_put_same cell_putM frozen_putM old_putM

theorem below_put {B b : Nat} {w v : World} {k : Int} {x : Value} (h : Below B w v) (hb : B ≤ b) : Below B w (putM v b k x) :=
  ((ButS.of (S := fun _ => False) h).put (.inl hb)).below (fun _ _ q => q)
set_option maxRecDepth 100000 in
theorem tnew_any (w : World) : Calls Try.prog 13 #[] w fun e w' => ∃ p bm, e = .returned (.pointer (some ⟨p, 0, none⟩)) ∧ TreeAt w' p bm w.heap.size [(0, 0)] 1 ∧ w.heap.size ≤ p ∧ w.heap.size ≤ bm ∧ Below w.heap.size w w' := by
  have hmk := mapOk_new (w := w) rfl
  have hmm := @run_makeMap Try.prog
  go_enter Try.func13, Try.ntmps13
  go_wp2_with fail
  go_ret
  have hm2 : mapOf (putM (w.alloc (.map #[] 0)) w.heap.size 0 (.agg #[.int .i64 (-1), .slice none 0 0])) w.heap.size = [(0, .agg #[.int .i64 (-1), .slice none 0 0])] := by
    rw [mapOf_put_same hmk, mapOf_new rfl]; rfl
  have hk2 := mapOk_put_same (k := 0) (v := .agg #[.int .i64 (-1), .slice none 0 0]) hmk
  refine ⟨w.heap.size + 1, w.heap.size, rfl, ⟨has_new (by simp), mapOk_alloc hk2, by omega, by rw [World.size_alloc, putM_size]; simp; omega, by rw [World.size_alloc, putM_size]; simp; omega, ⟨⟨[], rfl, by simp⟩, trivial, by simp [nums], by simp, by simp⟩, ?_⟩, by omega, Nat.le_refl _, (below_put (by (repeat' (first | (with_reducible exact Below.refl _ _) | (with_reducible assumption) | (with_reducible refine below_from_drew ?_) | (with_reducible refine Below.alloc ?_ ?_ _) | (with_reducible refine Below.drew ?_) | (with_reducible refine below_drewN ?_ _) | (with_reducible refine Below.setCell ?_ ?_ _) | (with_reducible refine below_via ?_ (by assumption) ?_) | (with_reducible refine below_ov ?_ ?_ _ _) | go_size))) (Nat.le_refl _)).alloc (by simp) _⟩
  rw [mapOf_alloc (by show w.heap.size < _; simp), hm2]
  refine ⟨fun A n d C e => ?_, fun A n d C e => by simp at e, fun k hk _ => ?_, rfl⟩
  · cases A with
    | nil =>
      injection e with e1 e2
      cases e1; subst e2
      exact ⟨.agg #[.int .i64 (-1), .slice none 0 0], by simp [mlook], none, 0, rfl, Nat.le_refl _, intsAt_nil _ _, fun h => by simp [kidsR, subR, lvl] at h⟩
    | cons x A => simp at e
  · have h0 : ¬ (0 : Int) = k := fun q => hk (by simp [nums, ← q])
    simp [mlook, h0]
theorem intsAt_inj {w : World} {a : Option Addr} {xs ys : List Int} (h : IntsAt w a xs) (k : IntsAt w a ys) (hl : xs.length = ys.length) : xs = ys := by
  apply List.ext_getElem hl
  intro i h1 h2
  obtain ⟨b, off, e, _, hc⟩ := h (by omega)
  obtain ⟨b', off', e', _, hc'⟩ := k (by omega)
  rw [e] at e'
  cases e'
  have q := (hc i h1).symm.trans (hc' i h2)
  have q := Option.some.inj q
  have q : xs.getD i 0 = ys.getD i 0 := by injection q
  simpa [List.getD_eq_getElem?_getD, h1, h2] using q
theorem inj_map {α β : Type} {f : α → β} {l : List α} (h : (l.map f).Nodup) {x y : α} (hx : x ∈ l) (hy : y ∈ l) (e : f x = f y) : x = y := by
  rw [List.nodup_iff_pairwise_ne, List.pairwise_map, List.pairwise_iff_getElem] at h
  obtain ⟨i, hi, rfl⟩ := List.getElem_of_mem hx
  obtain ⟨j, hj, rfl⟩ := List.getElem_of_mem hy
  rcases Nat.lt_trichotomy i j with c | c | c
  · exact absurd e (h i j hi hj c)
  · subst c; rfl
  · exact absurd e.symm (h j i hj hi c)
theorem nodup_len_le : ∀ (l m : List Int), l.Nodup → (∀ x ∈ l, x ∈ m) → l.length ≤ m.length
  | [], m, _, _ => Nat.zero_le _
  | x :: l, m, hn, h => by
    have h2 := List.nodup_cons.1 hn
    have hx := h x (.head _)
    have ih := nodup_len_le l (m.erase x) h2.2 (fun y hy => (List.mem_erase_of_ne (fun e => h2.1 (by rw [← e]; exact hy))).2 (h y (.tail _ hy)))
    rw [List.length_erase_of_mem hx] at ih
    have := List.length_pos_of_mem hx
    simp; omega
/-- An entry and its copy. -/
def SameNode (w : World) (F F' : Nat → Prop) (v v' : Value) : Prop := ∃ par ks, NodeOk w F v par ks ∧ NodeOk w F' v' par ks
/-- Where the loop that copies stands: those entries whose stamps were seen are in the new map. -/
structure CopyI (w : World) (p bm base : Nat) (es : Array MapEntry) (clock r b0 : Nat) (wr : World) (seen : Array Nat) : Prop where
  it : ∃ c0, wr.heap[r]? = some (.mapIter (some bm) clock seen c0) ∧ clock ≤ c0
  bel : Below w.heap.size w wr
  ok : MapOk wr b0
  got : ∀ x ∈ es.toList, x.born ∈ seen → ∃ v', mlook (mapOf wr b0) (keyZ x.key) = some v' ∧ ∃ a a' k c c' par xs, x.val = .agg #[.int .i64 par, .slice a k c] ∧ v' = .agg #[.int .i64 par, .slice a' k c'] ∧ xs.length = k ∧ k ≤ c' ∧ IntsAt w a xs ∧ IntsAt wr a' xs ∧ ∀ b off, a' = some ⟨b, off, none⟩ → w.heap.size ≤ b ∧ b < wr.heap.size ∧ b ≠ r ∧ b ≠ b0
  only : ∀ k, (∀ x ∈ es.toList, x.born ∈ seen → keyZ x.key ≠ k) → mlook (mapOf wr b0) k = none
def seenOf (w : World) (r : Nat) : Array Nat := match w.heap[r]? with
  | some (.mapIter _ _ s _) => s
  | _ => #[]
set_option maxRecDepth 100000 in
theorem copy_nil (w : World) : Calls Try.prog 15 #[.pointer none] w fun e w' => e = .returned (.pointer none) ∧ w = w' := by
  go_enter Try.func15, Try.ntmps15
  go_wp2_with fail
  go_ret
  exact ⟨rfl, rfl⟩
set_option maxRecDepth 100000 in
set_option maxHeartbeats 4000000 in
theorem copy_any (p bm base : Nat) (R : Rows) (next : Int) (w : World) (h : TreeAt w p bm base R next) (hm : R.length ≤ 100000) :
    Calls Try.prog 15 #[.pointer (some ⟨p, 0, none⟩)] w fun e w' => ∃ p' bm', e = .returned (.pointer (some ⟨p', 0, none⟩)) ∧ TreeAt w' p' bm' w.heap.size R next ∧ w.heap.size ≤ p' ∧ w.heap.size ≤ bm' ∧ Below w.heap.size w w' := by
  obtain ⟨es, clock, hes, hst, hkey⟩ := h.ok
  have hml : mapOf w bm = pairsOf es.toList := by unfold mapOf; rw [hes]
  have g0 := has_cell h.str (o := 0) rfl
  have g1 := has_cell h.str (o := 1) rfl
  have hl := h.str.lt
  have hpl : Old w p := h.str.lt
  have hbl : bm < w.heap.size := h.ok.lt
  have HT := Lib.hid h; have HES := Lib.hid hes; have HST := Lib.hid hst; have HKEY := Lib.hid hkey; have HML := Lib.hid hml
  have hmm := @run_makeMap Try.prog
  have hrg := run_range_map (P := Try.prog) (w.alloc (.map #[] 0)) 129 3 128 bm es clock Try.underlying129 (by rw [Below.heap_alloc w _ bm hbl]; exact hes)
  clear h hes hst hkey hml
  go_enter Try.func15, Try.ntmps15
  go_wp2_with fail
  go_loopw [4] (fun _ wr => ∃ seen, CopyI w p bm base es clock (w.heap.size + 1) w.heap.size wr seen) (fun _ wr => (leftOf es (seenOf wr (w.heap.size + 1))).size)
  case atStart =>
    refine ⟨#[], ⟨⟨clock, by
      show ((w.heap.push _).push _)[w.heap.size + 1]? = _
      rw [Array.getElem?_push, if_pos (by simp)], Nat.le_refl _⟩, by (repeat' (first | (with_reducible exact Below.refl _ _) | (with_reducible assumption) | (with_reducible refine below_from_drew ?_) | (with_reducible refine Below.alloc ?_ ?_ _) | (with_reducible refine Below.drew ?_) | (with_reducible refine below_drewN ?_ _) | (with_reducible refine Below.setCell ?_ ?_ _) | (with_reducible refine below_via ?_ (by assumption) ?_) | (with_reducible refine below_ov ?_ ?_ _ _) | go_size)), mapOk_alloc (mapOk_new rfl), fun x _ hx => by simp at hx, fun k _ => ?_⟩⟩
    rw [mapOf_alloc (by show w.heap.size < _; simp), mapOf_new rfl]; rfl
  case round =>
    obtain ⟨seen, hC⟩ := hrel
    obtain ⟨c0, hit, hcc⟩ := hC.it
    have hb := (hC.bel.block bm hbl).trans HES.out
    have hns : seenOf wr (w.heap.size + 1) = seen := by unfold seenOf; rw [hit]
    have HC := Lib.hid hC
    rcases run_next_at (P := Try.prog) wr 0 (w.heap.size + 1) bm clock c0 seen es clock hit hb HST.out.1 hcc with ⟨hz, hrun⟩ | ⟨e, he, w1, hw1, hrun⟩
    · have hall := all_seen es seen hz
      have c0w := (hC.bel.cell (p := ⟨p, 1, none⟩) hl).trans g1
      have hpw : p < wr.heap.size := Nat.lt_of_lt_of_le hl hC.bel.size
      have HALL := Lib.hid hall
      clear hC hit hcc hb hns hz hall
      go_wp2_with fail
      go_ret
      have hndR : (nums R).Nodup := HT.out.wf.nodup
      have hndL : (mkeys (pairsOf es.toList)).Nodup := by rw [← HML.out]; exact mapOk_nodup HT.out.ok
      have hkeyR : ∀ x ∈ es.toList, keyZ x.key ∈ nums R := fun x hx => Classical.byContradiction fun q => by
        have hle : mlook (mapOf w bm) (keyZ x.key) = some x.val := by
          rw [HML.out]; exact mlook_of_mem hndL (List.mem_map_of_mem (f := fun e => (keyZ e.key, e.val)) hx)
        rw [HT.out.fo.miss _ q (by simp [nums])] at hle; cases hle
      have hmiss : ∀ k, k ∉ nums R → mlook (mapOf wr w.heap.size) k = none := fun k hk => HC.out.only k (fun x hx _ e => hk (by rw [← e]; exact hkeyR x hx))
      have hgot : ∀ A n d C, R = A ++ (n, d) :: C → ∃ v, mlook (mapOf wr w.heap.size) n = some v ∧ NodeOk wr (fun b => w.heap.size ≤ b ∧ b ≠ wr.heap.size) v (parR d A.reverse) (kidsR d C) := fun A n d C e => by
        obtain ⟨v, hv, a, c, hve, hkc, hI, _⟩ := HT.out.fo.main A n d C e
        have hv2 := mlook_mem hv
        rw [HML.out] at hv2
        obtain ⟨x, hx, hxe⟩ := List.mem_map.1 hv2
        cases hxe
        have hs := HALL.out x hx
        obtain ⟨v', q1, a2, a', k, c2, c', par, xs, q2, q3, q4, q5, q6, q7, q8⟩ := HC.out.got x hx (by simpa using hs)
        rw [hve] at q2
        have q2 := Value.agg.inj q2
        injection q2 with q2
        injection q2 with q21 q22
        injection q22 with q22 _
        injection q21 with _ q21
        injection q22 with r1 r2 r3
        subst q21 r1 r2 r3
        obtain rfl : xs = kidsR d C := intsAt_inj q6 hI q4
        refine ⟨v', q1, a', c', by rw [q3], q5, q7, fun _ b off e => ?_⟩
        obtain ⟨z1, z2, z3, z4⟩ := q8 b off e
        exact ⟨z1, by omega⟩
      refine ⟨wr.heap.size, w.heap.size, rfl, ⟨has_new rfl, mapOk_alloc HC.out.ok, by have := HC.out.ok.lt; omega, by simp; have := HC.out.bel.size; omega, by simp; have := HC.out.bel.size; omega, HT.out.wf, ?_⟩, HC.out.bel.size, Nat.le_refl _, HC.out.bel.alloc HC.out.bel.size _⟩
      rw [mapOf_alloc HC.out.ok.lt]
      refine ⟨fun A n d C e => ?_, fun A n d C e => by simp at e, fun k hk _ => hmiss k hk, ?_⟩
      · obtain ⟨v, h1, h2⟩ := hgot A n d C e
        exact ⟨v, h1, h2.to (by simp) (fun b hb _ _ => Below.heap_alloc wr _ b hb)⟩
      · have h1 := nodup_len_le (mkeys (mapOf wr w.heap.size)) (nums R) (mapOk_nodup HC.out.ok) (fun k hk => Classical.byContradiction fun q => mlook_none.1 (hmiss k q) hk)
        have h2 := nodup_len_le (nums R) (mkeys (mapOf wr w.heap.size)) hndR (fun k hk => Classical.byContradiction fun q => by
          obtain ⟨⟨n, d⟩, hx, rfl⟩ := List.mem_map.1 hk
          obtain ⟨A, C, e⟩ := List.append_of_mem hx
          obtain ⟨v, h1, _⟩ := hgot A n d C e
          rw [mlook_none.2 q] at h1; cases h1)
        simp only [mkeys, List.length_map, nums_length] at h1 h2
        simp; omega
    · obtain ⟨hees, hens⟩ := mem_left he
      obtain ⟨W2, hW2⟩ : ∃ W2, W2 = Go.ChangeMaps.setBlock w1 (w.heap.size + 1) (.mapIter (some bm) clock (seen.push e.born) clock) := ⟨_, rfl⟩
      rw [← hW2] at hrun
      have hsz : wr.heap.size = W2.heap.size := by rw [hW2]; show _ = (w1.heap.setIfInBounds _ _).size; rw [Array.size_setIfInBounds]; rcases hw1 with q | q <;> subst q <;> rfl
      have hoth : ∀ k, k ≠ w.heap.size + 1 → W2.heap[k]? = wr.heap[k]? := fun k hk => by
        rw [hW2]; show (w1.heap.setIfInBounds _ _)[k]? = _
        rw [Array.getElem?_setIfInBounds_ne (Ne.symm hk)]
        rcases hw1 with q | q <;> subst q <;> rfl
      have hrl : w.heap.size + 1 < wr.heap.size := (Array.getElem?_eq_some_iff.1 hit).1
      have hr2 : W2.heap[w.heap.size + 1]? = some (.mapIter (some bm) clock (seen.push e.born) clock) := by
        rw [hW2]; show (w1.heap.setIfInBounds _ _)[_]? = _
        have : w.heap.size + 1 < w1.heap.size := by rcases hw1 with q | q <;> subst q <;> exact hrl
        simp [this]
      have hB2 : Below w.heap.size w W2 := by
        refine ⟨?_, ?_, ?_, by rw [← hsz]; exact hC.bel.size, fun k hk => (hoth k (by omega)).trans (hC.bel.block k hk)⟩
        · rw [← hC.bel.os, hW2]; rcases hw1 with q | q <;> subst q <;> rfl
        · rw [← hC.bel.tape, hW2]; rcases hw1 with q | q <;> subst q <;> rfl
        · rw [← hC.bel.output, hW2]; rcases hw1 with q | q <;> subst q <;> rfl
      have hb2 : W2.heap[bm]? = some (.map es clock) := (hB2.block bm hbl).trans HES.out
      have hent := run_entry_at (P := Try.prog) W2 (w.heap.size + 1) bm clock seen es clock e hr2 hb2 hees HST.out.2.1
      have hke := isKey_int (HKEY.out e hees)
      have hnd : (mkeys (pairsOf es.toList)).Nodup := by rw [← HML.out]; exact mapOk_nodup HT.out.ok
      have hle : mlook (mapOf w bm) (keyZ e.key) = some e.val := by
        rw [HML.out]; exact mlook_of_mem hnd (List.mem_map_of_mem (f := fun e => (keyZ e.key, e.val)) hees)
      have hmem : keyZ e.key ∈ nums R := Classical.byContradiction fun q => by
        rw [HT.out.fo.miss _ q (by simp [nums])] at hle; cases hle
      obtain ⟨⟨n, d⟩, hx, hnk⟩ := List.mem_map.1 hmem
      obtain ⟨A, C, hR⟩ := List.append_of_mem hx
      have hnk : n = keyZ e.key := hnk
      obtain ⟨v, hv, a, c, hve, hkc, hI, _⟩ := HT.out.fo.main A n d C hR
      rw [hnk, hle] at hv
      cases hv
      have hk2 : MapOk W2 w.heap.size := mapOk_eq (hoth _ (by omega)) hC.ok
      have hm2 : mapOf W2 w.heap.size = mapOf wr w.heap.size := mapOf_eq (hoth _ (by omega))
      have hkl : (kidsR d C).length ≤ 1000000 := by
        have q1 := kids_len_le d C
        have q2 : R.length = A.length + (C.length + 1) := by rw [hR]; simp
        omega
      have hko : ∀ u cs T, Below W2.heap.size W2 u → MapOk (ov u W2.heap.size cs T) w.heap.size := fun u cs T hu => mapOk_ov (by omega) (mapOk_eq (hu.block _ (by omega)) hk2)
      have hkd : ∀ u cs T, Below W2.heap.size W2 u → MapOk (ov u W2.heap.size cs T).drew w.heap.size := hko
      have hIW := hI.below hB2
      have HI := Lib.hid hI; have HIW := Lib.hid hIW; have HB2 := Lib.hid hB2; have HVE := Lib.hid hve; have HOTH := Lib.hid hoth; have HR2 := Lib.hid hr2; have HM2 := Lib.hid hm2; have HK2 := Lib.hid hk2; have HKE := Lib.hid hke; have HEES := Lib.hid hees; have HENS := Lib.hid hens; have HSH := Lib.hid (left_shrinks es seen e he); have HNS := Lib.hid hns; have HIT := Lib.hid hit; have HSZ := Lib.hid hsz
      rw [hke, hve] at hrun hent
      generalize keyZ e.key = ky at *
      generalize hks : kidsR d C = ks at *
      generalize parR d A.reverse = par at *
      have HKS := Lib.hid hks
      clear hC hit hcc hb hns hW2 hw1 hoth hr2 hB2 hb2 hke hnd hle hmem hx hnk hR hve hI hIW hm2 hk2 hks hees hens he hsz hrl
      go_wp2_with fail
      refine region_ord [(0, 0), (1, 0), (2, 0), (3, 0), (4, 0), (5, 0), (6, 1), (7, 0), (8, 2)] (by kernel_rfl) (by kernel_rfl) (fun _ _ d _ _ h => by cases d <;> exact h) (fun hS => ?_)
      (refine wpG_read (v := ?_) rfl (.inl ⟨by rfl, fun wx hbx => ?_⟩) ?_; rotate_left; (focus (obtain ⟨cx0, fx0, zx0⟩ := bk hbx (W2.heap.size) (by first | omega | (simp; done) | (simp; omega)); go_simp; (try go_bits); (try with_reducible rfl))); try simp only [Act.put, List.setIfInBounds_toArray, List.set_cons_zero, List.set_cons_succ])
      (refine wpG_read (v := ?_) rfl (.inl ⟨by rfl, fun wx hbx => ?_⟩) ?_; rotate_left; (focus (obtain ⟨cx0, fx0, zx0⟩ := bk hbx (W2.heap.size) (by first | omega | (simp; done) | (simp; omega)); go_simp; (try go_bits); (try with_reducible rfl))); try simp only [Act.put, List.setIfInBounds_toArray, List.set_cons_zero, List.set_cons_succ])
      (refine wpG_read (v := ?_) rfl (.inl ⟨by rfl, fun wx hbx => ?_⟩) ?_; rotate_left; (focus (obtain ⟨cx0, fx0, zx0⟩ := bk hbx (W2.heap.size) (by first | omega | (simp; done) | (simp; omega)); go_simp; (try go_bits); (try with_reducible rfl))); try simp only [Act.put, List.setIfInBounds_toArray, List.set_cons_zero, List.set_cons_succ])
      (refine wpG_read (v := ?_) rfl (.inl ⟨by rfl, fun wx hbx => ?_⟩) ?_; rotate_left; (focus (obtain ⟨cx0, fx0, zx0⟩ := bk hbx (W2.heap.size) (by first | omega | (simp; done) | (simp; omega)); go_simp; (try go_bits); (try with_reducible rfl))); try simp only [Act.put, List.setIfInBounds_toArray, List.set_cons_zero, List.set_cons_succ])
      (refine wpG_read (v := ?_) rfl (.inl ⟨by rfl, fun wx hbx => ?_⟩) ?_; rotate_left; (focus (obtain ⟨cx0, fx0, zx0⟩ := bk hbx (W2.heap.size) (by first | omega | (simp; done) | (simp; omega)); go_simp; (try go_bits); (try with_reducible rfl))); try simp only [Act.put, List.setIfInBounds_toArray, List.set_cons_zero, List.set_cons_succ])
      (refine wpG_read (v := ?_) rfl (.inl ⟨by rfl, fun wx hbx => ?_⟩) ?_; rotate_left; (focus (obtain ⟨cx0, fx0, zx0⟩ := bk hbx (W2.heap.size) (by first | omega | (simp; done) | (simp; omega)); go_simp; (try go_bits); (try with_reducible rfl))); try simp only [Act.put, List.setIfInBounds_toArray, List.set_cons_zero, List.set_cons_succ])
      (refine wpG_make rfl (fun K hK => ?_); go_simp; (go_at_call 51; (with_reducible refine (clone_any a ks.length c ks _ rfl hkl (HIW.out.below (by (repeat' (first | (with_reducible exact Below.refl _ _) | (with_reducible assumption) | (with_reducible refine below_from_drew ?_) | (with_reducible refine Below.alloc ?_ ?_ _) | (with_reducible refine Below.drew ?_) | (with_reducible refine below_drewN ?_ _) | (with_reducible refine Below.setCell ?_ ?_ _) | (with_reducible refine below_via ?_ (by assumption) ?_) | (with_reducible refine below_ov ?_ ?_ _ _) | go_size))))).mono ?_); rintro e w1 ⟨a2, c2, rfl, hc2, hown, hb⟩; refine Exists.elim (after1 (w := W2) (b0 := W2.heap.size) (cs0 := ?_) (T0 := ?_) hb ?_ ?_) ?_; rotate_left 2; (focus ((repeat' (first | (with_reducible exact Below.refl _ _) | (with_reducible assumption) | (with_reducible refine below_from_drew ?_) | (with_reducible refine Below.alloc ?_ ?_ _) | (with_reducible refine Below.drew ?_) | (with_reducible refine below_drewN ?_ _) | (with_reducible refine Below.setCell ?_ ?_ _) | (with_reducible refine below_via ?_ (by assumption) ?_) | (with_reducible refine below_ov ?_ ?_ _ _) | go_size)); done)); (focus ((repeat' (first | (with_reducible refine has_drew ?_) | (with_reducible refine has_drewN ?_) | (with_reducible refine has_new ?_; (first | (with_reducible rfl) | omega | (simp; done) | (simp; omega))) | (with_reducible refine has_ov_same ?_; (first | (with_reducible rfl) | omega | (simp; done) | (simp; omega))) | (with_reducible refine has_alloc ?_) | (with_reducible refine has_ov_other ?_ ?_; (focus (first | (with_reducible rfl) | omega | (simp; done) | (simp; omega)))) | (with_reducible assumption))); done)); rintro u ⟨rfl, hB, hz, z0, o0⟩; (try simp only [World.size_alloc, World.size_setCell, World.size_drew, ov_size] at hz)); (try simp only []); refine hK _ _ ?_ (fun hS2 => ?_); (focus ((repeat' (first | (with_reducible exact Below.refl _ _) | (with_reducible assumption) | (with_reducible refine below_from_drew ?_) | (with_reducible refine Below.alloc ?_ ?_ _) | (with_reducible refine Below.drew ?_) | (with_reducible refine below_drewN ?_ _) | (with_reducible refine Below.setCell ?_ ?_ _) | (with_reducible refine below_via ?_ (by assumption) ?_) | (with_reducible refine below_ov ?_ ?_ _ _) | go_size)); done)); clear hK K hS; have hS := hS2; clear hS2; (try clear hb); try simp only [Act.put, List.setIfInBounds_toArray, List.set_cons_zero, List.set_cons_succ])
      (refine wpG_read (v := ?_) rfl (.inl ⟨by rfl, fun wx hbx => ?_⟩) ?_; rotate_left; (focus (obtain ⟨cx0, fx0, zx0⟩ := bk hbx (W2.heap.size) (by first | omega | (simp; done) | (simp; omega)); go_simp; (try go_bits); (try with_reducible rfl))); try simp only [Act.put, List.setIfInBounds_toArray, List.set_cons_zero, List.set_cons_succ])
      (refine wpG_late rfl (fun K hK => ?_); go_simp; (try simp only []); (try simp only []); refine hK _ _ ?_; clear hK K; try simp only [Act.put, List.setIfInBounds_toArray, List.set_cons_zero, List.set_cons_succ])
      refine wpG_nil ?_
      clear hS hrun hent hnk
      have hrr : w.heap.size + 1 < W2.heap.size := (Array.getElem?_eq_some_iff.1 HR2.out).1
      have hVK := hko u #[.int .i64 par, .slice a ks.length c] 128 hB
      have hVm : mapOf (ov u W2.heap.size #[.int .i64 par, .slice a ks.length c] 128) w.heap.size = mapOf wr w.heap.size := by
        rw [mapOf_ov (by omega), mapOf_eq (hB.block _ (by omega)), HM2.out]
      obtain ⟨X, hX⟩ : ∃ X, X = putM (ov u W2.heap.size #[.int .i64 par, .slice a ks.length c] 128) w.heap.size ky (.agg #[.int .i64 par, .slice a2 ks.length c2]) := ⟨_, rfl⟩
      have hXo : ∀ k, k < W2.heap.size → k ≠ w.heap.size → X.heap[k]? = W2.heap[k]? := fun k hk hn => by
        rw [hX, putM_other hn]
        show (u.heap.setIfInBounds _ _)[k]? = _
        rw [Array.getElem?_setIfInBounds_ne (by omega)]
        exact hB.block k hk
      have hXs : X.heap.size = u.heap.size := by rw [hX, putM_size, ov_size]
      have hXB : Below w.heap.size w X := by
        rw [hX]; exact below_put (below_ov (below_via HB2.out hB (by omega)) (by omega) _ _) (Nat.le_refl _)
      have hXK : MapOk X w.heap.size := by rw [hX]; exact mapOk_put_same hVK
      have hXm : mapOf X w.heap.size = mput (mapOf wr w.heap.size) ky (.agg #[.int .i64 par, .slice a2 ks.length c2]) := by rw [hX, mapOf_put_same hVK, hVm]
      have hXr : X.heap[w.heap.size + 1]? = some (.mapIter (some bm) clock (seen.push e.born) clock) := (hXo _ hrr (by omega)).trans HR2.out
      have hblk : ∀ b off, a2 = some ⟨b, off, none⟩ → W2.heap.size + 1 ≤ b := fun b off q => by
        have := row_block hown b (by rw [q]; rfl)
        have hsz : (W2.alloc (.cells #[.int .i64 par, .slice a ks.length c] 128)).drew.heap.size = W2.heap.size + 1 := by show (W2.alloc _).heap.size = _; simp
        rw [hsz] at this; exact this
      have HBL2 := Lib.hid (show ∀ b off, a2 = some ⟨b, off, none⟩ → b < u.heap.size from fun b off q => by
        have := (hown.lt b (by rw [q]; rfl)).2
        rwa [ov_size] at this)
      have hIV := intsAt_owned hown rfl
      have hIX : IntsAt X a2 ks := hIV.to (by rw [hXs, ov_size]; exact Nat.le_refl _) (fun b off q _ => by rw [hX]; exact putM_other (by have := hblk b off q; omega))
      have HX := Lib.hid hX; have HXO := Lib.hid hXo; have HXB := Lib.hid hXB; have HXK := Lib.hid hXK; have HXM := Lib.hid hXm; have HXR := Lib.hid hXr; have HBL := Lib.hid hblk; have HIX := Lib.hid hIX; have HXS := Lib.hid hXs
      have hzu := hB.size
      rw [← hX]
      clear hX hXo hXB hXK hXm hXr hblk hIX hIV hVK hVm hko hkd hown hB hXs
      go_roundw
      case rel =>
        refine ⟨_, _, _, _, _, _, _, _, _, _, _, _, _, _, _, ⟨seen.push e.born, ?_⟩, rfl⟩
        refine ⟨⟨clock, HXR.out, Nat.le_refl _⟩, HXB.out, HXK.out, fun x hx hxs => ?_, fun k hk => ?_⟩
        · by_cases hbe : x.born = e.born
          · obtain rfl : x = e := inj_map HST.out.2.1 hx HEES.out hbe
            have hky : keyZ x.key = ky := by rw [HKE.out]; rfl
            refine ⟨.agg #[.int .i64 par, .slice a2 ks.length c2], by rw [HXM.out, mlook_put, if_pos hky], a, a2, ks.length, c, c2, par, ks, HVE.out, rfl, rfl, hc2, HI.out, HIX.out, fun b off q => ?_⟩
            have h1 := HBL.out b off q
            have h2 : b < X.heap.size := by rw [HXS.out]; exact HBL2.out b off q
            exact ⟨by omega, h2, by omega, by omega⟩
          · have hsn : x.born ∈ seen := by
              rcases Array.mem_push.1 hxs with q | q
              · exact q
              · exact absurd q hbe
            obtain ⟨v', q1, a1, a', k, c1, c', par', xs, q2, q3, q4, q5, q6, q7, q8⟩ := HC.out.got x hx hsn
            have hne : keyZ x.key ≠ ky := fun q => by
              have hke : keyZ x.key = keyZ e.key := by rw [q, HKE.out]; rfl
              have := keyZ_inj (HKEY.out x hx) (HKEY.out e HEES.out) hke
              exact hbe (by rw [inj_map HST.out.2.2 hx HEES.out this])
            refine ⟨v', by rw [HXM.out, mlook_put, if_neg hne, q1], a1, a', k, c1, c', par', xs, q2, q3, q4, q5, q6, q7.to (by rw [HXS.out]; have := HSZ.out; omega) (fun b off q hb => ?_), fun b off q => ?_⟩
            · obtain ⟨z1, z2, z3, z4⟩ := q8 b off q
              rw [HXO.out b (by rw [← HSZ.out]; exact hb) z4, HOTH.out b z3]
            · obtain ⟨z1, z2, z3, z4⟩ := q8 b off q
              exact ⟨z1, by rw [HXS.out]; have := HSZ.out; omega, z3, z4⟩
        · have hne : ¬ k = ky := fun q => hk e HEES.out (Array.mem_push_self) (by rw [HKE.out, q]; rfl)
          rw [HXM.out, mlook_put, if_neg hne]
          exact HC.out.only k (fun x hx hs => hk x hx (Array.mem_push.2 (.inl hs)))
      case measure =>
        have h1 : seenOf X (w.heap.size + 1) = seen.push e.born := by unfold seenOf; rw [HXR.out]
        rw [h1, HNS.out]; exact HSH.out
end Go.Proofs.Ytcpehmlkhmfmhaa
