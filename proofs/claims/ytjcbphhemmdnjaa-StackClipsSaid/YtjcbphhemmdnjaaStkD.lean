/- law26 (stack): ref26.Order by contract. -/
import Derived.Test.YtjcbphhemmdnjaaStkC
import Derived.Test.YtjcbphhemmdnjaaStkX
import Derived.Test.YtjcbphhemmdnjaaTreeD
import Derived.Laws.MakeOwn
namespace Go.Proofs.Ytjcbphhemmdnjaa
open Go Go.RowKit
set_option linter.unusedSimpArgs false
set_option linter.unusedVariables false
-- below_from_drew
attribute [local go_sem] ov_cell_same ov_cell_other ov_frozen_same ov_frozen_other ov_size ov_setCell_same ov_setCell_other cell_alloc_old frozen_alloc_old setCell_alloc_old old_alloc old_ov old_drew old_drewN old_setCell
attribute [local go_sem ↓] run_max2 run_min2
theorem own0 {w W : World} (hS : Below w.heap.size w W) : OwnN (W.alloc (.cells #[] 3)) w.heap.size (.slice (some ⟨W.heap.size, 0, none⟩) 0 0) [] :=
  ⟨rfl, .inr ⟨W.heap.size, 0, #[], rfl, hS.size, has_new rfl, Nat.le_refl _, by unfold maxLen; omega, rfl, rfl⟩⟩
theorem nat9 {n : Nat} {w W : World} (hS : Below n w W) (x : Nat) : NatsO (W.alloc (.cells #[.int .i64 (x : Int)] 3)) (some ⟨W.heap.size, 0, none⟩) [x] := fun _ =>
  ⟨W.heap.size, 0, rfl, by simp, fun j hj => by
    obtain rfl : j = 0 := by simp at hj; omega
    exact has_cell (has_new rfl) rfl⟩
theorem NatsO.grown {w w' : World} {a : Option Addr} {xs : List Nat} {r : Option Nat} (h : NatsO w a xs) (hg : w.grownBy w' r) (hne : ∀ g, (∃ o, a = some ⟨g, o, none⟩) → r ≠ some g) : NatsO w' a xs := fun h0 => by
  obtain ⟨g, o, e, h1, h2⟩ := h h0
  have hb := hg.block g h1 (Ne.symm (hne g ⟨o, e⟩))
  have hz := hg.size
  refine ⟨g, o, e, by omega, fun j hj => ?_⟩
  rw [← h2 j hj]
  unfold World.cell?
  rw [hb]
theorem run_append_no (w : World) (base : Nat) (t ty e : TypeId) (i : TypeInfo) (size : Nat) (ht : Try.prog.underlying t = some (.slice e)) (hi : Try.prog.info? e = some i)
    (v : Value) (n c : Nat) (xs : List Value) (hown : w.ownsRow base e size v n xs) : (Builtin.append_ #[t, t] ty #[v, .slice none 0 c]).run Try.prog w = .ok v w := by
  rcases hown.2 with ⟨rfl, rfl⟩ | ⟨g, cap, cur, rfl, _, _, hnc, _⟩
  · simp [Builtin.append_, run_underlying ht, sizeOf, typeInfo, hi, Builtin.lenOf, Builtin.firstCells]
  · simp [Builtin.append_, run_underlying ht, sizeOf, typeInfo, hi, Builtin.lenOf, Builtin.firstCells, hnc, storeCells]
/-- Cells that are read appended to a row of one's own. -/
theorem wp_app_cells {o : Oper} {a : Act} {K : Act → World → Prop} {Q : Exit → Act → World → Prop} (w : World) (s x : Operand) (ho : o.op = .call { callee := .builtin .append, args := #[s, x], argTypes := #[54, 54] })
    (base : Nat) (v : Value) (xs ys : List Nat) (ad : Option Addr) (c : Nat) (hs : a.eval s = v) (hown : OwnN w base v xs) (hx : a.eval x = .slice ad ys.length c) (hsrc : NatsO w ad ys) (hl : xs.length + ys.length ≤ 1000000) (hbase : base ≤ w.heap.size)
    (h : ∀ v' w', OwnN w' base v' (xs ++ ys) → w.grownBy w' v.ownBlock → K (a.put o.dst v') w') : o.wp Try.prog a w K Q := by
  obtain ⟨i0, hi, hz0, hz1, hz2⟩ := info_parts infoNat
  cases ad with
  | none =>
    have he : ys = [] := by
      rcases Nat.eq_zero_or_pos ys.length with q | q
      · exact List.eq_nil_of_length_eq_zero q
      · obtain ⟨g, o, e, _⟩ := hsrc q; cases e
    subst he
    have hrun := run_append_no w base 54 o.type 3 i0 1 Try.underlying54 hi v xs.length c (natVals xs) hown
    unfold Oper.wp
    simp only [List.length_nil] at hx
    simp [execOp, ho, resolve, invoke, builtin, hs, hx, hrun, Result.andThen]
    refine h _ _ ?_ (⟨rfl, rfl, rfl, Nat.le_refl _, fun _ _ _ => rfl⟩)
    rw [List.append_nil]; exact hown
  | some b =>
    refine wp_append_own w s x _ ho base 3 i0 (.int .i64 0) 1 8 Try.underlying54 hi hz0 hz1 hz2 rfl (by decide) v xs.length (natVals xs) hs hown b ys.length c (natVals ys) hx (by rw [natVals_len]; omega) (fun j u hj => ?_) (fun u hu => by obtain ⟨y, _, rfl⟩ := List.mem_map.1 hu; rfl) (by unfold maxLen; omega) (by omega) hbase ?_
    · have hj' : j < ys.length := by have := (List.getElem?_eq_some_iff.1 hj).1; rwa [natVals_len] at this
      obtain ⟨g, o, e, h1, h2⟩ := hsrc (by omega)
      cases e
      rw [natVals_get hj'] at hj
      cases hj
      rw [Addr.add_lit]
      exact h2 j hj'
    · intro v' w' h1 h2 _
      exact h v' w' (by unfold OwnN; rw [List.length_append, natVals_append]; exact h1) h2
set_option maxRecDepth 100000 in
/-- The front and the back of a row. -/
theorem OwnN.front {w : World} {base c k : Nat} {a : Option Addr} {xs : List Nat} (h : OwnN w base (.slice a xs.length c) xs) (hk : k ≤ xs.length) :
    ∃ a' c', (∀ X : World, (Instr.slice 54 (.slice a xs.length c) none (some (.int .i64 (k : Int))) none).run Try.prog X = .ok (.slice a' (xs.take k).length c') X) ∧ NatsO w a' (xs.take k) := by
  obtain ⟨a0, c0, e, hc, _, hr⟩ := row_reads h
  cases e
  have hl : (xs.take k).length = k := by simp; omega
  refine ⟨a, c, fun X => ?_, fun h0 => ?_⟩
  · rw [run_slice_h X 54 a xs.length c Try.underlying54 .i64 k (by omega) (by omega)]
    rw [hl]
    have hz : (sizeOf (Try.prog.elem 54)).run Try.prog X = .ok 1 X := by kernel_rfl
    rw [hz]
    show Result.ok (sliced a 0 (Int.toNat k) c 1) X = _
    unfold sliced
    rcases a with _ | ⟨b, o, sp⟩
    · simp
    · simp [Addr.add]
  · obtain ⟨g, e, _, h2, h3⟩ := hr (by omega)
    refine ⟨g, 0, e, h2, fun j hj => ?_⟩
    rw [hl] at hj
    rw [Nat.zero_add]
    have := h3 j _ (natVals_get (show j < xs.length by omega))
    rw [this]
    simp [List.getD_eq_getElem?_getD, List.getElem?_take_of_lt hj]
set_option maxRecDepth 100000 in
theorem OwnN.back {w : World} {base c k : Nat} {a : Option Addr} {xs : List Nat} (h : OwnN w base (.slice a xs.length c) xs) (hk : k ≤ xs.length) :
    ∃ a' c', (∀ X : World, (Instr.slice 54 (.slice a xs.length c) (some (.int .i64 (k : Int))) none none).run Try.prog X = .ok (.slice a' (xs.drop k).length c') X) ∧ NatsO w a' (xs.drop k) := by
  obtain ⟨a0, c0, e, hc, _, hr⟩ := row_reads h
  cases e
  have hl : (xs.drop k).length = xs.length - k := by simp
  refine ⟨if c = k then a else a.map (·.add (k * 1)), c - k, fun X => ?_, fun h0 => ?_⟩
  · rw [run_slice_l X 54 a xs.length c Try.underlying54 .i64 k (by omega) (by omega)]
    rw [hl]
    have hz : (sizeOf (Try.prog.elem 54)).run Try.prog X = .ok 1 X := by kernel_rfl
    rw [hz]
    rfl
  · rw [hl] at h0
    obtain ⟨g, e, _, h2, h3⟩ := hr (by omega)
    subst e
    rw [if_neg (by omega)]
    refine ⟨g, k, by simp [Addr.add]; omega, h2, fun j hj => ?_⟩
    rw [hl] at hj
    have := h3 (k + j) _ (natVals_get (show k + j < xs.length by omega))
    rw [this]
    simp [List.getD_eq_getElem?_getD]
/-- Does the loop of an insertion go on? -/
def tstB (ah : Nat → Nat → Bool) (x k : Nat) (O : List Nat) : Bool := decide (0 < k) && ah x (O.getD (k - 1) 0)
/-- The places in the tree's order, as far as they are told. -/
def atC (l : List N26) (N i : Nat) : List Value := (List.range N).map fun k => .int .i64 (if atN (pa26 l) N k < i then (atN (pa26 l) N k : Int) else 0)
theorem atC_len (l : List N26) (N i : Nat) : (atC l N i).length = N := by simp [atC]
theorem atC_get {l : List N26} {N i k : Nat} (h : k < N) : (atC l N i)[k]? = some (.int .i64 (if atN (pa26 l) N k < i then (atN (pa26 l) N k : Int) else 0)) := by
  unfold atC
  rw [List.getElem?_map, List.getElem?_range h]
  rfl
theorem atC_set {l : List N26} {N i t : Nat} (ht : t < N) (e : (preN (pa26 l) N 0).getD i 0 = t) (hi : i < N) : (atC l N i).set t (.int .i64 (i : Int)) = atC l N (i + 1) := by
  have hp : ∀ i, 0 < i → pa26 l i < i := fun i hi => pa26_lt l hi
  have hlen := preN_len (pa := pa26 l) (N := N) hp (by omega)
  have hat : atN (pa26 l) N t = i := by
    rw [← e]
    have := preN_at (pa := pa26 l) (N := N) hp (by omega) (show i < (preN (pa26 l) N 0).length by omega)
    have e2 : (preN (pa26 l) N 0).getD i 0 = (preN (pa26 l) N 0)[i]'(by omega) := by simp [List.getD_eq_getElem?_getD, show i < (preN (pa26 l) N 0).length by omega]
    rw [e2]
    exact this
  apply List.ext_getElem?
  intro k
  by_cases hk : k < N
  · by_cases c : k = t
    · subst c
      rw [List.getElem?_set_self (by rw [atC_len]; exact hk), atC_get hk, hat, if_pos (by omega)]
    · rw [List.getElem?_set_ne (by omega), atC_get hk, atC_get hk]
      have hne : atN (pa26 l) N k ≠ i := fun q => c (at_inj hp hk ht (by rw [q, hat]))
      by_cases c2 : atN (pa26 l) N k < i
      · rw [if_pos c2, if_pos (by omega)]
      · rw [if_neg c2, if_neg (by omega)]
  · rw [List.getElem?_eq_none (by rw [List.length_set, atC_len]; omega), List.getElem?_eq_none (by rw [atC_len]; omega)]
theorem atC_zero (l : List N26) (N : Nat) : madeCells #[.int .i64 0] (N * 1) = (atC l N 0).toArray := by
  apply Array.ext_getElem?
  intro k
  unfold madeCells atC
  by_cases hk : k < N
  · simp [hk, Nat.mod_one]
  · simp [hk]
theorem atC_full {l : List N26} {N k : Nat} (h : k < N) : (atC l N N)[k]? = some (.int .i64 ((atN (pa26 l) N k : Nat) : Int)) := by
  have hp : ∀ i, 0 < i → pa26 l i < i := fun i hi => pa26_lt l hi
  rw [atC_get h, if_pos]
  unfold atN
  have hm : k ∈ preN (pa26 l) N 0 := (preN_mem hp 0 (by omega) k).2 ⟨h, inSub_root hp k⟩
  have := List.idxOf_lt_length_of_mem hm
  rwa [preN_len hp (by omega)] at this
set_option maxRecDepth 100000 in
set_option maxHeartbeats 4000000 in
theorem rord26_any (gL N cL : Nat) (l : List N26) (w : World) (hN : N ≤ 60) (h0 : 0 < N) (h : Rd26 w l N gL) :
    Calls Try.prog 19 #[.agg #[.slice (some ⟨gL, 0, none⟩) N cL, .int .i64 0, .int .i64 0]] w fun e w' => ∃ v, e = .returned v ∧ OwnN w' w.heap.size v (paintN (pa26 l) N (ctx26 l) (z26 l) 0) ∧ Below w.heap.size w w' := by
  have hpa : ∀ i, 0 < i → pa26 l i < i := fun i hi => pa26_lt l hi
  have HPA := Lib.hid hpa
  clear hpa
  have HR := Lib.hid h
  have HO := Lib.hid (show ∀ X, Below w.heap.size w X → Calls Try.prog 22 #[.agg #[.slice (some ⟨gL, 0, none⟩) N cL, .int .i64 0, .int .i64 0], .int .i64 0] X fun e w' => ∃ v, e = .returned v ∧ OwnN w' X.heap.size v (preN (pa26 l) N 0) ∧ Below X.heap.size X w' from fun X hX => rorder_any gL N cL l hN N 0 X (by omega) h0 (h.below hX))
  have oL : Old w gL := h.zL
  have lL := h.zL
  clear h
  obtain ⟨T, hT⟩ : ∃ T, preN (pa26 l) N 0 = T := ⟨_, rfl⟩
  have HT := Lib.hid hT
  have hTl : T.length = N := by rw [← hT]; exact preN_len HPA.out h0
  have hTL := Lib.hid hTl
  have hT60 : T.length ≤ 60 := by omega
  have hTm : ∀ x, x ∈ T → x < N := fun x hx => by rw [← hT] at hx; exact ((preN_mem HPA.out 0 h0 x).1 hx).1
  have HTM := Lib.hid hTm
  rw [hT] at HO
  clear hT hTm hTl
  obtain ⟨i0, hi, hz0, hz1, hz2⟩ := info_parts infoNat
  have hmk : ∀ W : World, (Instr.makeSlice 54 (.int .i64 N) (.int .i64 N)).run Try.prog W = .ok (.slice (some ⟨W.heap.size, 0, none⟩) N N) (W.alloc (.cells (atC l N 0).toArray 3)) := fun W => by
    have := run_make W 54 3 i0 (.int .i64 0) Try.underlying54 hi hz0 .i64 .i64 N N (by omega) (by omega) (by rw [hz2]; omega) (by omega)
    rw [hz1, Int.toNat_natCast, show (Value.int .i64 0).cells = #[.int .i64 0] from rfl, atC_zero l] at this
    exact this
  clear hi hz0 hz1 hz2
  go_enter Try.func19, Try.ntmps19
  go_upto_region 2 with ((go_at_call 22; (with_reducible refine (HO.out _ (by (repeat' (first | (with_reducible exact Below.refl _ _) | (with_reducible assumption) | (with_reducible refine below_from_drew ?_) | (with_reducible refine Below.alloc ?_ ?_ _) | (with_reducible refine Below.drew ?_) | (with_reducible refine below_drewN ?_ _) | (with_reducible refine Below.setCell ?_ ?_ _) | (with_reducible refine below_via ?_ (by assumption) ?_) | (with_reducible refine below_ov ?_ ?_ _ _) | go_size)))).mono ?_); rintro e w1 ⟨v3, rfl, hown3, hb⟩; refine Exists.elim (after1 (w := w) (b0 := w.heap.size) (cs0 := ?_) (T0 := ?_) hb ?_ ?_) ?_; rotate_left 2; (focus ((repeat' (first | (with_reducible exact Below.refl _ _) | (with_reducible assumption) | (with_reducible refine below_from_drew ?_) | (with_reducible refine Below.alloc ?_ ?_ _) | (with_reducible refine Below.drew ?_) | (with_reducible refine below_drewN ?_ _) | (with_reducible refine Below.setCell ?_ ?_ _) | (with_reducible refine below_via ?_ (by assumption) ?_) | (with_reducible refine below_ov ?_ ?_ _ _) | go_size)); done)); (focus ((repeat' (first | (with_reducible refine has_drew ?_) | (with_reducible refine has_drewN ?_) | (with_reducible refine has_new ?_; (first | (with_reducible rfl) | omega | (simp; done) | (simp; omega))) | (with_reducible refine has_ov_same ?_; (first | (with_reducible rfl) | omega | (simp; done) | (simp; omega))) | (with_reducible refine has_alloc ?_) | (with_reducible refine has_ov_other ?_ ?_; (focus (first | (with_reducible rfl) | omega | (simp; done) | (simp; omega)))) | (with_reducible assumption) | (with_reducible exact has_below hB (by assumption)))); done)); rintro u3 ⟨rfl, hB, hz, z0, o0⟩; (try simp only [World.size_alloc, World.size_setCell, World.size_drew, ov_size] at hz)))
  refine name_w (f := Code.wp _ _ _ _) (fun U hU => ?_)
  rw [← hU] at hown3
  have hbU : Below w.heap.size w U := by rw [hU]; (repeat' (first | (with_reducible exact Below.refl _ _) | (with_reducible assumption) | (with_reducible refine below_from_drew ?_) | (with_reducible refine Below.alloc ?_ ?_ _) | (with_reducible refine Below.drew ?_) | (with_reducible refine below_drewN ?_ _) | (with_reducible refine Below.setCell ?_ ?_ _) | (with_reducible refine below_via ?_ (by assumption) ?_) | (with_reducible refine below_ov ?_ ?_ _ _) | go_size))
  have hpU : Has U w.heap.size #[.slice (some ⟨gL, 0, none⟩) N cL, .int .i64 0, .int .i64 0] 29 := by rw [hU]; (repeat' (first | (with_reducible refine has_drew ?_) | (with_reducible refine has_drewN ?_) | (with_reducible refine has_new ?_; (first | (with_reducible rfl) | omega | (simp; done) | (simp; omega))) | (with_reducible refine has_ov_same ?_; (first | (with_reducible rfl) | omega | (simp; done) | (simp; omega))) | (with_reducible refine has_alloc ?_) | (with_reducible refine has_ov_other ?_ ?_; (focus (first | (with_reducible rfl) | omega | (simp; done) | (simp; omega)))) | (with_reducible assumption) | (with_reducible exact has_below hB (by assumption))))
  have HBU := Lib.hid hbU; have HPU := Lib.hid hpU
  have HOW := Lib.hid hown3
  have cp := hpU.cells; have lp := hpU.lt; have op : Old U w.heap.size := lp
  obtain ⟨gt, kt, rfl, _, hgtl, htc⟩ := hown3.cells (by rw [hTL.out]; exact h0)
  have HTC := Lib.hid htc
  have ogt : Old U gt := hgtl
  clear hU hbU hown3 hb hB z0 o0 hz u3 htc HO hpU
  go_upto_region 3 with fail
  refine name_w (f := Code.wp _ _ _ _) (fun V hV => ?_)
  have hbV : Below U.heap.size U V := by rw [hV]; (repeat' (first | (with_reducible exact Below.refl _ _) | (with_reducible assumption) | (with_reducible refine below_from_drew ?_) | (with_reducible refine Below.alloc ?_ ?_ _) | (with_reducible refine Below.drew ?_) | (with_reducible refine below_drewN ?_ _) | (with_reducible refine Below.setCell ?_ ?_ _) | (with_reducible refine below_via ?_ (by assumption) ?_) | (with_reducible refine below_ov ?_ ?_ _ _) | go_size))
  have hgV : Has V U.heap.size (atC l N 0).toArray 3 := by rw [hV]; exact has_new rfl
  have HBV := Lib.hid hbV
  have HGV := Lib.hid hgV
  have HPV := Lib.hid (has_below hbV HPU.out)
  have hgl := hgV.lt
  have hsV := hbV.size
  have hne1 : ¬ gt = U.heap.size := by omega
  have hne2 : ¬ U.heap.size = gt := by omega
  have hne3 : ¬ w.heap.size = U.heap.size := by omega
  have HTV := Lib.hid (fun j (hj : j < T.length) => (hbV.cell (p := ⟨gt, j, none⟩) hgtl).trans (HTC.out j hj))
  have hU0 : Below w.heap.size w V := HBU.out.trans (hbV.mono HBU.out.size)
  have HWV := Lib.hid hU0
  clear hV hbV hgV cp lp op ogt hmk hU0
  generalize hg : U.heap.size = g at *
  have hgu := Lib.hid hg
  clear hg
  have og : Old V g := hgl
  have ogt : Old V gt := by show gt < V.heap.size; omega
  go_wp2_with fail
  go_loopw [5] (fun vi wr => ∃ i : Nat, vi = .int .i64 i ∧ i ≤ T.length ∧ wr = ov V g (atC l N i).toArray 3) (fun vi _ => T.length - (intOf vi).toNat)
  case atStart => exact ⟨0, rfl, Nat.zero_le _, (ov_self HGV.out).symm⟩
  case round =>
    obtain ⟨i, rfl, hi, rfl⟩ := hrel
    have hi0 : (0 : Int) ≤ i := by omega
    rcases Nat.lt_or_ge i T.length with c | c
    · have ci : (i : Int) < (T.length : Nat) := by omega
      have q2 := HTV.out i c
      have hm := HTM.out (T.getD i 0) (by simp [List.getD_eq_getElem?_getD, c])
      have HS := Lib.hid (fun t (e : T.getD i 0 = t) (ht : t < N) => atC_set (l := l) (N := N) (i := i) ht (by rw [HT.out]; exact e) (by rw [← hTL.out]; exact c))
      obtain ⟨t, ht⟩ : ∃ t, T.getD i 0 = t := ⟨_, rfl⟩
      rw [ht] at q2 hm
      replace HS := Lib.hid (HS.out t ht hm)
      clear ht
      have q3 := atC_get (l := l) (N := N) (i := i) hm
      have hmI : (t : Int) < N := by omega
      have ht0 : (0 : Int) ≤ t := by omega
      go_wp2_with fail
      refine ⟨⟨i + 1, by push_cast; rfl, c, ?_⟩, by simp only [intOf]; omega⟩
      rw [← HS.out]
    · have d2 : decide ((i : Int) < (T.length : Nat)) = false := by simp; omega
      have he : N = i := by have := hTL.out; omega
      subst he
      go_upto_region 7 with fail
      rw [show decide (N < T.length) = false by simp; have := hTL.out; omega]
      refine name_w (f := Code.wp _ _ _ _) (fun Y hY => ?_)
      have hbY : Below w.heap.size w Y := by rw [hY]; exact below_ov HWV.out (by have := HBU.out.size; have := hgu.out; omega) _ _
      have hpY : Has Y w.heap.size #[.slice (some ⟨gL, 0, none⟩) N cL, .int .i64 0, .int .i64 0] 29 := by rw [hY]; exact has_ov_other hne3 HPV.out
      have hty : ∀ j, j < T.length → Y.cell? ⟨gt, j, none⟩ = some (.int .i64 ((T.getD j 0 : Nat) : Int)) := fun j hj => by
        rw [hY, ov_cell_other (by first | (simp; done) | (simp; omega))]; exact HTV.out j hj
      have hay : ∀ k, k < N → Y.cell? ⟨g, k, none⟩ = some (.int .i64 ((atN (pa26 l) N k : Nat) : Int)) := fun k hk => by
        rw [hY, ov_cell_same hgl, List.getElem?_toArray]; exact atC_full hk
      have hgy : g < Y.heap.size := by rw [hY]; simpa using hgl
      have HBY := Lib.hid hbY; have HPY := Lib.hid hpY; have HTY := Lib.hid hty; have HAY := Lib.hid hay
      have hsy := hbY.size
      clear hY hbY hpY hty hay HBV HGV HTV HWV hne1 hne2 hne3 og ogt d2 HPV HTC HOW HPU HBU
      obtain ⟨P, hP⟩ : ∃ P, paintN (pa26 l) N (ctx26 l) (z26 l) 0 = P := ⟨_, rfl⟩
      have hperm : P.Perm T := by rw [← hP, ← HT.out]; exact paintN_perm HPA.out 0
      have hup := (paintN_up (ctx := ctx26 l) (z := z26 l) HPA.out 0 h0 (.inl rfl)).2
      rw [hP] at hup
      have hTnd : T.Nodup := by rw [← HT.out]; exact preN_nodup HPA.out 0 h0
      have hPnd : P.Nodup := hperm.nodup_iff.2 hTnd
      have hPl : P.length = N := by rw [hperm.length_eq]; exact hTL.out
      have HPM := Lib.hid hperm; have HUP := Lib.hid hup; have HTN := Lib.hid hTnd; have HPN := Lib.hid hPnd; have HPL := Lib.hid hPl
      have has := Lib.hid (fun a b => aheadN_asymm (pa := pa26 l) (N := N) (ctx := ctx26 l) (z := z26 l) (a := a) (b := b))
      have HPE := Lib.hid hP
      clear hP hperm hup hTnd hPnd hPl
      clear hi c
      go_wp2_with fail
      go_loopw [6, 7] (fun vo vi wr => ∃ i : Nat, vi = .int .i64 i ∧ i ≤ T.length ∧ OwnN wr Y.heap.size vo (amongN P (T.take i)) ∧ Below Y.heap.size Y wr) (fun _ vi _ => T.length - (intOf vi).toNat)
      case atStart => exact ⟨0, rfl, Nat.zero_le _, by rw [show T.take 0 = [] from rfl, amongN_nil]; exact ownN_nil _ _, Below.refl _ _⟩
      case round =>
        obtain ⟨j, rfl, hj, ho, hb⟩ := hrel
        have HO := Lib.hid ho; have HBR := Lib.hid hb
        have HBW := Lib.hid (HBY.out.trans (hb.mono HBY.out.size))
        have HPW := Lib.hid (has_below hb HPY.out)
        have hln := among_len (P := P) (xs := T.take j)
        rw [HPL.out] at hln
        have hsr := hb.size
        rcases Nat.lt_or_ge j T.length with c | c
        · have ci : (j : Int) < (T.length : Nat) := by omega
          have hj0 : (0 : Int) ≤ j := by omega
          have hx : T.getD j 0 ∈ T := by simp [List.getD_eq_getElem?_getD, c]
          have hm := HTM.out _ hx
          have hxs : T.getD j 0 ∉ T.take j := fun q => by
            have h1 := HTN.out
            rw [← List.take_append_drop j T, List.nodup_append] at h1
            exact h1.2.2 _ q _ (by rw [drop_at c]; simp) rfl
          obtain ⟨A, B, e1, e2, hA, hB⟩ := among_split HUP.out HPN.out (HPM.out.mem_iff.2 hx) hxs
          rw [← take_at c] at e2
          obtain ⟨x, hxe⟩ : ∃ x, T.getD j 0 = x := ⟨_, rfl⟩
          rw [hxe] at hm e2 hA hB
          have hAB : ∀ y, y ∈ A ++ B → y < N := fun y hy => by
            rw [← e1] at hy
            exact HTM.out y (HPM.out.mem_iff.1 (List.mem_filter.1 hy).1)
          rw [e1] at HO ho hln
          obtain ⟨ax, cx, rfl⟩ := ho.shape
          have HA := Lib.hid hA; have HB := Lib.hid hB; have HAB := Lib.hid hAB; have HE2 := Lib.hid e2
          have HQ : Hid (∀ k, k < T.length → wr.cell? ⟨gt, k, none⟩ = some (.int .i64 ((T.getD k 0 : Nat) : Int))) := Lib.hid (fun k hk => (hb.cell (p := ⟨gt, k, none⟩) (by show gt < Y.heap.size; omega)).trans (HTY.out k hk))
          have q1 := HQ.out j c
          rw [hxe] at q1
          have ogt : Old wr gt := by show gt < wr.heap.size; omega
          have HGO : Hid (gt < wr.heap.size) := Lib.hid ogt
          have HQ1 := Lib.hid q1
          obtain ⟨O, hO⟩ : ∃ O, A ++ B = O := ⟨_, rfl⟩
          have HOE := Lib.hid hO
          rw [hO] at HO ho hln
          rw [hO]
          clear e1 e2 hA hB hAB hb hx hxs hxe hO
          obtain ⟨wo, rfl⟩ : ∃ wo : World, wo = wr := ⟨_, rfl⟩
          go_wp2_with fail
          go_loopw [8] (fun vk w2 => ∃ k : Nat, vk = .int .i64 k ∧ A.length ≤ k ∧ k ≤ O.length ∧ Below wo.heap.size wo w2) (fun vk _ => (intOf vk).toNat)
          case atStart => exact ⟨O.length, rfl, by rw [← HOE.out]; simp, Nat.le_refl _, Below.refl _ _⟩
          case round =>
            obtain ⟨k, rfl, hk1, hk2, hb2⟩ := hrel
            have HB2 := Lib.hid hb2
            have hs2 := hb2.size
            have HO2 := Lib.hid (HO.out.below hb2)
            have HB3 := Lib.hid (HBW.out.trans (hb2.mono HBW.out.size))
            have hp2 := has_below hb2 HPW.out
            have HP2 := Lib.hid hp2
            have cp := hp2.cells; have lp := hp2.lt; have op : Old wr w.heap.size := lp
            have HQ2 : Hid (wr.cell? ⟨gt, j, none⟩ = some (.int .i64 (x : Int))) := Lib.hid ((hb2.cell (p := ⟨gt, j, none⟩) ogt).trans q1)
            have ogt2 : Old wr gt := Nat.lt_of_lt_of_le ogt hs2
            have hka : ∀ y, y < N → ∀ X, Below wr.heap.size wr X → Calls Try.prog 41 #[.agg #[.slice (some ⟨gL, 0, none⟩) N cL, .int .i64 0, .int .i64 0], .slice (some ⟨g, 0, none⟩) N N, .int .i64 x, .int .i64 y] X fun e w' => e = .returned (.bool (aheadN (pa26 l) N (ctx26 l) (z26 l) x y)) ∧ Below X.heap.size X w' := fun y hy X hX => by
              have b1 := HB3.out.trans (hX.mono HB3.out.size)
              have b2 : Below Y.heap.size Y X := HBR.out.trans ((HB2.out.trans (hX.mono hs2)).mono hsr)
              exact rahead_any gL N cL g N x y l X hN hm hy (HR.out.below b1) (Nat.lt_of_lt_of_le hgy b2.size) (fun k hk => (b2.cell (p := ⟨g, k, none⟩) hgy).trans (HAY.out k hk))
            have HKA := Lib.hid hka
            clear hb2 hp2 q1 ogt ho hka
            go_upto_region 12 with fail
            go_cut [51] (fun s wx => s = .bool (tstB (aheadN (pa26 l) N (ctx26 l) (z26 l)) x k O) ∧ Below wr.heap.size wr wx)
            case first =>
              have q1 := HQ2.out
              rcases Nat.eq_zero_or_pos k with d | d
              · have d1 : decide ((0 : Int) < (k : Int)) = false := by simp; omega
                have d2 : decide (0 < k) = false := by simp; omega
                have HV := Lib.hid (show tstB (aheadN (pa26 l) N (ctx26 l) (z26 l)) x k O = false by unfold tstB; rw [d2]; rfl)
                clear d
                refine region_ord [(0, 0), (1, 0), (2, 0), (3, 0), (4, 0), (5, 0), (6, 0), (7, 0), (8, 0), (9, 0), (10, 0), (11, 0), (12, 0), (13, 0), (14, 1), (15, 0)] (by kernel_rfl) (by kernel_rfl) (fun _ _ d _ _ h => by cases d <;> exact h) (fun hS => ?_)
                (refine wpG_read (v := ?_) rfl (.inl ⟨by rfl, fun wx hbx => ?_⟩) ?_; rotate_left; (focus (obtain ⟨cx0, fx0, zx0⟩ := bk hbx (w.heap.size) (by first | omega | (simp; done) | (simp; omega)); obtain ⟨cx1, fx1, zx1⟩ := bk hbx (gt) (by first | omega | (simp; done) | (simp; omega)); go_simp; (try go_bits); (try with_reducible rfl))); try simp only [Act.put, List.setIfInBounds_toArray, List.set_cons_zero, List.set_cons_succ])
                (refine wpG_read (v := ?_) rfl (.inl ⟨by rfl, fun wx hbx => ?_⟩) ?_; rotate_left; (focus (obtain ⟨cx0, fx0, zx0⟩ := bk hbx (w.heap.size) (by first | omega | (simp; done) | (simp; omega)); obtain ⟨cx1, fx1, zx1⟩ := bk hbx (gt) (by first | omega | (simp; done) | (simp; omega)); go_simp; (try go_bits); (try with_reducible rfl))); try simp only [Act.put, List.setIfInBounds_toArray, List.set_cons_zero, List.set_cons_succ])
                (refine wpG_read (v := ?_) rfl (.inl ⟨by rfl, fun wx hbx => ?_⟩) ?_; rotate_left; (focus (obtain ⟨cx0, fx0, zx0⟩ := bk hbx (w.heap.size) (by first | omega | (simp; done) | (simp; omega)); obtain ⟨cx1, fx1, zx1⟩ := bk hbx (gt) (by first | omega | (simp; done) | (simp; omega)); go_simp; (try go_bits); (try with_reducible rfl))); try simp only [Act.put, List.setIfInBounds_toArray, List.set_cons_zero, List.set_cons_succ])
                (first | (refine wpG_pass rfl (by rfl) ?_; simp only [Act.put, List.setIfInBounds_toArray, List.set_cons_zero, List.set_cons_succ]) | (refine wpG_read (v := ?_) rfl (.inl ⟨by rfl, fun wx hbx => ?_⟩) ?_; rotate_left; (focus (obtain ⟨cx0, fx0, zx0⟩ := bk hbx (w.heap.size) (by first | omega | (simp; done) | (simp; omega)); obtain ⟨cx1, fx1, zx1⟩ := bk hbx (gt) (by first | omega | (simp; done) | (simp; omega)); go_simp; (try go_bits); (try with_reducible rfl))); try simp only [Act.put, List.setIfInBounds_toArray, List.set_cons_zero, List.set_cons_succ]))
                (first | (refine wpG_pass rfl (by rfl) ?_; simp only [Act.put, List.setIfInBounds_toArray, List.set_cons_zero, List.set_cons_succ]) | (refine wpG_read (v := ?_) rfl (.inl ⟨by rfl, fun wx hbx => ?_⟩) ?_; rotate_left; (focus (obtain ⟨cx0, fx0, zx0⟩ := bk hbx (w.heap.size) (by first | omega | (simp; done) | (simp; omega)); obtain ⟨cx1, fx1, zx1⟩ := bk hbx (gt) (by first | omega | (simp; done) | (simp; omega)); go_simp; (try go_bits); (try with_reducible rfl))); try simp only [Act.put, List.setIfInBounds_toArray, List.set_cons_zero, List.set_cons_succ]))
                (first | (refine wpG_pass rfl (by rfl) ?_; simp only [Act.put, List.setIfInBounds_toArray, List.set_cons_zero, List.set_cons_succ]) | (refine wpG_read (v := ?_) rfl (.inl ⟨by rfl, fun wx hbx => ?_⟩) ?_; rotate_left; (focus (obtain ⟨cx0, fx0, zx0⟩ := bk hbx (w.heap.size) (by first | omega | (simp; done) | (simp; omega)); obtain ⟨cx1, fx1, zx1⟩ := bk hbx (gt) (by first | omega | (simp; done) | (simp; omega)); go_simp; (try go_bits); (try with_reducible rfl))); try simp only [Act.put, List.setIfInBounds_toArray, List.set_cons_zero, List.set_cons_succ]))
                (first | (refine wpG_pass rfl (by rfl) ?_; simp only [Act.put, List.setIfInBounds_toArray, List.set_cons_zero, List.set_cons_succ]) | (refine wpG_read (v := ?_) rfl (.inl ⟨by rfl, fun wx hbx => ?_⟩) ?_; rotate_left; (focus (obtain ⟨cx0, fx0, zx0⟩ := bk hbx (w.heap.size) (by first | omega | (simp; done) | (simp; omega)); obtain ⟨cx1, fx1, zx1⟩ := bk hbx (gt) (by first | omega | (simp; done) | (simp; omega)); go_simp; (try go_bits); (try with_reducible rfl))); try simp only [Act.put, List.setIfInBounds_toArray, List.set_cons_zero, List.set_cons_succ]))
                (first | (refine wpG_pass rfl (by rfl) ?_; simp only [Act.put, List.setIfInBounds_toArray, List.set_cons_zero, List.set_cons_succ]) | (refine wpG_read (v := ?_) rfl (.inl ⟨by rfl, fun wx hbx => ?_⟩) ?_; rotate_left; (focus (obtain ⟨cx0, fx0, zx0⟩ := bk hbx (w.heap.size) (by first | omega | (simp; done) | (simp; omega)); obtain ⟨cx1, fx1, zx1⟩ := bk hbx (gt) (by first | omega | (simp; done) | (simp; omega)); go_simp; (try go_bits); (try with_reducible rfl))); try simp only [Act.put, List.setIfInBounds_toArray, List.set_cons_zero, List.set_cons_succ]))
                (first | (refine wpG_pass rfl (by rfl) ?_; simp only [Act.put, List.setIfInBounds_toArray, List.set_cons_zero, List.set_cons_succ]) | (refine wpG_read (v := ?_) rfl (.inl ⟨by rfl, fun wx hbx => ?_⟩) ?_; rotate_left; (focus (obtain ⟨cx0, fx0, zx0⟩ := bk hbx (w.heap.size) (by first | omega | (simp; done) | (simp; omega)); obtain ⟨cx1, fx1, zx1⟩ := bk hbx (gt) (by first | omega | (simp; done) | (simp; omega)); go_simp; (try go_bits); (try with_reducible rfl))); try simp only [Act.put, List.setIfInBounds_toArray, List.set_cons_zero, List.set_cons_succ]))
                (first | (refine wpG_pass rfl (by rfl) ?_; simp only [Act.put, List.setIfInBounds_toArray, List.set_cons_zero, List.set_cons_succ]) | (refine wpG_read (v := ?_) rfl (.inl ⟨by rfl, fun wx hbx => ?_⟩) ?_; rotate_left; (focus (obtain ⟨cx0, fx0, zx0⟩ := bk hbx (w.heap.size) (by first | omega | (simp; done) | (simp; omega)); obtain ⟨cx1, fx1, zx1⟩ := bk hbx (gt) (by first | omega | (simp; done) | (simp; omega)); go_simp; (try go_bits); (try with_reducible rfl))); try simp only [Act.put, List.setIfInBounds_toArray, List.set_cons_zero, List.set_cons_succ]))
                (first | (refine wpG_pass rfl (by rfl) ?_; simp only [Act.put, List.setIfInBounds_toArray, List.set_cons_zero, List.set_cons_succ]) | (refine wpG_read (v := ?_) rfl (.inl ⟨by rfl, fun wx hbx => ?_⟩) ?_; rotate_left; (focus (obtain ⟨cx0, fx0, zx0⟩ := bk hbx (w.heap.size) (by first | omega | (simp; done) | (simp; omega)); obtain ⟨cx1, fx1, zx1⟩ := bk hbx (gt) (by first | omega | (simp; done) | (simp; omega)); go_simp; (try go_bits); (try with_reducible rfl))); try simp only [Act.put, List.setIfInBounds_toArray, List.set_cons_zero, List.set_cons_succ]))
                (first | (refine wpG_pass rfl (by rfl) ?_; simp only [Act.put, List.setIfInBounds_toArray, List.set_cons_zero, List.set_cons_succ]) | (refine wpG_read (v := ?_) rfl (.inl ⟨by rfl, fun wx hbx => ?_⟩) ?_; rotate_left; (focus (obtain ⟨cx0, fx0, zx0⟩ := bk hbx (w.heap.size) (by first | omega | (simp; done) | (simp; omega)); obtain ⟨cx1, fx1, zx1⟩ := bk hbx (gt) (by first | omega | (simp; done) | (simp; omega)); go_simp; (try go_bits); (try with_reducible rfl))); try simp only [Act.put, List.setIfInBounds_toArray, List.set_cons_zero, List.set_cons_succ]))
                (first | (refine wpG_pass rfl (by rfl) ?_; simp only [Act.put, List.setIfInBounds_toArray, List.set_cons_zero, List.set_cons_succ]) | (refine wpG_read (v := ?_) rfl (.inl ⟨by rfl, fun wx hbx => ?_⟩) ?_; rotate_left; (focus (obtain ⟨cx0, fx0, zx0⟩ := bk hbx (w.heap.size) (by first | omega | (simp; done) | (simp; omega)); obtain ⟨cx1, fx1, zx1⟩ := bk hbx (gt) (by first | omega | (simp; done) | (simp; omega)); go_simp; (try go_bits); (try with_reducible rfl))); try simp only [Act.put, List.setIfInBounds_toArray, List.set_cons_zero, List.set_cons_succ]))
                (first | (refine wpG_pass rfl (by rfl) ?_; simp only [Act.put, List.setIfInBounds_toArray, List.set_cons_zero, List.set_cons_succ]) | (refine wpG_read (v := ?_) rfl (.inl ⟨by rfl, fun wx hbx => ?_⟩) ?_; rotate_left; (focus (obtain ⟨cx0, fx0, zx0⟩ := bk hbx (w.heap.size) (by first | omega | (simp; done) | (simp; omega)); obtain ⟨cx1, fx1, zx1⟩ := bk hbx (gt) (by first | omega | (simp; done) | (simp; omega)); go_simp; (try go_bits); (try with_reducible rfl))); try simp only [Act.put, List.setIfInBounds_toArray, List.set_cons_zero, List.set_cons_succ]))
                (first | (refine wpG_make rfl (fun K hK => ?_); go_simp; (with_reducible refine hK _ _ ?_ (fun hS2 => ?_)); (focus ((repeat' (first | (with_reducible exact Below.refl _ _) | (with_reducible assumption) | (with_reducible refine below_from_drew ?_) | (with_reducible refine Below.alloc ?_ ?_ _) | (with_reducible refine Below.drew ?_) | (with_reducible refine below_drewN ?_ _) | (with_reducible refine Below.setCell ?_ ?_ _) | (with_reducible refine below_via ?_ (by assumption) ?_) | (with_reducible refine below_ov ?_ ?_ _ _) | go_size)); done)); clear hK K hS; have hS := hS2; clear hS2; try simp only [Act.put, List.setIfInBounds_toArray, List.set_cons_zero, List.set_cons_succ]) | (refine wpG_make rfl (fun K hK => ?_); go_simp; (try simp only []); (try simp only []); refine hK _ _ ?_ (fun hS2 => ?_); (focus ((repeat' (first | (with_reducible exact Below.refl _ _) | (with_reducible assumption) | (with_reducible refine below_from_drew ?_) | (with_reducible refine Below.alloc ?_ ?_ _) | (with_reducible refine Below.drew ?_) | (with_reducible refine below_drewN ?_ _) | (with_reducible refine Below.setCell ?_ ?_ _) | (with_reducible refine below_via ?_ (by assumption) ?_) | (with_reducible refine below_ov ?_ ?_ _ _) | go_size)); done)); clear hK K hS; have hS := hS2; clear hS2; (try clear hb); try simp only [Act.put, List.setIfInBounds_toArray, List.set_cons_zero, List.set_cons_succ]))
                (refine wpG_read (v := ?_) rfl (.inl ⟨by rfl, fun wx hbx => ?_⟩) ?_; rotate_left; (focus (obtain ⟨cx0, fx0, zx0⟩ := bk hbx (w.heap.size) (by first | omega | (simp; done) | (simp; omega)); obtain ⟨cx1, fx1, zx1⟩ := bk hbx (gt) (by first | omega | (simp; done) | (simp; omega)); go_simp; (try go_bits); (try with_reducible rfl))); try simp only [Act.put, List.setIfInBounds_toArray, List.set_cons_zero, List.set_cons_succ])
                refine wpG_nil ?_
                (try go_wp2_with fail)
                go_meet
                exact ⟨by rw [HV.out], by (repeat' (first | (with_reducible exact Below.refl _ _) | (with_reducible assumption) | (with_reducible refine below_from_drew ?_) | (with_reducible refine Below.alloc ?_ ?_ _) | (with_reducible refine Below.drew ?_) | (with_reducible refine below_drewN ?_ _) | (with_reducible refine Below.setCell ?_ ?_ _) | (with_reducible refine below_via ?_ (by assumption) ?_) | (with_reducible refine below_ov ?_ ?_ _ _) | go_size))⟩
              · have dI : (0 : Int) < k := by omega
                have dn : ¬ k = 0 := by omega
                obtain ⟨go, ko, ego, _, zgo, hoc⟩ := HO2.out.cells (by omega)
                cases ego
                have q2 := hoc (k - 1) (by omega)
                have hy := HAB.out (O.getD (k - 1) 0) (by rw [HOE.out]; simp [List.getD_eq_getElem?_getD, show k - 1 < O.length by omega])
                have HV := Lib.hid (show tstB (aheadN (pa26 l) N (ctx26 l) (z26 l)) x k O = aheadN (pa26 l) N (ctx26 l) (z26 l) x (O.getD (k - 1) 0) by unfold tstB; rw [decide_eq_true d]; rfl)
                obtain ⟨y, hye⟩ : ∃ y, O.getD (k - 1) 0 = y := ⟨_, rfl⟩
                rw [hye] at q2 hy HV
                have HK := Lib.hid (HKA.out y hy)
                obtain ⟨b, hb⟩ : ∃ b, aheadN (pa26 l) N (ctx26 l) (z26 l) x y = b := ⟨_, rfl⟩
                rw [hb] at HK HV
                have og : Old wr go := zgo
                have ek : (k : Int) - 1 = ((k - 1 : Nat) : Int) := by omega
                have w2 : (0 : Int) ≤ ((k - 1 : Nat) : Int) := by omega
                have w3 : ((k - 1 : Nat) : Int) < (O.length : Nat) := by omega
                clear hoc hye hb
                refine region_ord [(0, 0), (1, 0), (2, 0), (3, 0), (4, 0), (5, 0), (6, 0), (7, 0), (8, 0), (9, 0), (10, 0), (11, 0), (12, 0), (13, 0), (14, 1), (15, 0)] (by kernel_rfl) (by kernel_rfl) (fun _ _ d _ _ h => by cases d <;> exact h) (fun hS => ?_)
                (refine wpG_read (v := ?_) rfl (.inl ⟨by rfl, fun wx hbx => ?_⟩) ?_; rotate_left; (focus (obtain ⟨cx0, fx0, zx0⟩ := bk hbx (w.heap.size) (by first | omega | (simp; done) | (simp; omega)); obtain ⟨cx1, fx1, zx1⟩ := bk hbx (gt) (by first | omega | (simp; done) | (simp; omega)); obtain ⟨cx2, fx2, zx2⟩ := bk hbx (go) (by first | omega | (simp; done) | (simp; omega)); go_simp; (try go_bits); (try with_reducible rfl))); try simp only [Act.put, List.setIfInBounds_toArray, List.set_cons_zero, List.set_cons_succ])
                (refine wpG_read (v := ?_) rfl (.inl ⟨by rfl, fun wx hbx => ?_⟩) ?_; rotate_left; (focus (obtain ⟨cx0, fx0, zx0⟩ := bk hbx (w.heap.size) (by first | omega | (simp; done) | (simp; omega)); obtain ⟨cx1, fx1, zx1⟩ := bk hbx (gt) (by first | omega | (simp; done) | (simp; omega)); obtain ⟨cx2, fx2, zx2⟩ := bk hbx (go) (by first | omega | (simp; done) | (simp; omega)); go_simp; (try go_bits); (try with_reducible rfl))); try simp only [Act.put, List.setIfInBounds_toArray, List.set_cons_zero, List.set_cons_succ])
                (refine wpG_read (v := ?_) rfl (.inl ⟨by rfl, fun wx hbx => ?_⟩) ?_; rotate_left; (focus (obtain ⟨cx0, fx0, zx0⟩ := bk hbx (w.heap.size) (by first | omega | (simp; done) | (simp; omega)); obtain ⟨cx1, fx1, zx1⟩ := bk hbx (gt) (by first | omega | (simp; done) | (simp; omega)); obtain ⟨cx2, fx2, zx2⟩ := bk hbx (go) (by first | omega | (simp; done) | (simp; omega)); go_simp; (try go_bits); (try with_reducible rfl))); try simp only [Act.put, List.setIfInBounds_toArray, List.set_cons_zero, List.set_cons_succ])
                (first | (refine wpG_pass rfl (by rfl) ?_; simp only [Act.put, List.setIfInBounds_toArray, List.set_cons_zero, List.set_cons_succ]) | (refine wpG_read (v := ?_) rfl (.inl ⟨by rfl, fun wx hbx => ?_⟩) ?_; rotate_left; (focus (obtain ⟨cx0, fx0, zx0⟩ := bk hbx (w.heap.size) (by first | omega | (simp; done) | (simp; omega)); obtain ⟨cx1, fx1, zx1⟩ := bk hbx (gt) (by first | omega | (simp; done) | (simp; omega)); obtain ⟨cx2, fx2, zx2⟩ := bk hbx (go) (by first | omega | (simp; done) | (simp; omega)); go_simp; (try go_bits); (try with_reducible rfl))); try simp only [Act.put, List.setIfInBounds_toArray, List.set_cons_zero, List.set_cons_succ]))
                (first | (refine wpG_pass rfl (by rfl) ?_; simp only [Act.put, List.setIfInBounds_toArray, List.set_cons_zero, List.set_cons_succ]) | (refine wpG_read (v := ?_) rfl (.inl ⟨by rfl, fun wx hbx => ?_⟩) ?_; rotate_left; (focus (obtain ⟨cx0, fx0, zx0⟩ := bk hbx (w.heap.size) (by first | omega | (simp; done) | (simp; omega)); obtain ⟨cx1, fx1, zx1⟩ := bk hbx (gt) (by first | omega | (simp; done) | (simp; omega)); obtain ⟨cx2, fx2, zx2⟩ := bk hbx (go) (by first | omega | (simp; done) | (simp; omega)); go_simp; (try go_bits); (try with_reducible rfl))); try simp only [Act.put, List.setIfInBounds_toArray, List.set_cons_zero, List.set_cons_succ]))
                (first | (refine wpG_pass rfl (by rfl) ?_; simp only [Act.put, List.setIfInBounds_toArray, List.set_cons_zero, List.set_cons_succ]) | (refine wpG_read (v := ?_) rfl (.inl ⟨by rfl, fun wx hbx => ?_⟩) ?_; rotate_left; (focus (obtain ⟨cx0, fx0, zx0⟩ := bk hbx (w.heap.size) (by first | omega | (simp; done) | (simp; omega)); obtain ⟨cx1, fx1, zx1⟩ := bk hbx (gt) (by first | omega | (simp; done) | (simp; omega)); obtain ⟨cx2, fx2, zx2⟩ := bk hbx (go) (by first | omega | (simp; done) | (simp; omega)); go_simp; (try go_bits); (try with_reducible rfl))); try simp only [Act.put, List.setIfInBounds_toArray, List.set_cons_zero, List.set_cons_succ]))
                (first | (refine wpG_pass rfl (by rfl) ?_; simp only [Act.put, List.setIfInBounds_toArray, List.set_cons_zero, List.set_cons_succ]) | (refine wpG_read (v := ?_) rfl (.inl ⟨by rfl, fun wx hbx => ?_⟩) ?_; rotate_left; (focus (obtain ⟨cx0, fx0, zx0⟩ := bk hbx (w.heap.size) (by first | omega | (simp; done) | (simp; omega)); obtain ⟨cx1, fx1, zx1⟩ := bk hbx (gt) (by first | omega | (simp; done) | (simp; omega)); obtain ⟨cx2, fx2, zx2⟩ := bk hbx (go) (by first | omega | (simp; done) | (simp; omega)); go_simp; (try go_bits); (try with_reducible rfl))); try simp only [Act.put, List.setIfInBounds_toArray, List.set_cons_zero, List.set_cons_succ]))
                (first | (refine wpG_pass rfl (by rfl) ?_; simp only [Act.put, List.setIfInBounds_toArray, List.set_cons_zero, List.set_cons_succ]) | (refine wpG_read (v := ?_) rfl (.inl ⟨by rfl, fun wx hbx => ?_⟩) ?_; rotate_left; (focus (obtain ⟨cx0, fx0, zx0⟩ := bk hbx (w.heap.size) (by first | omega | (simp; done) | (simp; omega)); obtain ⟨cx1, fx1, zx1⟩ := bk hbx (gt) (by first | omega | (simp; done) | (simp; omega)); obtain ⟨cx2, fx2, zx2⟩ := bk hbx (go) (by first | omega | (simp; done) | (simp; omega)); go_simp; (try go_bits); (try with_reducible rfl))); try simp only [Act.put, List.setIfInBounds_toArray, List.set_cons_zero, List.set_cons_succ]))
                (first | (refine wpG_pass rfl (by rfl) ?_; simp only [Act.put, List.setIfInBounds_toArray, List.set_cons_zero, List.set_cons_succ]) | (refine wpG_read (v := ?_) rfl (.inl ⟨by rfl, fun wx hbx => ?_⟩) ?_; rotate_left; (focus (obtain ⟨cx0, fx0, zx0⟩ := bk hbx (w.heap.size) (by first | omega | (simp; done) | (simp; omega)); obtain ⟨cx1, fx1, zx1⟩ := bk hbx (gt) (by first | omega | (simp; done) | (simp; omega)); obtain ⟨cx2, fx2, zx2⟩ := bk hbx (go) (by first | omega | (simp; done) | (simp; omega)); go_simp; (try go_bits); (try with_reducible rfl))); try simp only [Act.put, List.setIfInBounds_toArray, List.set_cons_zero, List.set_cons_succ]))
                (first | (refine wpG_pass rfl (by rfl) ?_; simp only [Act.put, List.setIfInBounds_toArray, List.set_cons_zero, List.set_cons_succ]) | (refine wpG_read (v := ?_) rfl (.inl ⟨by rfl, fun wx hbx => ?_⟩) ?_; rotate_left; (focus (obtain ⟨cx0, fx0, zx0⟩ := bk hbx (w.heap.size) (by first | omega | (simp; done) | (simp; omega)); obtain ⟨cx1, fx1, zx1⟩ := bk hbx (gt) (by first | omega | (simp; done) | (simp; omega)); obtain ⟨cx2, fx2, zx2⟩ := bk hbx (go) (by first | omega | (simp; done) | (simp; omega)); go_simp; (try go_bits); (try with_reducible rfl))); try simp only [Act.put, List.setIfInBounds_toArray, List.set_cons_zero, List.set_cons_succ]))
                (first | (refine wpG_pass rfl (by rfl) ?_; simp only [Act.put, List.setIfInBounds_toArray, List.set_cons_zero, List.set_cons_succ]) | (refine wpG_read (v := ?_) rfl (.inl ⟨by rfl, fun wx hbx => ?_⟩) ?_; rotate_left; (focus (obtain ⟨cx0, fx0, zx0⟩ := bk hbx (w.heap.size) (by first | omega | (simp; done) | (simp; omega)); obtain ⟨cx1, fx1, zx1⟩ := bk hbx (gt) (by first | omega | (simp; done) | (simp; omega)); obtain ⟨cx2, fx2, zx2⟩ := bk hbx (go) (by first | omega | (simp; done) | (simp; omega)); go_simp; (try go_bits); (try with_reducible rfl))); try simp only [Act.put, List.setIfInBounds_toArray, List.set_cons_zero, List.set_cons_succ]))
                (first | (refine wpG_pass rfl (by rfl) ?_; simp only [Act.put, List.setIfInBounds_toArray, List.set_cons_zero, List.set_cons_succ]) | (refine wpG_read (v := ?_) rfl (.inl ⟨by rfl, fun wx hbx => ?_⟩) ?_; rotate_left; (focus (obtain ⟨cx0, fx0, zx0⟩ := bk hbx (w.heap.size) (by first | omega | (simp; done) | (simp; omega)); obtain ⟨cx1, fx1, zx1⟩ := bk hbx (gt) (by first | omega | (simp; done) | (simp; omega)); obtain ⟨cx2, fx2, zx2⟩ := bk hbx (go) (by first | omega | (simp; done) | (simp; omega)); go_simp; (try go_bits); (try with_reducible rfl))); try simp only [Act.put, List.setIfInBounds_toArray, List.set_cons_zero, List.set_cons_succ]))
                (first | (refine wpG_pass rfl (by rfl) ?_; simp only [Act.put, List.setIfInBounds_toArray, List.set_cons_zero, List.set_cons_succ]) | (refine wpG_read (v := ?_) rfl (.inl ⟨by rfl, fun wx hbx => ?_⟩) ?_; rotate_left; (focus (obtain ⟨cx0, fx0, zx0⟩ := bk hbx (w.heap.size) (by first | omega | (simp; done) | (simp; omega)); obtain ⟨cx1, fx1, zx1⟩ := bk hbx (gt) (by first | omega | (simp; done) | (simp; omega)); obtain ⟨cx2, fx2, zx2⟩ := bk hbx (go) (by first | omega | (simp; done) | (simp; omega)); go_simp; (try go_bits); (try with_reducible rfl))); try simp only [Act.put, List.setIfInBounds_toArray, List.set_cons_zero, List.set_cons_succ]))
                (first | (refine wpG_pass rfl (by rfl) ?_; simp only [Act.put, List.setIfInBounds_toArray, List.set_cons_zero, List.set_cons_succ]) | (refine wpG_read (v := ?_) rfl (.inl ⟨by rfl, fun wx hbx => ?_⟩) ?_; rotate_left; (focus (obtain ⟨cx0, fx0, zx0⟩ := bk hbx (w.heap.size) (by first | omega | (simp; done) | (simp; omega)); obtain ⟨cx1, fx1, zx1⟩ := bk hbx (gt) (by first | omega | (simp; done) | (simp; omega)); obtain ⟨cx2, fx2, zx2⟩ := bk hbx (go) (by first | omega | (simp; done) | (simp; omega)); go_simp; (try go_bits); (try with_reducible rfl))); try simp only [Act.put, List.setIfInBounds_toArray, List.set_cons_zero, List.set_cons_succ]))
                (first | (refine wpG_make rfl (fun K hK => ?_); go_simp; (with_reducible refine hK _ _ ?_ (fun hS2 => ?_)); (focus ((repeat' (first | (with_reducible exact Below.refl _ _) | (with_reducible assumption) | (with_reducible refine below_from_drew ?_) | (with_reducible refine Below.alloc ?_ ?_ _) | (with_reducible refine Below.drew ?_) | (with_reducible refine below_drewN ?_ _) | (with_reducible refine Below.setCell ?_ ?_ _) | (with_reducible refine below_via ?_ (by assumption) ?_) | (with_reducible refine below_ov ?_ ?_ _ _) | go_size)); done)); clear hK K hS; have hS := hS2; clear hS2; try simp only [Act.put, List.setIfInBounds_toArray, List.set_cons_zero, List.set_cons_succ]) | (refine wpG_make rfl (fun K hK => ?_); go_simp; (go_at_call 41; (with_reducible refine (HK.out _ (by (repeat' (first | (with_reducible exact Below.refl _ _) | (with_reducible assumption) | (with_reducible refine below_from_drew ?_) | (with_reducible refine Below.alloc ?_ ?_ _) | (with_reducible refine Below.drew ?_) | (with_reducible refine below_drewN ?_ _) | (with_reducible refine Below.setCell ?_ ?_ _) | (with_reducible refine below_via ?_ (by assumption) ?_) | (with_reducible refine below_ov ?_ ?_ _ _) | go_size)))).mono ?_); rintro e u5 ⟨rfl, hb⟩; have hz := hb.size; refine (fun hB => ?_ : Below wr.heap.size wr u5 → _) ?_; rotate_left; (focus ((repeat' (first | (with_reducible exact Below.refl _ _) | (with_reducible assumption) | (with_reducible refine below_from_drew ?_) | (with_reducible refine Below.alloc ?_ ?_ _) | (with_reducible refine Below.drew ?_) | (with_reducible refine below_drewN ?_ _) | (with_reducible refine Below.setCell ?_ ?_ _) | (with_reducible refine below_via ?_ (by assumption) ?_) | (with_reducible refine below_ov ?_ ?_ _ _) | go_size)); done)); (try simp only [World.size_alloc, World.size_setCell, World.size_drew, ov_size] at hz)); (try simp only []); refine hK _ _ ?_ (fun hS2 => ?_); (focus ((repeat' (first | (with_reducible exact Below.refl _ _) | (with_reducible assumption) | (with_reducible refine below_from_drew ?_) | (with_reducible refine Below.alloc ?_ ?_ _) | (with_reducible refine Below.drew ?_) | (with_reducible refine below_drewN ?_ _) | (with_reducible refine Below.setCell ?_ ?_ _) | (with_reducible refine below_via ?_ (by assumption) ?_) | (with_reducible refine below_ov ?_ ?_ _ _) | go_size)); done)); clear hK K hS; have hS := hS2; clear hS2; (try clear hb); try simp only [Act.put, List.setIfInBounds_toArray, List.set_cons_zero, List.set_cons_succ]))
                (refine wpG_read (v := ?_) rfl (.inl ⟨by rfl, fun wx hbx => ?_⟩) ?_; rotate_left; (focus (obtain ⟨cx0, fx0, zx0⟩ := bk hbx (w.heap.size) (by first | omega | (simp; done) | (simp; omega)); obtain ⟨cx1, fx1, zx1⟩ := bk hbx (gt) (by first | omega | (simp; done) | (simp; omega)); obtain ⟨cx2, fx2, zx2⟩ := bk hbx (go) (by first | omega | (simp; done) | (simp; omega)); go_simp; (try go_bits); (try with_reducible rfl))); try simp only [Act.put, List.setIfInBounds_toArray, List.set_cons_zero, List.set_cons_succ])
                refine wpG_nil ?_
                (try go_wp2_with fail)
                go_meet
                exact ⟨by rw [HV.out], by (repeat' (first | (with_reducible exact Below.refl _ _) | (with_reducible assumption) | (with_reducible refine below_from_drew ?_) | (with_reducible refine Below.alloc ?_ ?_ _) | (with_reducible refine Below.drew ?_) | (with_reducible refine below_drewN ?_ _) | (with_reducible refine Below.setCell ?_ ?_ _) | (with_reducible refine below_via ?_ (by assumption) ?_) | (with_reducible refine below_ov ?_ ?_ _ _) | go_size))⟩
            case rest =>
              obtain ⟨rfl, hbc⟩ := hcut
              clear HKA HQ2 cp lp op ogt2
              have HBC := Lib.hid hbc
              have HO3 := Lib.hid (HO2.out.below hbc)
              have HB4 := Lib.hid (HB2.out.trans (hbc.mono hs2))
              have hs3 := hbc.size
              clear hbc
              cases hcb : tstB (aheadN (pa26 l) N (ctx26 l) (z26 l)) x k O with
              | true =>
                unfold tstB at hcb
                rw [Bool.and_eq_true] at hcb
                have h1 : 0 < k := by simpa using hcb.1
                have h2 := among_more has.out (A := A) (B := B) (x := x) (k := k) HA.out (by rw [HOE.out]; exact hk2) h1 (by rw [HOE.out]; exact hcb.2)
                have w1 : (k : Int) - 1 = ((k - 1 : Nat) : Int) := by omega
                clear hcb
                go_wp2_with fail
                go_roundw
                case rel => exact ⟨k - 1, rfl, h2, by omega, HB4.out⟩
                case measure => simp [intOf]; omega
              | false =>
                have he : A.length = k := by
                  refine (among_end (ah := aheadN (pa26 l) N (ctx26 l) (z26 l)) has.out (A := A) (B := B) (x := x) (k := k) HA.out hk1 (by rw [HOE.out]; exact hk2) ?_ HB.out).symm
                  unfold tstB at hcb
                  rcases Nat.eq_zero_or_pos k with d | d
                  · exact .inl d
                  · rw [decide_eq_true d, Bool.true_and] at hcb
                    exact .inr ⟨d, by rw [HOE.out]; exact hcb⟩
                subst he
                clear hcb
                go_upto_region 14 with fail
                obtain ⟨a1, c1, hs1, hn1⟩ := HO3.out.front (k := A.length) hk2
                obtain ⟨a2, c2, hs2', hn2⟩ := HO3.out.back (k := A.length) hk2
                have eA : O.take A.length = A := by rw [← HOE.out]; simp
                have eB : O.drop A.length = B := by rw [← HOE.out]; simp
                rw [eA] at hs1 hn1
                rw [eB] at hs2' hn2
                have q1 : wc.cell? ⟨gt, j, none⟩ = some (.int .i64 (x : Int)) := (HB4.out.cell (p := ⟨gt, j, none⟩) HGO.out).trans HQ1.out
                have ogt : Old wc gt := Nat.lt_of_lt_of_le HGO.out HB4.out.size
                have hAl : A.length ≤ 60 := by omega
                have hBl : B.length ≤ 60 := by have := congrArg List.length HOE.out; rw [List.length_append] at this; omega
                clear eA eB
                refine region_tree (.rd 1 (.rd 2 (.rd 3 (.rd 5 (.rd 6 (.rd 7 (.rd 8 (.rd 11 (.rd 12 (.rd 13 (.br 0 (.br 4 (.mk 9 (.mk 10 (.mk 14 (.rd 15 .nl)))) (.mk 9 (.mk 4 (.mk 10 (.mk 14 (.rd 15 .nl)))))) (.mk 9 (.mk 0 (.mk 4 (.mk 10 (.mk 14 (.rd 15 .nl))))))))))))))))) (by kernel_rfl) (by kernel_rfl) (fun _ _ d _ _ h => by cases d <;> exact h) (fun hS => ?_)
                generalize hX : wc.drew = X at *; replace hn1 : NatsO X a1 A := (by rw [← hX]; exact hn1); replace hn2 : NatsO X a2 B := (by rw [← hX]; exact hn2); replace q1 : X.cell? ⟨gt, j, none⟩ = some (.int .i64 (x : Int)) := (by rw [← hX]; exact q1); replace ogt : Old X gt := (by rw [← hX]; exact ogt); have HX := Lib.hid hX; clear hX; have lgt : gt < X.heap.size := ogt
                (refine wpT_read (v := ?_) rfl (.inl ⟨by rfl, fun wx hbx => ?_⟩) ?_; rotate_left; (focus (obtain ⟨cx0, fx0, zx0⟩ := bk hbx (gt) (by first | omega | (simp; done) | (simp; omega)); go_simp; (try go_bits); (try with_reducible rfl))); try simp only [Act.put, List.setIfInBounds_toArray, List.set_cons_zero, List.set_cons_succ])
                (refine wpT_read (v := ?_) rfl (.inl ⟨by rfl, fun wx hbx => ?_⟩) ?_; rotate_left; (focus (obtain ⟨cx0, fx0, zx0⟩ := bk hbx (gt) (by first | omega | (simp; done) | (simp; omega)); go_simp; (try go_bits); (try with_reducible rfl))); try simp only [Act.put, List.setIfInBounds_toArray, List.set_cons_zero, List.set_cons_succ])
                (refine wpT_read (v := ?_) rfl (.inl ⟨by rfl, fun wx hbx => ?_⟩) ?_; rotate_left; (focus (obtain ⟨cx0, fx0, zx0⟩ := bk hbx (gt) (by first | omega | (simp; done) | (simp; omega)); go_simp; (try go_bits); (try with_reducible rfl))); try simp only [Act.put, List.setIfInBounds_toArray, List.set_cons_zero, List.set_cons_succ])
                (refine wpT_read (v := ?_) rfl (.inl ⟨by rfl, fun wx hbx => ?_⟩) ?_; rotate_left; (focus (obtain ⟨cx0, fx0, zx0⟩ := bk hbx (gt) (by first | omega | (simp; done) | (simp; omega)); go_simp; (try go_bits); (try with_reducible rfl))); try simp only [Act.put, List.setIfInBounds_toArray, List.set_cons_zero, List.set_cons_succ])
                (refine wpT_read (v := ?_) rfl (.inl ⟨by rfl, fun wx hbx => ?_⟩) ?_; rotate_left; (focus (obtain ⟨cx0, fx0, zx0⟩ := bk hbx (gt) (by first | omega | (simp; done) | (simp; omega)); go_simp; (try go_bits); (try with_reducible rfl))); try simp only [Act.put, List.setIfInBounds_toArray, List.set_cons_zero, List.set_cons_succ])
                (refine wpT_read (v := ?_) rfl (.inl ⟨by rfl, fun wx hbx => ?_⟩) ?_; rotate_left; (focus (obtain ⟨cx0, fx0, zx0⟩ := bk hbx (gt) (by first | omega | (simp; done) | (simp; omega)); go_simp; (try go_bits); (try with_reducible rfl))); try simp only [Act.put, List.setIfInBounds_toArray, List.set_cons_zero, List.set_cons_succ])
                (refine wpT_read (v := ?_) rfl (.inl ⟨by rfl, fun wx hbx => ?_⟩) ?_; rotate_left; (focus (obtain ⟨cx0, fx0, zx0⟩ := bk hbx (gt) (by first | omega | (simp; done) | (simp; omega)); go_simp; (try go_bits); (try with_reducible rfl))); try simp only [Act.put, List.setIfInBounds_toArray, List.set_cons_zero, List.set_cons_succ])
                (refine wpT_read (v := ?_) rfl (.inl ⟨by rfl, fun wx hbx => ?_⟩) ?_; rotate_left; (focus (obtain ⟨cx0, fx0, zx0⟩ := bk hbx (gt) (by first | omega | (simp; done) | (simp; omega)); go_simp; (try go_bits); (try with_reducible rfl))); try simp only [Act.put, List.setIfInBounds_toArray, List.set_cons_zero, List.set_cons_succ])
                (refine wpT_read (v := ?_) rfl (.inl ⟨by rfl, fun wx hbx => ?_⟩) ?_; rotate_left; (focus (obtain ⟨cx0, fx0, zx0⟩ := bk hbx (gt) (by first | omega | (simp; done) | (simp; omega)); go_simp; (try go_bits); (try with_reducible rfl))); try simp only [Act.put, List.setIfInBounds_toArray, List.set_cons_zero, List.set_cons_succ])
                (refine wpT_read (v := ?_) rfl (.inl ⟨by rfl, fun wx hbx => ?_⟩) ?_; rotate_left; (focus (obtain ⟨cx0, fx0, zx0⟩ := bk hbx (gt) (by first | omega | (simp; done) | (simp; omega)); go_simp; (try go_bits); (try with_reducible rfl))); try simp only [Act.put, List.setIfInBounds_toArray, List.set_cons_zero, List.set_cons_succ])
                refine wpT_both rfl (fun K hK => ?_) ?_
                (focus ((have ho0 := own0 hS; (try simp only [World.size_alloc] at ho0); go_simp; refine hK _ _ (hS.alloc hS.size _) (fun hS2 => ?_); clear hK K hS; have hS := hS2; clear hS2; (try simp only [Act.put, List.setIfInBounds_toArray, List.set_cons_zero, List.set_cons_succ]); try replace hn9 := hn9.below ((Below.refl _ _).alloc (Nat.le_refl _) (.cells #[] 3))); refine wpT_both rfl (fun K hK => ?_) ?_; (focus ((rw [if_pos (by rfl)]; refine wp_app_cells _ _ _ rfl X.heap.size (.slice (some ⟨_, 0, none⟩) 0 0) [] A a1 c1 rfl ho0 rfl (hn1.below hS) (by simp; omega) hS.size ?_; intro v4 w4 hown4 hgrow4; have hb4 := Below.grown hS hgrow4 hS.size (fun bb h => row_block ho0 bb h); (try replace hn9 := hn9.grown hgrow4 (fun g hg h => by obtain ⟨o, e⟩ := hg; simp [Value.ownBlock] at h e; omega)); refine hK _ _ hb4 (fun hS2 => ?_); clear hK K hS; have hS := hS2; clear hS2 hgrow4 ho0 hb4; (try simp only [Act.put, List.setIfInBounds_toArray, List.set_cons_zero, List.set_cons_succ])); (refine wpT_make rfl (fun K hK => ?_); have hn9 := nat9 hS x; (try simp only [World.size_alloc] at hn9); go_simp; refine hK _ _ (hS.alloc hS.size _) (fun hS2 => ?_); clear hK K hS; have hS := hS2; clear hS2; (try simp only [Act.put, List.setIfInBounds_toArray, List.set_cons_zero, List.set_cons_succ]); (try replace ho0 := ho0.below ((Below.refl _ _).alloc (Nat.le_refl _) (.cells #[.int .i64 (x : Int)] 3))); (try replace hown4 := hown4.below ((Below.refl _ _).alloc (Nat.le_refl _) (.cells #[.int .i64 (x : Int)] 3)))); (refine wpT_make rfl (fun K hK => ?_); rw [if_pos (by rfl)]; refine wp_app_cells _ _ _ rfl X.heap.size _ _ [x] _ 1 rfl hown4 rfl hn9 (by simp; omega) hS.size ?_; intro v10 w10 hown10 hgrow10; have hb10 := Below.grown hS hgrow10 hS.size (fun bb h => row_block hown4 bb h); refine hK _ _ hb10 (fun hS2 => ?_); clear hK K hS; have hS := hS2; clear hS2 hgrow10 hown4 hb10 hn9; (try simp only [Act.put, List.setIfInBounds_toArray, List.set_cons_zero, List.set_cons_succ])); (refine wpT_make rfl (fun K hK => ?_); rw [if_pos (by rfl)]; refine wp_app_cells _ _ _ rfl X.heap.size _ _ B a2 c2 rfl hown10 rfl (hn2.below hS) (by simp; omega) hS.size ?_; intro v14 w14 hown14 hgrow14; have hb14 := Below.grown hS hgrow14 hS.size (fun bb h => row_block hown10 bb h); refine hK _ _ hb14 (fun hS2 => ?_); clear hK K hS; have hS := hS2; clear hS2 hgrow14 hown10 hb14; (try simp only [Act.put, List.setIfInBounds_toArray, List.set_cons_zero, List.set_cons_succ])); (refine wpT_read (v := ?_) rfl (.inl ⟨by rfl, fun wx hbx => ?_⟩) ?_; rotate_left; (focus (obtain ⟨cx0, fx0, zx0⟩ := bk hbx (gt) (by first | omega | (simp; done) | (simp; omega)); go_simp; (try go_bits); (try with_reducible rfl))); try simp only [Act.put, List.setIfInBounds_toArray, List.set_cons_zero, List.set_cons_succ]); refine wpT_nil ?_)); rotate_left 1; (focus (refine wpT_make rfl (fun K hK => ?_); (have hn9 := nat9 hS x; (try simp only [World.size_alloc] at hn9); go_simp; refine hK _ _ (hS.alloc hS.size _) (fun hS2 => ?_); clear hK K hS; have hS := hS2; clear hS2; (try simp only [Act.put, List.setIfInBounds_toArray, List.set_cons_zero, List.set_cons_succ]); (try replace ho0 := ho0.below ((Below.refl _ _).alloc (Nat.le_refl _) (.cells #[.int .i64 (x : Int)] 3))); (try replace hown4 := hown4.below ((Below.refl _ _).alloc (Nat.le_refl _) (.cells #[.int .i64 (x : Int)] 3)))); (refine wpT_make rfl (fun K hK => ?_); rw [if_pos (by rfl)]; refine wp_app_cells _ _ _ rfl X.heap.size (.slice (some ⟨_, 0, none⟩) 0 0) [] A a1 c1 rfl ho0 rfl (hn1.below hS) (by simp; omega) hS.size ?_; intro v4 w4 hown4 hgrow4; have hb4 := Below.grown hS hgrow4 hS.size (fun bb h => row_block ho0 bb h); (try replace hn9 := hn9.grown hgrow4 (fun g hg h => by obtain ⟨o, e⟩ := hg; simp [Value.ownBlock] at h e; omega)); refine hK _ _ hb4 (fun hS2 => ?_); clear hK K hS; have hS := hS2; clear hS2 hgrow4 ho0 hb4; (try simp only [Act.put, List.setIfInBounds_toArray, List.set_cons_zero, List.set_cons_succ])); (refine wpT_make rfl (fun K hK => ?_); rw [if_pos (by rfl)]; refine wp_app_cells _ _ _ rfl X.heap.size _ _ [x] _ 1 rfl hown4 rfl hn9 (by simp; omega) hS.size ?_; intro v10 w10 hown10 hgrow10; have hb10 := Below.grown hS hgrow10 hS.size (fun bb h => row_block hown4 bb h); refine hK _ _ hb10 (fun hS2 => ?_); clear hK K hS; have hS := hS2; clear hS2 hgrow10 hown4 hb10 hn9; (try simp only [Act.put, List.setIfInBounds_toArray, List.set_cons_zero, List.set_cons_succ])); (refine wpT_make rfl (fun K hK => ?_); rw [if_pos (by rfl)]; refine wp_app_cells _ _ _ rfl X.heap.size _ _ B a2 c2 rfl hown10 rfl (hn2.below hS) (by simp; omega) hS.size ?_; intro v14 w14 hown14 hgrow14; have hb14 := Below.grown hS hgrow14 hS.size (fun bb h => row_block hown10 bb h); refine hK _ _ hb14 (fun hS2 => ?_); clear hK K hS; have hS := hS2; clear hS2 hgrow14 hown10 hb14; (try simp only [Act.put, List.setIfInBounds_toArray, List.set_cons_zero, List.set_cons_succ])); (refine wpT_read (v := ?_) rfl (.inl ⟨by rfl, fun wx hbx => ?_⟩) ?_; rotate_left; (focus (obtain ⟨cx0, fx0, zx0⟩ := bk hbx (gt) (by first | omega | (simp; done) | (simp; omega)); go_simp; (try go_bits); (try with_reducible rfl))); try simp only [Act.put, List.setIfInBounds_toArray, List.set_cons_zero, List.set_cons_succ]); refine wpT_nil ?_))))
                rotate_left 2
                (focus (refine wpT_make rfl (fun K hK => ?_); (have hn9 := nat9 hS x; (try simp only [World.size_alloc] at hn9); go_simp; refine hK _ _ (hS.alloc hS.size _) (fun hS2 => ?_); clear hK K hS; have hS := hS2; clear hS2; (try simp only [Act.put, List.setIfInBounds_toArray, List.set_cons_zero, List.set_cons_succ]); (try replace ho0 := ho0.below ((Below.refl _ _).alloc (Nat.le_refl _) (.cells #[.int .i64 (x : Int)] 3))); (try replace hown4 := hown4.below ((Below.refl _ _).alloc (Nat.le_refl _) (.cells #[.int .i64 (x : Int)] 3)))); (refine wpT_make rfl (fun K hK => ?_); have ho0 := own0 hS; (try simp only [World.size_alloc] at ho0); go_simp; refine hK _ _ (hS.alloc hS.size _) (fun hS2 => ?_); clear hK K hS; have hS := hS2; clear hS2; (try simp only [Act.put, List.setIfInBounds_toArray, List.set_cons_zero, List.set_cons_succ]); try replace hn9 := hn9.below ((Below.refl _ _).alloc (Nat.le_refl _) (.cells #[] 3))); (refine wpT_make rfl (fun K hK => ?_); rw [if_pos (by rfl)]; refine wp_app_cells _ _ _ rfl X.heap.size (.slice (some ⟨_, 0, none⟩) 0 0) [] A a1 c1 rfl ho0 rfl (hn1.below hS) (by simp; omega) hS.size ?_; intro v4 w4 hown4 hgrow4; have hb4 := Below.grown hS hgrow4 hS.size (fun bb h => row_block ho0 bb h); (try replace hn9 := hn9.grown hgrow4 (fun g hg h => by obtain ⟨o, e⟩ := hg; simp [Value.ownBlock] at h e; omega)); refine hK _ _ hb4 (fun hS2 => ?_); clear hK K hS; have hS := hS2; clear hS2 hgrow4 ho0 hb4; (try simp only [Act.put, List.setIfInBounds_toArray, List.set_cons_zero, List.set_cons_succ])); (refine wpT_make rfl (fun K hK => ?_); rw [if_pos (by rfl)]; refine wp_app_cells _ _ _ rfl X.heap.size _ _ [x] _ 1 rfl hown4 rfl hn9 (by simp; omega) hS.size ?_; intro v10 w10 hown10 hgrow10; have hb10 := Below.grown hS hgrow10 hS.size (fun bb h => row_block hown4 bb h); refine hK _ _ hb10 (fun hS2 => ?_); clear hK K hS; have hS := hS2; clear hS2 hgrow10 hown4 hb10 hn9; (try simp only [Act.put, List.setIfInBounds_toArray, List.set_cons_zero, List.set_cons_succ])); (refine wpT_make rfl (fun K hK => ?_); rw [if_pos (by rfl)]; refine wp_app_cells _ _ _ rfl X.heap.size _ _ B a2 c2 rfl hown10 rfl (hn2.below hS) (by simp; omega) hS.size ?_; intro v14 w14 hown14 hgrow14; have hb14 := Below.grown hS hgrow14 hS.size (fun bb h => row_block hown10 bb h); refine hK _ _ hb14 (fun hS2 => ?_); clear hK K hS; have hS := hS2; clear hS2 hgrow14 hown10 hb14; (try simp only [Act.put, List.setIfInBounds_toArray, List.set_cons_zero, List.set_cons_succ])); (refine wpT_read (v := ?_) rfl (.inl ⟨by rfl, fun wx hbx => ?_⟩) ?_; rotate_left; (focus (obtain ⟨cx0, fx0, zx0⟩ := bk hbx (gt) (by first | omega | (simp; done) | (simp; omega)); go_simp; (try go_bits); (try with_reducible rfl))); try simp only [Act.put, List.setIfInBounds_toArray, List.set_cons_zero, List.set_cons_succ]); refine wpT_nil ?_))
                all_goals
                  have he14 : [] ++ A ++ [x] ++ B = amongN P (T.take (j + 1)) := by rw [HE2.out]; simp
                  rw [he14] at hown14
                  have hxs : X.heap.size = wc.heap.size := by rw [← HX.out]; rfl
                  have hbx : Below wc.heap.size wc w14 := by
                    have q := hS
                    rw [← HX.out] at q
                    exact (show Below wc.heap.size wc wc.drew from (Below.refl _ _).drew).trans (q.mono (by rw [hxs] at *; simp))
                  have HOF := Lib.hid hown14; have HBX := Lib.hid hbx; have HXS := Lib.hid hxs
                  clear he14 hown14 hS hxs hbx hs1 hs2' hn1 hn2 lgt ogt q1
                  go_wp2_with fail
                  exact ⟨⟨j + 1, by push_cast; rfl, c, HOF.out.wide (by rw [HXS.out]; omega), (HBR.out.trans (HB4.out.mono hsr)).trans (HBX.out.mono (by omega))⟩, by simp only [intOf]; omega⟩
        · have d2 : decide ((j : Int) < (T.length : Nat)) = false := by simp; omega
          have d3 : decide (j < T.length) = false := by simp; omega
          have he : T.take j = T := List.take_of_length_le c
          have HF := Lib.hid (show amongN P (T.take j) = P by rw [he]; exact amongN_all HPM.out)
          go_wp2_with fail
          go_ret
          exact ⟨_, rfl, by rw [HPE.out, ← HF.out]; exact HO.out.wide hsy, HBW.out⟩
end Go.Proofs.Ytjcbphhemmdnjaa
