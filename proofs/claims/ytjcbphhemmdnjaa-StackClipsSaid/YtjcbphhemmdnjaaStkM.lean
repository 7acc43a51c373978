/- law26 (stack): painter.paint by contract. -/
import Derived.Test.YtjcbphhemmdnjaaStkZ
import Derived.Test.YtjcbphhemmdnjaaStkN
import Derived.Test.YtjcbphhemmdnjaaWdD
namespace Go.Proofs.Ytjcbphhemmdnjaa
open Go Go.RowKit
set_option linter.unusedSimpArgs false
set_option linter.unusedVariables false
-- below_from_drew
attribute [local go_sem] ov_cell_same ov_cell_other ov_frozen_same ov_frozen_other ov_size ov_setCell_same ov_setCell_other cell_alloc_old frozen_alloc_old setCell_alloc_old old_alloc old_ov old_drew old_drewN old_setCell
attribute [local go_sem ↓] run_max2 run_min2
/-- Which block an appended row stands in. -/
def SameOrNew (w w' : World) (v v' : Value) : Prop := v'.ownBlock = v.ownBlock ∨ v'.ownBlock = some w.heap.size
theorem wp_app_id {o : Oper} {a : Act} {K : Act → World → Prop} {Q : Exit → Act → World → Prop} (w : World) (s x : Operand) (ho : o.op = .call { callee := .builtin .append, args := #[s, x], argTypes := #[54, 54] })
    (base base2 : Nat) (v u : Value) (xs ys : List Nat) (hs : a.eval s = v) (hown : OwnN w base v xs) (hx : a.eval x = u) (hsrc : OwnN w base2 u ys) (hnil : ys = [] → u = .slice none 0 0) (hl : xs.length + ys.length ≤ 1000000) (hbase : base ≤ w.heap.size)
    (h : ∀ v' w', OwnN w' base v' (xs ++ ys) → w.grownBy w' v.ownBlock → SameOrNew w w' v v' → K (a.put o.dst v') w') : o.wp Try.prog a w K Q := by
  obtain ⟨i0, hi, hz0, hz1, hz2⟩ := info_parts infoNat
  obtain ⟨a2, c2, rfl, _, _, hr⟩ := row_reads hsrc
  rcases Nat.eq_zero_or_pos ys.length with c | c
  · have he : ys = [] := List.eq_nil_of_length_eq_zero c
    subst he
    have e := hnil rfl
    obtain ⟨rfl, rfl⟩ : a2 = none ∧ c2 = 0 := by cases e; exact ⟨rfl, rfl⟩
    have hrun := run_append_owned_none (P := Try.prog) (w := w) base 54 o.type 3 i0 1 Try.underlying54 hi v xs.length (natVals xs) hown
    unfold Oper.wp
    simp only [List.length_nil] at hx
    simp [execOp, ho, resolve, invoke, builtin, hs, hx, hrun, Result.andThen]
    refine h _ _ ?_ ⟨rfl, rfl, rfl, Nat.le_refl _, fun _ _ _ => rfl⟩ (.inl rfl)
    rw [List.append_nil]; exact hown
  · obtain ⟨g, rfl, h1, h2, h3⟩ := hr c
    refine wp_append_id w s x _ ho base 3 i0 (.int .i64 0) 1 8 Try.underlying54 hi hz0 hz1 hz2 rfl (by decide) v xs.length (natVals xs) hs hown ⟨g, 0, none⟩ ys.length c2 (natVals ys) hx (by rw [natVals_len]; omega) (fun j u hj => by rw [add_off]; exact h3 j u hj) (fun u hu => by obtain ⟨y, _, rfl⟩ := List.mem_map.1 hu; rfl) (by unfold maxLen; omega) (by omega) hbase c ?_
    intro v' w' h1 h2 h3
    refine h v' w' (by unfold OwnN; rw [List.length_append, natVals_append]; exact h1) h2 ?_
    rcases h3 with h3 | h3
    · exact .inl h3.1
    · exact .inr h3.1
theorem wpList_app_id {ops : Array Oper} {rest : List Oper} {o : Oper} {a : Act} {Q : Exit → Act → World → Prop} (w : World) (hgd : o.guard = none) (s x : Operand) (ho : o.op = .call { callee := .builtin .append, args := #[s, x], argTypes := #[54, 54] })
    (base base2 : Nat) (v u : Value) (xs ys : List Nat) (hs : a.eval s = v) (hown : OwnN w base v xs) (hx : a.eval x = u) (hsrc : OwnN w base2 u ys) (hnil : ys = [] → u = .slice none 0 0) (hl : xs.length + ys.length ≤ 1000000) (hbase : base ≤ w.heap.size)
    (h : ∀ v' w', OwnN w' base v' (xs ++ ys) → w.grownBy w' v.ownBlock → SameOrNew w w' v v' → wpList Try.prog ops Q rest (a.put o.dst v') w') : wpList Try.prog ops Q (o :: rest) a w :=
  wpList_plain hgd fun _ hK => wp_app_id w s x ho base base2 v u xs ys hs hown hx hsrc hnil hl hbase fun v' w' h2 h3 h4 => hK _ _ (h v' w' h2 h3 h4)
/-- Two rows in two blocks. -/
def Apart (v u : Value) : Prop := u.ownBlock = none ∨ u.ownBlock ≠ v.ownBlock
theorem OwnN.lt {w : World} {base g : Nat} {v : Value} {xs : List Nat} (h : OwnN w base v xs) (e : v.ownBlock = some g) : g < w.heap.size := by
  have := World.ownsRow.lt h g e
  omega
theorem OwnN.keep {w w' : World} {base : Nat} {v u : Value} {xs : List Nat} (h : OwnN w base u xs) (hg : w.grownBy w' v.ownBlock) (ha : Apart v u) : OwnN w' base u xs := World.ownsRow.kept h hg ha
theorem Apart.grow {w w' : World} {base : Nat} {v v' u : Value} {xs : List Nat} (ha : Apart v u) (h : OwnN w base u xs) (hs : SameOrNew w w' v v') : Apart v' u := by
  rcases hs with hs | hs
  · unfold Apart at *; rw [hs]; exact ha
  · rcases hu : u.ownBlock with _ | g
    · exact .inl hu
    · refine .inr ?_
      rw [hu, hs]
      intro e
      have := h.lt hu
      cases e
      omega
/-- The two rows of the first loop. -/
structure RowsA (u wr : World) (vp vc : Value) (xs ys : List Nat) : Prop where
  p : OwnN wr u.heap.size vp xs
  c : OwnN wr u.heap.size vc ys
  ap : Apart vc vp
  pa : Apart vp vc
  np : xs = [] → vp = .slice none 0 0
  bel : Below u.heap.size u wr
theorem RowsA.below {u wr w' : World} {vp vc : Value} {xs ys : List Nat} (h : RowsA u wr vp vc xs ys) (hb : Below wr.heap.size wr w') : RowsA u w' vp vc xs ys :=
  ⟨h.p.below hb, h.c.below hb, h.ap, h.pa, h.np, h.bel.trans (hb.mono h.bel.size)⟩
theorem RowsA.growC {u wr w' : World} {vp vc vc' : Value} {xs ys ys' : List Nat} (h : RowsA u wr vp vc xs ys) (ho : OwnN w' u.heap.size vc' ys') (hg : wr.grownBy w' vc.ownBlock) (hs : SameOrNew wr w' vc vc') : RowsA u w' vp vc' xs ys' := by
  have a1 := h.ap.grow h.p hs
  refine ⟨h.p.keep hg h.ap, ho, a1, ?_, h.np, Below.grown h.bel hg h.bel.size (fun bb e => row_block h.c bb e)⟩
  unfold Apart at *
  rcases hc : vc'.ownBlock with _ | g
  · exact .inl rfl
  · refine .inr ?_
    rw [hc] at a1
    rcases a1 with a1 | a1
    · rw [a1]; simp
    · exact fun e => a1 e.symm
theorem RowsA.growP {u wr w' : World} {vp vp' vc : Value} {xs xs' ys : List Nat} (h : RowsA u wr vp vc xs ys) (ho : OwnN w' u.heap.size vp' xs') (hg : wr.grownBy w' vp.ownBlock) (hs : SameOrNew wr w' vp vp') (hn : xs' ≠ []) : RowsA u w' vp' vc xs' ys := by
  have a1 := h.pa.grow h.c hs
  refine ⟨ho, h.c.keep hg h.pa, ?_, a1, fun e => absurd e hn, Below.grown h.bel hg h.bel.size (fun bb e => row_block h.p bb e)⟩
  unfold Apart at *
  rcases hc : vp'.ownBlock with _ | g
  · exact .inl rfl
  · refine .inr ?_
    rw [hc] at a1
    rcases a1 with a1 | a1
    · rw [a1]; simp
    · exact fun e => a1 e.symm
theorem wpG_skip {P : Program} {ops : Array Oper} {Q : Exit → Act → World → Prop} {S : World → Prop} {i : Nat} {d : Option Tmp} {o : Op} {ty : TypeId} {po : String} {af : Array Edge} {g : Option (Nat × Bool)} {rest : List (Nat × Nat)} {a : Act} {w : World} (hi : ops[i]? = some ⟨d, o, ty, po, af, g⟩) (hw : Region.wanted ⟨d, o, ty, po, af, g⟩ (yielded ops a.tmps) = false) (hs : S w) (h : wpG P ops Q S rest (a.put d undef) w) : wpG P ops Q S ((i, 1) :: rest) a w :=
  wpG_make hi fun K hK => by
    rw [hw, if_neg (by decide)]
    exact hK _ _ hs (fun _ => h)
def plB (z : Nat → Int) (s ps : List Nat) (i : Nat) : List Nat := if flagB z s i then [] else ps
/-- The three rows of the second loop. -/
structure RowsB (w wr : World) (pt bn : Nat) (vo vpl vc : Value) (out pl s : List Nat) : Prop where
  o : OwnN wr (w.heap.size + 1) vo out
  c : OwnN wr (w.heap.size + 1) vc s
  oc : Apart vo vc
  p : OwnN wr (w.heap.size + 1) vpl pl
  op : Apart vo vpl
  np : pl = [] → vpl = .slice none 0 0
  bel : Below w.heap.size w wr
  has : Has wr w.heap.size #[.pointer (some ⟨pt, 0, none⟩), .map (some bn)] 123
theorem RowsB.below {w wr w' : World} {pt bn : Nat} {vo vpl vc : Value} {out pl s : List Nat} (h : RowsB w wr pt bn vo vpl vc out pl s) (hb : Below wr.heap.size wr w') : RowsB w w' pt bn vo vpl vc out pl s :=
  ⟨h.o.below hb, h.c.below hb, h.oc, h.p.below hb, h.op, h.np, h.bel.trans (hb.mono h.bel.size), has_below hb h.has⟩
theorem RowsB.grow {w wr w' : World} {pt bn : Nat} {vo vo' vpl vc : Value} {out out' pl s : List Nat} (h : RowsB w wr pt bn vo vpl vc out pl s) (ho : OwnN w' (w.heap.size + 1) vo' out') (hg : wr.grownBy w' vo.ownBlock) (hs : SameOrNew wr w' vo vo') : RowsB w w' pt bn vo' vpl vc out' pl s :=
  ⟨ho, h.c.keep hg h.oc, h.oc.grow h.c hs, h.p.keep hg h.op, h.op.grow h.p hs, h.np, Below.grown h.bel hg h.bel.size (fun bb e => by have := row_block h.o bb e; omega), has_grown hg h.has (row_ne h.o (by omega))⟩
theorem RowsB.drop {w wr : World} {pt bn : Nat} {vo vpl vc : Value} {out pl s : List Nat} (h : RowsB w wr pt bn vo vpl vc out pl s) : RowsB w wr pt bn vo (.slice none 0 0) vc out [] s :=
  ⟨h.o, h.c, h.oc, ownN_nil _ _, .inl rfl, fun _ => rfl, h.bel, h.has⟩
theorem filter_take {p : Nat → Bool} {ks : List Nat} {i : Nat} (h : i < ks.length) : (ks.take (i + 1)).filter p = (ks.take i).filter p ++ if p (ks.getD i 0) then [ks.getD i 0] else [] := by
  rw [take_at h, List.filter_append]
  congr 1
  by_cases c : p (ks.getD i 0) = true
  · rw [if_pos c, List.filter_cons_of_pos c]; rfl
  · rw [if_neg c, List.filter_cons_of_neg c]; rfl
set_option maxRecDepth 100000 in
set_option maxHeartbeats 4000000 in
theorem ppaint_any (l : List N26) (N pt bm bn : Nat) (base : Nat → Prop) (R : Rows) (hN : N ≤ 60) : ∀ (f n : Nat) (w : World), N - n ≤ f → n < N → (n = 0 ∨ ctx26 l n = true) → In26 w l N pt bm bn base R →
    Calls Try.prog 40 #[.agg #[.pointer (some ⟨pt, 0, none⟩), .map (some bn)], .int .i64 n] w fun e w' => ∃ v, e = .returned v ∧ OwnN w' w.heap.size v (paintN (pa26 l) N (ctx26 l) (z26 l) n) ∧ Below w.heap.size w w' := by
  have hpa : ∀ i, 0 < i → pa26 l i < i := fun i hi => pa26_lt l hi
  have HPA := Lib.hid hpa
  clear hpa
  intro f
  induction f with
  | zero => intro n w h1 h2; omega
  | succ f ih =>
    intro n w hf hn hcn h
    have IH := Lib.hid ih
    have HI := Lib.hid h
    have HPE := Lib.hid (paintN_eq (N := N) (ctx := ctx26 l) (z := z26 l) HPA.out n)
    have hos := ofN_small (l := l) (ctx := ctx26 l) hn
    have HGT := Lib.hid (fun k (hk : k ∈ ofN (pa26 l) N (ctx26 l) n) => ofN_gt HPA.out n k hk)
    have HUP := Lib.hid (ofN_pw (ctx := ctx26 l) HPA.out hn)
    have HSP := Lib.hid (fun s h1 h2 => srtK_parts (s := s) (ctx := ctx26 l) (z := z26 l) HPA.out hn h1 h2)
    clear h ih
    go_enter Try.func40, Try.ntmps40
    go_upto_region 3 with fail
    refine name_w (f := Code.wp _ _ _ _) (fun Y hY => ?_)
    have hbY : Below w.heap.size w Y := by rw [hY]; (repeat' (first | (with_reducible exact Below.refl _ _) | (with_reducible assumption) | (with_reducible refine below_from_drew ?_) | (with_reducible refine Below.alloc ?_ ?_ _) | (with_reducible refine Below.drew ?_) | (with_reducible refine below_drewN ?_ _) | (with_reducible refine Below.setCell ?_ ?_ _) | (with_reducible refine below_via ?_ (by assumption) ?_) | (with_reducible refine below_ov ?_ ?_ _ _) | go_size))
    have hpY : Has Y w.heap.size #[.pointer (some ⟨pt, 0, none⟩), .map (some bn)] 123 := by rw [hY]; (repeat' (first | (with_reducible refine has_drew ?_) | (with_reducible refine has_drewN ?_) | (with_reducible refine has_new ?_; (first | (with_reducible rfl) | omega | (simp; done) | (simp; omega))) | (with_reducible refine has_ov_same ?_; (first | (with_reducible rfl) | omega | (simp; done) | (simp; omega))) | (with_reducible refine has_alloc ?_) | (with_reducible refine has_ov_other ?_ ?_; (focus (first | (with_reducible rfl) | omega | (simp; done) | (simp; omega)))) | (with_reducible assumption) | (with_reducible exact has_below hB (by assumption))))
    have hoY : OwnN Y (w.heap.size + 1) (.slice (some ⟨w.heap.size + 1, 0, none⟩) 1 1) [n] := by rw [hY]; exact ownN_one2 n (by simp)
    have hzY : Y.heap.size = w.heap.size + 2 := by rw [hY]; simp
    have HBY := Lib.hid hbY; have HPY := Lib.hid hpY; have HOY := Lib.hid hoY
    have HIY := Lib.hid (HI.out.below hbY)
    have c2 := hpY.cells; have l2 := hpY.lt; have o2 : Old Y w.heap.size := l2
    clear hY hbY hpY hoY
    have HF := Lib.hid (fun X (hX : Below Y.heap.size Y X) => pof_any l N pt bm bn base R hN N n X (by omega) hn (HIY.out.below hX))
    obtain ⟨ofs, hofs⟩ : ∃ o, ofN (pa26 l) N (ctx26 l) n = o := ⟨_, rfl⟩
    rw [hofs] at HF HGT HUP HSP HPE hos
    clear hofs
    go_wp2_with ((go_at_call 59; (with_reducible refine (HF.out _ (by (repeat' (first | (with_reducible exact Below.refl _ _) | (with_reducible assumption) | (with_reducible refine below_from_drew ?_) | (with_reducible refine Below.alloc ?_ ?_ _) | (with_reducible refine Below.drew ?_) | (with_reducible refine below_drewN ?_ _) | (with_reducible refine Below.setCell ?_ ?_ _) | (with_reducible refine below_via ?_ (by assumption) ?_) | (with_reducible refine below_ov ?_ ?_ _ _) | go_size)))).mono ?_); rintro e u ⟨vk, rfl, hk, hb⟩; have hz := hb.size; refine (fun hB => ?_ : Below Y.heap.size Y u → _) ?_; rotate_left; (focus ((repeat' (first | (with_reducible exact Below.refl _ _) | (with_reducible assumption) | (with_reducible refine below_from_drew ?_) | (with_reducible refine Below.alloc ?_ ?_ _) | (with_reducible refine Below.drew ?_) | (with_reducible refine below_drewN ?_ _) | (with_reducible refine Below.setCell ?_ ?_ _) | (with_reducible refine below_via ?_ (by assumption) ?_) | (with_reducible refine below_ov ?_ ?_ _ _) | go_size)); done)); (try simp only [World.size_alloc, World.size_setCell, World.size_drew, ov_size] at hz)); obtain ⟨ka, kc, rfl⟩ := hk.shape)
    have HKU := Lib.hid hk.at
    have HBU := Lib.hid (HBY.out.trans (hB.mono HBY.out.size))
    have HPU := Lib.hid (has_below hB HPY.out)
    have HOU := Lib.hid (HOY.out.below hB)
    have HIU := Lib.hid (HIY.out.below hB)
    clear hk hB hb c2 l2 o2 HF HPY HOY HIY HBY
    have huz : w.heap.size + 2 ≤ u.heap.size := by omega
    clear hz hzY Y
    go_loopw [6, 7, 18] (fun vp vc vi wr => ∃ i : Nat, vi = .int .i64 i ∧ i ≤ ofs.length ∧ RowsA u wr vp vc ((ofs.take i).filter (fun k => !ctx26 l k)) ((ofs.take i).filter (fun k => ctx26 l k))) (fun _ _ vi _ => ofs.length - (intOf vi).toNat)
    case atStart => exact ⟨0, rfl, Nat.zero_le _, ownN_nil _ _, ownN_nil _ _, .inl rfl, .inl rfl, fun _ => rfl, Below.refl _ _⟩
    case round =>
      obtain ⟨i, rfl, hi, hr⟩ := hrel
      have HR := Lib.hid hr
      have HBR := Lib.hid hr.bel
      have hPr := has_below hr.bel HPU.out
      have HPR := Lib.hid hPr
      have c2 := hPr.cells; have l2 := hPr.lt; have o2 : Old wr w.heap.size := l2
      have hk := HKU.out.below hr.bel
      have hwu := hr.bel.size
      obtain ⟨pa_, pc_, rfl⟩ := hr.p.shape
      obtain ⟨ca_, cc_, rfl⟩ := hr.c.shape
      have hxl : ((ofs.take i).filter (fun k => !ctx26 l k)).length ≤ 60 := by have := List.length_filter_le (fun k => !ctx26 l k) (ofs.take i); simp at this; omega
      have hyl : ((ofs.take i).filter (fun k => ctx26 l k)).length ≤ 60 := by have := List.length_filter_le (fun k => ctx26 l k) (ofs.take i); simp at this; omega
      clear hr hPr
      rcases Nat.lt_or_ge i ofs.length with c | c
      · have ci : (i : Int) < (ofs.length : Nat) := by omega
        have ci0 : (0 : Int) ≤ i := by omega
        obtain ⟨g, rfl, hg, hkc⟩ := hk (by omega)
        have q2 := hkc i c
        have og : Old wr g := hg
        have hkm := HGT.out (ofs.getD i 0) (by simp [List.getD_eq_getElem?_getD, c])
        have HFP := Lib.hid (filter_take (p := fun k => !ctx26 l k) c)
        have HFC := Lib.hid (filter_take (p := fun k => ctx26 l k) c)
        obtain ⟨k, hk'⟩ : ∃ k, ofs.getD i 0 = k := ⟨_, rfl⟩
        rw [hk'] at q2 hkm HFP HFC
        have HC := Lib.hid (fun X (hX : Below wr.heap.size wr X) => pctx_any l N pt bm bn k base R X hN hkm.2 (HIU.out.below (HBR.out.trans (hX.mono hwu))))
        clear hk hk' hkc
        obtain ⟨xs, hxs⟩ : ∃ xs, (ofs.take i).filter (fun k => !ctx26 l k) = xs := ⟨_, rfl⟩
        obtain ⟨ys, hys⟩ : ∃ xs, (ofs.take i).filter (fun k => ctx26 l k) = xs := ⟨_, rfl⟩
        rw [hxs] at HR hxl HFP
        rw [hys] at HR hyl HFC
        rw [hxs, hys]
        clear hxs hys
        rcases hc : ctx26 l k with _ | _
        · rw [hc] at HC
          simp only [hc, Bool.not_false, if_true, Bool.false_eq_true, if_false, List.append_nil] at HFP HFC
          clear hc
          go_wp2_with (first | (((go_at_call 60; (with_reducible refine (HC.out _ (by (repeat' (first | (with_reducible exact Below.refl _ _) | (with_reducible assumption) | (with_reducible refine below_from_drew ?_) | (with_reducible refine Below.alloc ?_ ?_ _) | (with_reducible refine Below.drew ?_) | (with_reducible refine below_drewN ?_ _) | (with_reducible refine Below.setCell ?_ ?_ _) | (with_reducible refine below_via ?_ (by assumption) ?_) | (with_reducible refine below_ov ?_ ?_ _ _) | go_size)))).mono ?_); rintro e u4 ⟨rfl, hb⟩; have hz := hb.size; refine (fun hB => ?_ : Below wr.heap.size wr u4 → _) ?_; rotate_left; (focus ((repeat' (first | (with_reducible exact Below.refl _ _) | (with_reducible assumption) | (with_reducible refine below_from_drew ?_) | (with_reducible refine Below.alloc ?_ ?_ _) | (with_reducible refine Below.drew ?_) | (with_reducible refine below_drewN ?_ _) | (with_reducible refine Below.setCell ?_ ?_ _) | (with_reducible refine below_via ?_ (by assumption) ?_) | (with_reducible refine below_ov ?_ ?_ _ _) | go_size)); done)); (try simp only [World.size_alloc, World.size_setCell, World.size_drew, ov_size] at hz))); have HR4 := Lib.hid (HR.out.below hB)) | (at_builtin; refine wpList_app_id _ rfl _ _ rfl u.heap.size u4.heap.size _ _ xs [k] rfl ((HR4.out.below ((Below.refl _ u4).alloc (Nat.le_refl _) (.cells #[.int .i64 (k : Int)] 3))).p) rfl (ownN_one u4 k) (fun e => by cases e) ?pl ?pb ?_))
          case pl => simp; omega
          case pb => have := HR4.out.bel.size; simp; omega
          intro v' w3 hown hgrow hid
          have hR3 := (HR4.out.below ((Below.refl _ u4).alloc (Nat.le_refl _) (.cells #[.int .i64 (k : Int)] 3))).growP hown hgrow hid (by simp)
          have HR3 := Lib.hid hR3
          clear hown hgrow hid hR3
          go_wp2_with fail
          refine ⟨⟨i + 1, by push_cast; rfl, c, by rw [HFP.out, HFC.out]; exact HR3.out⟩, by simp only [intOf]; omega⟩
        · rw [hc] at HC
          simp only [hc, Bool.not_true, if_true, Bool.false_eq_true, if_false, List.append_nil] at HFP HFC
          clear hc
          go_wp2_with (first | (((go_at_call 60; (with_reducible refine (HC.out _ (by (repeat' (first | (with_reducible exact Below.refl _ _) | (with_reducible assumption) | (with_reducible refine below_from_drew ?_) | (with_reducible refine Below.alloc ?_ ?_ _) | (with_reducible refine Below.drew ?_) | (with_reducible refine below_drewN ?_ _) | (with_reducible refine Below.setCell ?_ ?_ _) | (with_reducible refine below_via ?_ (by assumption) ?_) | (with_reducible refine below_ov ?_ ?_ _ _) | go_size)))).mono ?_); rintro e u4 ⟨rfl, hb⟩; have hz := hb.size; refine (fun hB => ?_ : Below wr.heap.size wr u4 → _) ?_; rotate_left; (focus ((repeat' (first | (with_reducible exact Below.refl _ _) | (with_reducible assumption) | (with_reducible refine below_from_drew ?_) | (with_reducible refine Below.alloc ?_ ?_ _) | (with_reducible refine Below.drew ?_) | (with_reducible refine below_drewN ?_ _) | (with_reducible refine Below.setCell ?_ ?_ _) | (with_reducible refine below_via ?_ (by assumption) ?_) | (with_reducible refine below_ov ?_ ?_ _ _) | go_size)); done)); (try simp only [World.size_alloc, World.size_setCell, World.size_drew, ov_size] at hz))); have HR4 := Lib.hid (HR.out.below hB)) | (at_builtin; refine wpList_app_id _ rfl _ _ rfl u.heap.size u4.heap.size _ _ ys [k] rfl ((HR4.out.below ((Below.refl _ u4).alloc (Nat.le_refl _) (.cells #[.int .i64 (k : Int)] 3))).c) rfl (ownN_one u4 k) (fun e => by cases e) ?pl ?pb ?_))
          case pl => simp; omega
          case pb => have := HR4.out.bel.size; simp; omega
          intro v' w3 hown hgrow hid
          have hR3 := (HR4.out.below ((Below.refl _ u4).alloc (Nat.le_refl _) (.cells #[.int .i64 (k : Int)] 3))).growC hown hgrow hid
          have HR3 := Lib.hid hR3
          clear hown hgrow hid hR3
          go_wp2_with fail
          refine ⟨⟨i + 1, by push_cast; rfl, c, by rw [HFP.out, HFC.out]; exact HR3.out⟩, by simp only [intOf]; omega⟩
      · have c2' : decide ((i : Int) < (ofs.length : Nat)) = false := by simp; omega
        have he : ofs.take i = ofs := List.take_of_length_le c
        rw [he] at HR hxl hyl ⊢
        have HBS := Lib.hid HBR.out.size
        have hpw : (ofs.filter (fun k => ctx26 l k)).Pairwise (fun a b => atN (pa26 l) N a < atN (pa26 l) N b) := HUP.out.filter _
        have HSO := Lib.hid (psort_any l N pt bm bn w.heap.size u.heap.size _ R _ (ofs.filter (fun k => ctx26 l k)) wr hN (fun k hk => (HGT.out k (List.mem_filter.1 hk).1).2) hyl hpw (HIU.out.cut HBR.out) HPR.out HR.out.c (fun g e => by
          have k1 := row_block HR.out.c g e
          have k2 := HR.out.c.lt e
          have k3 := HIU.out.tree.str.lt; have k4 := HIU.out.tree.ok.lt; have k5 := HIU.out.ok.lt; have k6 := HPU.out.lt
          exact ⟨fun q => by have := q.2; omega, by omega, by omega, by omega, by omega⟩))
        clear hpw he hk c2 l2 o2
        go_wp2_with ((go_at_call 61); (with_reducible refine HSO.out.mono ?_); rintro e w5 ⟨rfl, s, hs1, hs2, hown, hgrow⟩; have HR5 := Lib.hid (HR.out.growC hown hgrow (.inl rfl)); have HS1 := Lib.hid hs1; have HS2 := Lib.hid hs2; clear hs1 hs2 hown hgrow)
        have hsl : (ofs.filter (fun k => ctx26 l k)).length = s.length := HS1.out.length_eq.symm
        rw [hsl] at HR5 hyl ⊢
        have HSM := Lib.hid (fun k (hk : k ∈ s) => List.mem_filter.1 (HS1.out.mem_iff.1 hk))
        obtain ⟨ps, hps⟩ : ∃ xs, ofs.filter (fun k => !ctx26 l k) = xs := ⟨_, rfl⟩
        rw [hps] at HR5 hxl ⊢
        have HPS := Lib.hid hps
        have HRB : Hid (RowsB w w5 pt bn (.slice (some ⟨w.heap.size + 1, 0, none⟩) 1 1) (.slice pa_ ps.length pc_) (.slice ca_ s.length cc_) (outB n ps s (z26 l) (paintN (pa26 l) N (ctx26 l) (z26 l)) 0) (plB (z26 l) s ps 0) s) := Lib.hid (by
          have ho := HOU.out.below HR5.out.bel
          have hc := HR5.out.c.wide (show w.heap.size + 1 ≤ u.heap.size by omega)
          have hp := HR5.out.p.wide (show w.heap.size + 1 ≤ u.heap.size by omega)
          refine ⟨ho, hc, ?_, hp, ?_, HR5.out.np, HBU.out.trans (HR5.out.bel.mono HBU.out.size), has_below HR5.out.bel HPU.out⟩
          · unfold Apart
            rcases hv : (Value.slice ca_ s.length cc_).ownBlock with _ | g
            · exact .inl rfl
            · refine .inr (fun e => ?_)
              have := row_block HR5.out.c g hv
              have e2 : g = w.heap.size + 1 := Option.some.inj e
              omega
          · unfold Apart
            rcases hv : (Value.slice pa_ ps.length pc_).ownBlock with _ | g
            · exact .inl rfl
            · refine .inr (fun e => ?_)
              have := row_block HR5.out.p g hv
              have e2 : g = w.heap.size + 1 := Option.some.inj e
              omega)
        clear hps hsl HR HBR HPR hwu HR5
        go_loopw [5, 6, 39] (fun vo vpl vi wx => ∃ i : Nat, vi = .int .i64 i ∧ i ≤ s.length ∧ (outB n ps s (z26 l) (paintN (pa26 l) N (ctx26 l) (z26 l)) i).length ≤ 1 + 120 * i ∧ RowsB w wx pt bn vo vpl (.slice ca_ s.length cc_) (outB n ps s (z26 l) (paintN (pa26 l) N (ctx26 l) (z26 l)) i) (plB (z26 l) s ps i) s) (fun _ _ vi _ => s.length - (intOf vi).toNat)
        case atStart => exact ⟨0, rfl, Nat.zero_le _, by simp [outB, flagB], HRB.out⟩
        case round =>
          obtain ⟨j, rfl, hj, hlen, hr⟩ := hrel
          have HR := Lib.hid hr
          obtain ⟨oa, oc, rfl⟩ := hr.o.shape
          obtain ⟨la, lc, rfl⟩ := hr.p.shape
          have c2 := hr.has.cells; have l2 := hr.has.lt; have o2 : Old _ w.heap.size := l2
          rcases Nat.lt_or_ge j s.length with c | c
          · have cj : (j : Int) < (s.length : Nat) := by omega
            have cj0 : (0 : Int) ≤ j := by omega
            obtain ⟨g, gc, eg, _, hg, hgc⟩ := hr.c.cells (by omega)
            cases eg
            have og : Old wr g := hg
            have q2 := hgc j c
            have hkm := HSM.out (s.getD j 0) (by simp [List.getD_eq_getElem?_getD, c])
            have hkn := HGT.out _ hkm.1
            have hkc : ctx26 l (s.getD j 0) = true := hkm.2
            have hps60 : ps.length ≤ 60 := hxl
            have hbw := hr.bel
            have HNG := Lib.hid (fun q => outB_neg (n := n) (ps := ps) (P := paintN (pa26 l) N (ctx26 l) (z26 l)) HS2.out c q)
            have HFS := Lib.hid (fun q1 q2 => outB_first (n := n) (ps := ps) (s := s) (z := z26 l) (P := paintN (pa26 l) N (ctx26 l) (z26 l)) c q1 q2)
            have HMR := Lib.hid (fun q => outB_more (n := n) (ps := ps) (P := paintN (pa26 l) N (ctx26 l) (z26 l)) HS2.out c q)
            obtain ⟨k, hk⟩ : ∃ k, s.getD j 0 = k := ⟨_, rfl⟩
            rw [hk] at q2 hkn hkc HNG HFS HMR
            have HZ := Lib.hid (fun X (hX : Below wr.heap.size wr X) => pz_any l N pt bm bn k base R X hN hkn.2 (HI.out.below (hbw.trans (hX.mono hbw.size))))
            have HPT := Lib.hid (fun X (hX : Below wr.heap.size wr X) => IH.out k X (by omega) hkn.2 (.inr hkc) (HI.out.below (hbw.trans (hX.mono hbw.size))))
            have HPW := Lib.hid (fun X (hX : Below w.heap.size w X) => IH.out k X (by omega) hkn.2 (.inr hkc) (HI.out.below hX))
            have HPN := Lib.hid (show paintN (pa26 l) N (ctx26 l) (z26 l) k ≠ [] by rw [paintN_eq HPA.out k]; simp)
            have hpl := (paintN_perm (N := N) (ctx := ctx26 l) (z := z26 l) HPA.out k).length_eq
            have hpn := preN_small (l := l) hkn.2
            have HJ := Lib.hid (fun h0 : 0 < j => (show s.getD (j - 1) 0 < N from (HGT.out _ (HSM.out (s.getD (j - 1) 0) (by simp [List.getD_eq_getElem?_getD, show j - 1 < s.length by omega])).1).2))
            have HGC := Lib.hid hgc
            clear hr hkm hk hgc
            by_cases hz : z26 l k < 0
            · obtain ⟨f1, f2, f3⟩ := HNG.out hz
              have HF3 := Lib.hid f3
              have e1 : plB (z26 l) s ps j = ps := by unfold plB; rw [f1]; rfl
              have HE2 := Lib.hid (show plB (z26 l) s ps (j + 1) = ps by unfold plB; rw [f2]; rfl)
              rw [e1] at HR ⊢
              have hzd : decide (0 ≤ z26 l k) = false := by simp; omega
              clear f1 f2 f3 e1
              generalize outB n ps s (z26 l) (paintN (pa26 l) N (ctx26 l) (z26 l)) j = out at *
              go_upto_region 14 with fail
              refine region_ord [(0, 0), (1, 0), (2, 1), (3, 0), (4, 0), (5, 0), (6, 0), (7, 0), (8, 0), (9, 0), (10, 0), (11, 0), (12, 0), (13, 0), (14, 1), (15, 0), (16, 0), (17, 0)] (by kernel_rfl) (by kernel_rfl) (fun _ _ d _ _ h => by cases d <;> exact h) (fun hS => ?_)
              (refine wpG_read (v := ?_) rfl (.inl ⟨by rfl, fun wx hbx => ?_⟩) ?_; rotate_left; (focus (obtain ⟨cx0, fx0, zx0⟩ := bk hbx (w.heap.size) (by first | omega | (simp; done) | (simp; omega)); obtain ⟨cx1, fx1, zx1⟩ := bk hbx (g) (by first | omega | (simp; done) | (simp; omega)); go_simp; (try go_bits); (try with_reducible rfl))); try simp only [Act.put, List.setIfInBounds_toArray, List.set_cons_zero, List.set_cons_succ])
              (refine wpG_read (v := ?_) rfl (.inl ⟨by rfl, fun wx hbx => ?_⟩) ?_; rotate_left; (focus (obtain ⟨cx0, fx0, zx0⟩ := bk hbx (w.heap.size) (by first | omega | (simp; done) | (simp; omega)); obtain ⟨cx1, fx1, zx1⟩ := bk hbx (g) (by first | omega | (simp; done) | (simp; omega)); go_simp; (try go_bits); (try with_reducible rfl))); try simp only [Act.put, List.setIfInBounds_toArray, List.set_cons_zero, List.set_cons_succ])
              (refine wpG_make rfl (fun K hK => ?_); go_simp; (go_at_call 64; (with_reducible refine (HZ.out _ (by (repeat' (first | (with_reducible exact Below.refl _ _) | (with_reducible assumption) | (with_reducible refine below_from_drew ?_) | (with_reducible refine Below.alloc ?_ ?_ _) | (with_reducible refine Below.drew ?_) | (with_reducible refine below_drewN ?_ _) | (with_reducible refine Below.setCell ?_ ?_ _) | (with_reducible refine below_via ?_ (by assumption) ?_) | (with_reducible refine below_ov ?_ ?_ _ _) | go_size)))).mono ?_); rintro e u1 ⟨rfl, hb⟩; have hz := hb.size; refine (fun hB => ?_ : Below wr.heap.size wr u1 → _) ?_; rotate_left; (focus ((repeat' (first | (with_reducible exact Below.refl _ _) | (with_reducible assumption) | (with_reducible refine below_from_drew ?_) | (with_reducible refine Below.alloc ?_ ?_ _) | (with_reducible refine Below.drew ?_) | (with_reducible refine below_drewN ?_ _) | (with_reducible refine Below.setCell ?_ ?_ _) | (with_reducible refine below_via ?_ (by assumption) ?_) | (with_reducible refine below_ov ?_ ?_ _ _) | go_size)); done)); (try simp only [World.size_alloc, World.size_setCell, World.size_drew, ov_size] at hz)); (try simp only []); refine hK _ _ ?_ (fun hS2 => ?_); (focus ((repeat' (first | (with_reducible exact Below.refl _ _) | (with_reducible assumption) | (with_reducible refine below_from_drew ?_) | (with_reducible refine Below.alloc ?_ ?_ _) | (with_reducible refine Below.drew ?_) | (with_reducible refine below_drewN ?_ _) | (with_reducible refine Below.setCell ?_ ?_ _) | (with_reducible refine below_via ?_ (by assumption) ?_) | (with_reducible refine below_ov ?_ ?_ _ _) | go_size)); done)); clear hK K hS; have hS := hS2; clear hS2; (try clear hb); try simp only [Act.put, List.setIfInBounds_toArray, List.set_cons_zero, List.set_cons_succ])
              (refine wpG_read (v := ?_) rfl (.inl ⟨by rfl, fun wx hbx => ?_⟩) ?_; rotate_left; (focus (obtain ⟨cx0, fx0, zx0⟩ := bk hbx (w.heap.size) (by first | omega | (simp; done) | (simp; omega)); obtain ⟨cx1, fx1, zx1⟩ := bk hbx (g) (by first | omega | (simp; done) | (simp; omega)); go_simp; (try go_bits); (try with_reducible rfl))); try simp only [Act.put, List.setIfInBounds_toArray, List.set_cons_zero, List.set_cons_succ])
              (refine wpG_read (v := ?_) rfl (.inl ⟨by rfl, fun wx hbx => ?_⟩) ?_; rotate_left; (focus (obtain ⟨cx0, fx0, zx0⟩ := bk hbx (w.heap.size) (by first | omega | (simp; done) | (simp; omega)); obtain ⟨cx1, fx1, zx1⟩ := bk hbx (g) (by first | omega | (simp; done) | (simp; omega)); go_simp; (try go_bits); (try with_reducible rfl))); try simp only [Act.put, List.setIfInBounds_toArray, List.set_cons_zero, List.set_cons_succ])
              (first | (refine wpG_pass rfl (by rfl) ?_; simp only [Act.put, List.setIfInBounds_toArray, List.set_cons_zero, List.set_cons_succ]) | (refine wpG_read (v := ?_) rfl (.inl ⟨by rfl, fun wx hbx => ?_⟩) ?_; rotate_left; (focus (obtain ⟨cx0, fx0, zx0⟩ := bk hbx (w.heap.size) (by first | omega | (simp; done) | (simp; omega)); obtain ⟨cx1, fx1, zx1⟩ := bk hbx (g) (by first | omega | (simp; done) | (simp; omega)); go_simp; (try go_bits); (try with_reducible rfl))); try simp only [Act.put, List.setIfInBounds_toArray, List.set_cons_zero, List.set_cons_succ]))
              (first | (refine wpG_pass rfl (by rfl) ?_; simp only [Act.put, List.setIfInBounds_toArray, List.set_cons_zero, List.set_cons_succ]) | (refine wpG_read (v := ?_) rfl (.inl ⟨by rfl, fun wx hbx => ?_⟩) ?_; rotate_left; (focus (obtain ⟨cx0, fx0, zx0⟩ := bk hbx (w.heap.size) (by first | omega | (simp; done) | (simp; omega)); obtain ⟨cx1, fx1, zx1⟩ := bk hbx (g) (by first | omega | (simp; done) | (simp; omega)); go_simp; (try go_bits); (try with_reducible rfl))); try simp only [Act.put, List.setIfInBounds_toArray, List.set_cons_zero, List.set_cons_succ]))
              (first | (refine wpG_pass rfl (by rfl) ?_; simp only [Act.put, List.setIfInBounds_toArray, List.set_cons_zero, List.set_cons_succ]) | (refine wpG_read (v := ?_) rfl (.inl ⟨by rfl, fun wx hbx => ?_⟩) ?_; rotate_left; (focus (obtain ⟨cx0, fx0, zx0⟩ := bk hbx (w.heap.size) (by first | omega | (simp; done) | (simp; omega)); obtain ⟨cx1, fx1, zx1⟩ := bk hbx (g) (by first | omega | (simp; done) | (simp; omega)); go_simp; (try go_bits); (try with_reducible rfl))); try simp only [Act.put, List.setIfInBounds_toArray, List.set_cons_zero, List.set_cons_succ]))
              (first | (refine wpG_pass rfl (by rfl) ?_; simp only [Act.put, List.setIfInBounds_toArray, List.set_cons_zero, List.set_cons_succ]) | (refine wpG_read (v := ?_) rfl (.inl ⟨by rfl, fun wx hbx => ?_⟩) ?_; rotate_left; (focus (obtain ⟨cx0, fx0, zx0⟩ := bk hbx (w.heap.size) (by first | omega | (simp; done) | (simp; omega)); obtain ⟨cx1, fx1, zx1⟩ := bk hbx (g) (by first | omega | (simp; done) | (simp; omega)); go_simp; (try go_bits); (try with_reducible rfl))); try simp only [Act.put, List.setIfInBounds_toArray, List.set_cons_zero, List.set_cons_succ]))
              (first | (refine wpG_pass rfl (by rfl) ?_; simp only [Act.put, List.setIfInBounds_toArray, List.set_cons_zero, List.set_cons_succ]) | (refine wpG_read (v := ?_) rfl (.inl ⟨by rfl, fun wx hbx => ?_⟩) ?_; rotate_left; (focus (obtain ⟨cx0, fx0, zx0⟩ := bk hbx (w.heap.size) (by first | omega | (simp; done) | (simp; omega)); obtain ⟨cx1, fx1, zx1⟩ := bk hbx (g) (by first | omega | (simp; done) | (simp; omega)); go_simp; (try go_bits); (try with_reducible rfl))); try simp only [Act.put, List.setIfInBounds_toArray, List.set_cons_zero, List.set_cons_succ]))
              (first | (refine wpG_pass rfl (by rfl) ?_; simp only [Act.put, List.setIfInBounds_toArray, List.set_cons_zero, List.set_cons_succ]) | (refine wpG_read (v := ?_) rfl (.inl ⟨by rfl, fun wx hbx => ?_⟩) ?_; rotate_left; (focus (obtain ⟨cx0, fx0, zx0⟩ := bk hbx (w.heap.size) (by first | omega | (simp; done) | (simp; omega)); obtain ⟨cx1, fx1, zx1⟩ := bk hbx (g) (by first | omega | (simp; done) | (simp; omega)); go_simp; (try go_bits); (try with_reducible rfl))); try simp only [Act.put, List.setIfInBounds_toArray, List.set_cons_zero, List.set_cons_succ]))
              (first | (refine wpG_pass rfl (by rfl) ?_; simp only [Act.put, List.setIfInBounds_toArray, List.set_cons_zero, List.set_cons_succ]) | (refine wpG_read (v := ?_) rfl (.inl ⟨by rfl, fun wx hbx => ?_⟩) ?_; rotate_left; (focus (obtain ⟨cx0, fx0, zx0⟩ := bk hbx (w.heap.size) (by first | omega | (simp; done) | (simp; omega)); obtain ⟨cx1, fx1, zx1⟩ := bk hbx (g) (by first | omega | (simp; done) | (simp; omega)); go_simp; (try go_bits); (try with_reducible rfl))); try simp only [Act.put, List.setIfInBounds_toArray, List.set_cons_zero, List.set_cons_succ]))
              (first | (refine wpG_pass rfl (by rfl) ?_; simp only [Act.put, List.setIfInBounds_toArray, List.set_cons_zero, List.set_cons_succ]) | (refine wpG_read (v := ?_) rfl (.inl ⟨by rfl, fun wx hbx => ?_⟩) ?_; rotate_left; (focus (obtain ⟨cx0, fx0, zx0⟩ := bk hbx (w.heap.size) (by first | omega | (simp; done) | (simp; omega)); obtain ⟨cx1, fx1, zx1⟩ := bk hbx (g) (by first | omega | (simp; done) | (simp; omega)); go_simp; (try go_bits); (try with_reducible rfl))); try simp only [Act.put, List.setIfInBounds_toArray, List.set_cons_zero, List.set_cons_succ]))
              (first | (refine wpG_pass rfl (by rfl) ?_; simp only [Act.put, List.setIfInBounds_toArray, List.set_cons_zero, List.set_cons_succ]) | (refine wpG_read (v := ?_) rfl (.inl ⟨by rfl, fun wx hbx => ?_⟩) ?_; rotate_left; (focus (obtain ⟨cx0, fx0, zx0⟩ := bk hbx (w.heap.size) (by first | omega | (simp; done) | (simp; omega)); obtain ⟨cx1, fx1, zx1⟩ := bk hbx (g) (by first | omega | (simp; done) | (simp; omega)); go_simp; (try go_bits); (try with_reducible rfl))); try simp only [Act.put, List.setIfInBounds_toArray, List.set_cons_zero, List.set_cons_succ]))
              (first | (refine wpG_skip rfl (by rfl) (by exact hS) ?_; try simp only [Act.put, List.setIfInBounds_toArray, List.set_cons_zero, List.set_cons_succ]) | (refine wpG_make rfl (fun K hK => ?_); go_simp; (with_reducible refine hK _ _ ?_ (fun hS2 => ?_)); (focus ((repeat' (first | (with_reducible exact Below.refl _ _) | (with_reducible assumption) | (with_reducible refine below_from_drew ?_) | (with_reducible refine Below.alloc ?_ ?_ _) | (with_reducible refine Below.drew ?_) | (with_reducible refine below_drewN ?_ _) | (with_reducible refine Below.setCell ?_ ?_ _) | (with_reducible refine below_via ?_ (by assumption) ?_) | (with_reducible refine below_ov ?_ ?_ _ _) | go_size)); done)); clear hK K hS; have hS := hS2; clear hS2; try simp only [Act.put, List.setIfInBounds_toArray, List.set_cons_zero, List.set_cons_succ]) | (refine wpG_make rfl (fun K hK => ?_); go_simp; (go_at_call 64; (with_reducible refine (HZ.out _ (by (repeat' (first | (with_reducible exact Below.refl _ _) | (with_reducible assumption) | (with_reducible refine below_from_drew ?_) | (with_reducible refine Below.alloc ?_ ?_ _) | (with_reducible refine Below.drew ?_) | (with_reducible refine below_drewN ?_ _) | (with_reducible refine Below.setCell ?_ ?_ _) | (with_reducible refine below_via ?_ (by assumption) ?_) | (with_reducible refine below_ov ?_ ?_ _ _) | go_size)))).mono ?_); rintro e u1 ⟨rfl, hb⟩; have hz := hb.size; refine (fun hB => ?_ : Below wr.heap.size wr u1 → _) ?_; rotate_left; (focus ((repeat' (first | (with_reducible exact Below.refl _ _) | (with_reducible assumption) | (with_reducible refine below_from_drew ?_) | (with_reducible refine Below.alloc ?_ ?_ _) | (with_reducible refine Below.drew ?_) | (with_reducible refine below_drewN ?_ _) | (with_reducible refine Below.setCell ?_ ?_ _) | (with_reducible refine below_via ?_ (by assumption) ?_) | (with_reducible refine below_ov ?_ ?_ _ _) | go_size)); done)); (try simp only [World.size_alloc, World.size_setCell, World.size_drew, ov_size] at hz)); (try simp only []); refine hK _ _ ?_ (fun hS2 => ?_); (focus ((repeat' (first | (with_reducible exact Below.refl _ _) | (with_reducible assumption) | (with_reducible refine below_from_drew ?_) | (with_reducible refine Below.alloc ?_ ?_ _) | (with_reducible refine Below.drew ?_) | (with_reducible refine below_drewN ?_ _) | (with_reducible refine Below.setCell ?_ ?_ _) | (with_reducible refine below_via ?_ (by assumption) ?_) | (with_reducible refine below_ov ?_ ?_ _ _) | go_size)); done)); clear hK K hS; have hS := hS2; clear hS2; (try clear hb); try simp only [Act.put, List.setIfInBounds_toArray, List.set_cons_zero, List.set_cons_succ]))
              (first | (refine wpG_pass rfl (by rfl) ?_; simp only [Act.put, List.setIfInBounds_toArray, List.set_cons_zero, List.set_cons_succ]) | (refine wpG_read (v := ?_) rfl (.inl ⟨by rfl, fun wx hbx => ?_⟩) ?_; rotate_left; (focus (obtain ⟨cx0, fx0, zx0⟩ := bk hbx (w.heap.size) (by first | omega | (simp; done) | (simp; omega)); obtain ⟨cx1, fx1, zx1⟩ := bk hbx (g) (by first | omega | (simp; done) | (simp; omega)); go_simp; (try go_bits); (try with_reducible rfl))); try simp only [Act.put, List.setIfInBounds_toArray, List.set_cons_zero, List.set_cons_succ]))
              (first | (refine wpG_pass rfl (by rfl) ?_; simp only [Act.put, List.setIfInBounds_toArray, List.set_cons_zero, List.set_cons_succ]) | (refine wpG_read (v := ?_) rfl (.inl ⟨by rfl, fun wx hbx => ?_⟩) ?_; rotate_left; (focus (obtain ⟨cx0, fx0, zx0⟩ := bk hbx (w.heap.size) (by first | omega | (simp; done) | (simp; omega)); obtain ⟨cx1, fx1, zx1⟩ := bk hbx (g) (by first | omega | (simp; done) | (simp; omega)); go_simp; (try go_bits); (try with_reducible rfl))); try simp only [Act.put, List.setIfInBounds_toArray, List.set_cons_zero, List.set_cons_succ]))
              (refine wpG_read (v := ?_) rfl (.inl ⟨by rfl, fun wx hbx => ?_⟩) ?_; rotate_left; (focus (obtain ⟨cx0, fx0, zx0⟩ := bk hbx (w.heap.size) (by first | omega | (simp; done) | (simp; omega)); obtain ⟨cx1, fx1, zx1⟩ := bk hbx (g) (by first | omega | (simp; done) | (simp; omega)); go_simp; (try go_bits); (try with_reducible rfl))); try simp only [Act.put, List.setIfInBounds_toArray, List.set_cons_zero, List.set_cons_succ])
              refine wpG_nil ?_
              have HR1 := Lib.hid (HR.out.below hB)
              clear c2 l2 o2 q2
              have c3 := HR1.out.has.cells; have l3 := HR1.out.has.lt; have o3 : Old u1 w.heap.size := l3
              go_wp2_with (first | (((go_at_call 40; (with_reducible refine (HPT.out _ (by (repeat' (first | (with_reducible exact Below.refl _ _) | (with_reducible assumption) | (with_reducible refine below_from_drew ?_) | (with_reducible refine Below.alloc ?_ ?_ _) | (with_reducible refine Below.drew ?_) | (with_reducible refine below_drewN ?_ _) | (with_reducible refine Below.setCell ?_ ?_ _) | (with_reducible refine below_via ?_ (by assumption) ?_) | (with_reducible refine below_ov ?_ ?_ _ _) | go_size)))).mono ?_); rintro e u6 ⟨v6, rfl, hown6, hb⟩; have hz := hb.size; refine (fun hB => ?_ : Below wr.heap.size wr u6 → _) ?_; rotate_left; (focus ((repeat' (first | (with_reducible exact Below.refl _ _) | (with_reducible assumption) | (with_reducible refine below_from_drew ?_) | (with_reducible refine Below.alloc ?_ ?_ _) | (with_reducible refine Below.drew ?_) | (with_reducible refine below_drewN ?_ _) | (with_reducible refine Below.setCell ?_ ?_ _) | (with_reducible refine below_via ?_ (by assumption) ?_) | (with_reducible refine below_ov ?_ ?_ _ _) | go_size)); done)); (try simp only [World.size_alloc, World.size_setCell, World.size_drew, ov_size] at hz))); have HO6 := Lib.hid hown6; have HR6 := Lib.hid (HR.out.below hB); clear hown6) | (at_builtin; refine wpList_app_id _ rfl _ _ rfl (w.heap.size + 1) _ _ _ _ (paintN (pa26 l) N (ctx26 l) (z26 l) k) rfl HR6.out.o rfl HO6.out (fun e => absurd e HPN.out) ?pl ?pb ?_))
              case pl => omega
              case pb => have := HR6.out.has.lt; omega
              intro v7 w7 hown7 hgrow7 hid7
              have hR7 := HR6.out.grow hown7 hgrow7 hid7
              rw [← HF3.out] at hR7
              obtain ⟨a7, c7, e7⟩ := hR7.o.shape
              have HR7 := Lib.hid hR7
              clear hown7 hgrow7 hid7 hR7
              subst e7
              go_wp2_with fail
              refine ⟨⟨j + 1, by push_cast; rfl, c, by rw [HF3.out, List.length_append]; omega, by rw [HE2.out]; exact HR7.out⟩, by simp only [intOf]; omega⟩
            · rcases hfl : flagB (z26 l) s j with _ | _
              · obtain ⟨f2, f3, f4⟩ := HFS.out hz hfl
                have HF3 := Lib.hid f3; have HF4 := Lib.hid f4
                have e1 : plB (z26 l) s ps j = ps := by unfold plB; rw [hfl]; rfl
                have HE2 := Lib.hid (show plB (z26 l) s ps (j + 1) = [] by unfold plB; rw [f2]; rfl)
                rw [e1] at HR ⊢
                have hzd : decide (0 ≤ z26 l k) = true := by simp; omega
                have hz0 : 0 ≤ z26 l k := by omega
                clear f2 f3 f4 e1 hfl
                generalize outB n ps s (z26 l) (paintN (pa26 l) N (ctx26 l) (z26 l)) j = out at *
                rcases Nat.eq_zero_or_pos j with c0 | c0
                · subst c0
                  go_upto_region 14 with fail
                  refine region_ord [(0, 0), (1, 0), (2, 1), (3, 0), (4, 0), (5, 0), (6, 0), (7, 0), (8, 0), (9, 0), (10, 0), (11, 0), (12, 0), (13, 0), (14, 1), (15, 0), (16, 0), (17, 0)] (by kernel_rfl) (by kernel_rfl) (fun _ _ d _ _ h => by cases d <;> exact h) (fun hS => ?_)
                  (refine wpG_read (v := ?_) rfl (.inl ⟨by rfl, fun wx hbx => ?_⟩) ?_; rotate_left; (focus (obtain ⟨cx0, fx0, zx0⟩ := bk hbx (w.heap.size) (by first | omega | (simp; done) | (simp; omega)); obtain ⟨cx1, fx1, zx1⟩ := bk hbx (g) (by first | omega | (simp; done) | (simp; omega)); go_simp; (try go_bits); (try with_reducible rfl))); try simp only [Act.put, List.setIfInBounds_toArray, List.set_cons_zero, List.set_cons_succ])
                  (refine wpG_read (v := ?_) rfl (.inl ⟨by rfl, fun wx hbx => ?_⟩) ?_; rotate_left; (focus (obtain ⟨cx0, fx0, zx0⟩ := bk hbx (w.heap.size) (by first | omega | (simp; done) | (simp; omega)); obtain ⟨cx1, fx1, zx1⟩ := bk hbx (g) (by first | omega | (simp; done) | (simp; omega)); go_simp; (try go_bits); (try with_reducible rfl))); try simp only [Act.put, List.setIfInBounds_toArray, List.set_cons_zero, List.set_cons_succ])
                  (refine wpG_make rfl (fun K hK => ?_); go_simp; (go_at_call 64; (with_reducible refine (HZ.out _ (by (repeat' (first | (with_reducible exact Below.refl _ _) | (with_reducible assumption) | (with_reducible refine below_from_drew ?_) | (with_reducible refine Below.alloc ?_ ?_ _) | (with_reducible refine Below.drew ?_) | (with_reducible refine below_drewN ?_ _) | (with_reducible refine Below.setCell ?_ ?_ _) | (with_reducible refine below_via ?_ (by assumption) ?_) | (with_reducible refine below_ov ?_ ?_ _ _) | go_size)))).mono ?_); rintro e u1 ⟨rfl, hb⟩; have hz := hb.size; refine (fun hB => ?_ : Below wr.heap.size wr u1 → _) ?_; rotate_left; (focus ((repeat' (first | (with_reducible exact Below.refl _ _) | (with_reducible assumption) | (with_reducible refine below_from_drew ?_) | (with_reducible refine Below.alloc ?_ ?_ _) | (with_reducible refine Below.drew ?_) | (with_reducible refine below_drewN ?_ _) | (with_reducible refine Below.setCell ?_ ?_ _) | (with_reducible refine below_via ?_ (by assumption) ?_) | (with_reducible refine below_ov ?_ ?_ _ _) | go_size)); done)); (try simp only [World.size_alloc, World.size_setCell, World.size_drew, ov_size] at hz)); (try simp only []); refine hK _ _ ?_ (fun hS2 => ?_); (focus ((repeat' (first | (with_reducible exact Below.refl _ _) | (with_reducible assumption) | (with_reducible refine below_from_drew ?_) | (with_reducible refine Below.alloc ?_ ?_ _) | (with_reducible refine Below.drew ?_) | (with_reducible refine below_drewN ?_ _) | (with_reducible refine Below.setCell ?_ ?_ _) | (with_reducible refine below_via ?_ (by assumption) ?_) | (with_reducible refine below_ov ?_ ?_ _ _) | go_size)); done)); clear hK K hS; have hS := hS2; clear hS2; (try clear hb); try simp only [Act.put, List.setIfInBounds_toArray, List.set_cons_zero, List.set_cons_succ])
                  (refine wpG_read (v := ?_) rfl (.inl ⟨by rfl, fun wx hbx => ?_⟩) ?_; rotate_left; (focus (obtain ⟨cx0, fx0, zx0⟩ := bk hbx (w.heap.size) (by first | omega | (simp; done) | (simp; omega)); obtain ⟨cx1, fx1, zx1⟩ := bk hbx (g) (by first | omega | (simp; done) | (simp; omega)); go_simp; (try go_bits); (try with_reducible rfl))); try simp only [Act.put, List.setIfInBounds_toArray, List.set_cons_zero, List.set_cons_succ])
                  (refine wpG_read (v := ?_) rfl (.inl ⟨by rfl, fun wx hbx => ?_⟩) ?_; rotate_left; (focus (obtain ⟨cx0, fx0, zx0⟩ := bk hbx (w.heap.size) (by first | omega | (simp; done) | (simp; omega)); obtain ⟨cx1, fx1, zx1⟩ := bk hbx (g) (by first | omega | (simp; done) | (simp; omega)); go_simp; (try go_bits); (try with_reducible rfl))); try simp only [Act.put, List.setIfInBounds_toArray, List.set_cons_zero, List.set_cons_succ])
                  (first | (refine wpG_pass rfl (by rfl) ?_; simp only [Act.put, List.setIfInBounds_toArray, List.set_cons_zero, List.set_cons_succ]) | (refine wpG_read (v := ?_) rfl (.inl ⟨by rfl, fun wx hbx => ?_⟩) ?_; rotate_left; (focus (obtain ⟨cx0, fx0, zx0⟩ := bk hbx (w.heap.size) (by first | omega | (simp; done) | (simp; omega)); obtain ⟨cx1, fx1, zx1⟩ := bk hbx (g) (by first | omega | (simp; done) | (simp; omega)); go_simp; (try go_bits); (try with_reducible rfl))); try simp only [Act.put, List.setIfInBounds_toArray, List.set_cons_zero, List.set_cons_succ]))
                  (first | (refine wpG_pass rfl (by rfl) ?_; simp only [Act.put, List.setIfInBounds_toArray, List.set_cons_zero, List.set_cons_succ]) | (refine wpG_read (v := ?_) rfl (.inl ⟨by rfl, fun wx hbx => ?_⟩) ?_; rotate_left; (focus (obtain ⟨cx0, fx0, zx0⟩ := bk hbx (w.heap.size) (by first | omega | (simp; done) | (simp; omega)); obtain ⟨cx1, fx1, zx1⟩ := bk hbx (g) (by first | omega | (simp; done) | (simp; omega)); go_simp; (try go_bits); (try with_reducible rfl))); try simp only [Act.put, List.setIfInBounds_toArray, List.set_cons_zero, List.set_cons_succ]))
                  (first | (refine wpG_pass rfl (by rfl) ?_; simp only [Act.put, List.setIfInBounds_toArray, List.set_cons_zero, List.set_cons_succ]) | (refine wpG_read (v := ?_) rfl (.inl ⟨by rfl, fun wx hbx => ?_⟩) ?_; rotate_left; (focus (obtain ⟨cx0, fx0, zx0⟩ := bk hbx (w.heap.size) (by first | omega | (simp; done) | (simp; omega)); obtain ⟨cx1, fx1, zx1⟩ := bk hbx (g) (by first | omega | (simp; done) | (simp; omega)); go_simp; (try go_bits); (try with_reducible rfl))); try simp only [Act.put, List.setIfInBounds_toArray, List.set_cons_zero, List.set_cons_succ]))
                  (first | (refine wpG_pass rfl (by rfl) ?_; simp only [Act.put, List.setIfInBounds_toArray, List.set_cons_zero, List.set_cons_succ]) | (refine wpG_read (v := ?_) rfl (.inl ⟨by rfl, fun wx hbx => ?_⟩) ?_; rotate_left; (focus (obtain ⟨cx0, fx0, zx0⟩ := bk hbx (w.heap.size) (by first | omega | (simp; done) | (simp; omega)); obtain ⟨cx1, fx1, zx1⟩ := bk hbx (g) (by first | omega | (simp; done) | (simp; omega)); go_simp; (try go_bits); (try with_reducible rfl))); try simp only [Act.put, List.setIfInBounds_toArray, List.set_cons_zero, List.set_cons_succ]))
                  (first | (refine wpG_pass rfl (by rfl) ?_; simp only [Act.put, List.setIfInBounds_toArray, List.set_cons_zero, List.set_cons_succ]) | (refine wpG_read (v := ?_) rfl (.inl ⟨by rfl, fun wx hbx => ?_⟩) ?_; rotate_left; (focus (obtain ⟨cx0, fx0, zx0⟩ := bk hbx (w.heap.size) (by first | omega | (simp; done) | (simp; omega)); obtain ⟨cx1, fx1, zx1⟩ := bk hbx (g) (by first | omega | (simp; done) | (simp; omega)); go_simp; (try go_bits); (try with_reducible rfl))); try simp only [Act.put, List.setIfInBounds_toArray, List.set_cons_zero, List.set_cons_succ]))
                  (first | (refine wpG_pass rfl (by rfl) ?_; simp only [Act.put, List.setIfInBounds_toArray, List.set_cons_zero, List.set_cons_succ]) | (refine wpG_read (v := ?_) rfl (.inl ⟨by rfl, fun wx hbx => ?_⟩) ?_; rotate_left; (focus (obtain ⟨cx0, fx0, zx0⟩ := bk hbx (w.heap.size) (by first | omega | (simp; done) | (simp; omega)); obtain ⟨cx1, fx1, zx1⟩ := bk hbx (g) (by first | omega | (simp; done) | (simp; omega)); go_simp; (try go_bits); (try with_reducible rfl))); try simp only [Act.put, List.setIfInBounds_toArray, List.set_cons_zero, List.set_cons_succ]))
                  (first | (refine wpG_pass rfl (by rfl) ?_; simp only [Act.put, List.setIfInBounds_toArray, List.set_cons_zero, List.set_cons_succ]) | (refine wpG_read (v := ?_) rfl (.inl ⟨by rfl, fun wx hbx => ?_⟩) ?_; rotate_left; (focus (obtain ⟨cx0, fx0, zx0⟩ := bk hbx (w.heap.size) (by first | omega | (simp; done) | (simp; omega)); obtain ⟨cx1, fx1, zx1⟩ := bk hbx (g) (by first | omega | (simp; done) | (simp; omega)); go_simp; (try go_bits); (try with_reducible rfl))); try simp only [Act.put, List.setIfInBounds_toArray, List.set_cons_zero, List.set_cons_succ]))
                  (first | (refine wpG_pass rfl (by rfl) ?_; simp only [Act.put, List.setIfInBounds_toArray, List.set_cons_zero, List.set_cons_succ]) | (refine wpG_read (v := ?_) rfl (.inl ⟨by rfl, fun wx hbx => ?_⟩) ?_; rotate_left; (focus (obtain ⟨cx0, fx0, zx0⟩ := bk hbx (w.heap.size) (by first | omega | (simp; done) | (simp; omega)); obtain ⟨cx1, fx1, zx1⟩ := bk hbx (g) (by first | omega | (simp; done) | (simp; omega)); go_simp; (try go_bits); (try with_reducible rfl))); try simp only [Act.put, List.setIfInBounds_toArray, List.set_cons_zero, List.set_cons_succ]))
                  (first | (refine wpG_pass rfl (by rfl) ?_; simp only [Act.put, List.setIfInBounds_toArray, List.set_cons_zero, List.set_cons_succ]) | (refine wpG_read (v := ?_) rfl (.inl ⟨by rfl, fun wx hbx => ?_⟩) ?_; rotate_left; (focus (obtain ⟨cx0, fx0, zx0⟩ := bk hbx (w.heap.size) (by first | omega | (simp; done) | (simp; omega)); obtain ⟨cx1, fx1, zx1⟩ := bk hbx (g) (by first | omega | (simp; done) | (simp; omega)); go_simp; (try go_bits); (try with_reducible rfl))); try simp only [Act.put, List.setIfInBounds_toArray, List.set_cons_zero, List.set_cons_succ]))
                  (first | (refine wpG_skip rfl (by rfl) (by exact hS) ?_; try simp only [Act.put, List.setIfInBounds_toArray, List.set_cons_zero, List.set_cons_succ]) | (refine wpG_make rfl (fun K hK => ?_); go_simp; (with_reducible refine hK _ _ ?_ (fun hS2 => ?_)); (focus ((repeat' (first | (with_reducible exact Below.refl _ _) | (with_reducible assumption) | (with_reducible refine below_from_drew ?_) | (with_reducible refine Below.alloc ?_ ?_ _) | (with_reducible refine Below.drew ?_) | (with_reducible refine below_drewN ?_ _) | (with_reducible refine Below.setCell ?_ ?_ _) | (with_reducible refine below_via ?_ (by assumption) ?_) | (with_reducible refine below_ov ?_ ?_ _ _) | go_size)); done)); clear hK K hS; have hS := hS2; clear hS2; try simp only [Act.put, List.setIfInBounds_toArray, List.set_cons_zero, List.set_cons_succ]) | (refine wpG_make rfl (fun K hK => ?_); go_simp; (go_at_call 64; (with_reducible refine (HZ.out _ (by (repeat' (first | (with_reducible exact Below.refl _ _) | (with_reducible assumption) | (with_reducible refine below_from_drew ?_) | (with_reducible refine Below.alloc ?_ ?_ _) | (with_reducible refine Below.drew ?_) | (with_reducible refine below_drewN ?_ _) | (with_reducible refine Below.setCell ?_ ?_ _) | (with_reducible refine below_via ?_ (by assumption) ?_) | (with_reducible refine below_ov ?_ ?_ _ _) | go_size)))).mono ?_); rintro e u1 ⟨rfl, hb⟩; have hz := hb.size; refine (fun hB => ?_ : Below wr.heap.size wr u1 → _) ?_; rotate_left; (focus ((repeat' (first | (with_reducible exact Below.refl _ _) | (with_reducible assumption) | (with_reducible refine below_from_drew ?_) | (with_reducible refine Below.alloc ?_ ?_ _) | (with_reducible refine Below.drew ?_) | (with_reducible refine below_drewN ?_ _) | (with_reducible refine Below.setCell ?_ ?_ _) | (with_reducible refine below_via ?_ (by assumption) ?_) | (with_reducible refine below_ov ?_ ?_ _ _) | go_size)); done)); (try simp only [World.size_alloc, World.size_setCell, World.size_drew, ov_size] at hz)); (try simp only []); refine hK _ _ ?_ (fun hS2 => ?_); (focus ((repeat' (first | (with_reducible exact Below.refl _ _) | (with_reducible assumption) | (with_reducible refine below_from_drew ?_) | (with_reducible refine Below.alloc ?_ ?_ _) | (with_reducible refine Below.drew ?_) | (with_reducible refine below_drewN ?_ _) | (with_reducible refine Below.setCell ?_ ?_ _) | (with_reducible refine below_via ?_ (by assumption) ?_) | (with_reducible refine below_ov ?_ ?_ _ _) | go_size)); done)); clear hK K hS; have hS := hS2; clear hS2; (try clear hb); try simp only [Act.put, List.setIfInBounds_toArray, List.set_cons_zero, List.set_cons_succ]))
                  (first | (refine wpG_pass rfl (by rfl) ?_; simp only [Act.put, List.setIfInBounds_toArray, List.set_cons_zero, List.set_cons_succ]) | (refine wpG_read (v := ?_) rfl (.inl ⟨by rfl, fun wx hbx => ?_⟩) ?_; rotate_left; (focus (obtain ⟨cx0, fx0, zx0⟩ := bk hbx (w.heap.size) (by first | omega | (simp; done) | (simp; omega)); obtain ⟨cx1, fx1, zx1⟩ := bk hbx (g) (by first | omega | (simp; done) | (simp; omega)); go_simp; (try go_bits); (try with_reducible rfl))); try simp only [Act.put, List.setIfInBounds_toArray, List.set_cons_zero, List.set_cons_succ]))
                  (first | (refine wpG_pass rfl (by rfl) ?_; simp only [Act.put, List.setIfInBounds_toArray, List.set_cons_zero, List.set_cons_succ]) | (refine wpG_read (v := ?_) rfl (.inl ⟨by rfl, fun wx hbx => ?_⟩) ?_; rotate_left; (focus (obtain ⟨cx0, fx0, zx0⟩ := bk hbx (w.heap.size) (by first | omega | (simp; done) | (simp; omega)); obtain ⟨cx1, fx1, zx1⟩ := bk hbx (g) (by first | omega | (simp; done) | (simp; omega)); go_simp; (try go_bits); (try with_reducible rfl))); try simp only [Act.put, List.setIfInBounds_toArray, List.set_cons_zero, List.set_cons_succ]))
                  (refine wpG_read (v := ?_) rfl (.inl ⟨by rfl, fun wx hbx => ?_⟩) ?_; rotate_left; (focus (obtain ⟨cx0, fx0, zx0⟩ := bk hbx (w.heap.size) (by first | omega | (simp; done) | (simp; omega)); obtain ⟨cx1, fx1, zx1⟩ := bk hbx (g) (by first | omega | (simp; done) | (simp; omega)); go_simp; (try go_bits); (try with_reducible rfl))); try simp only [Act.put, List.setIfInBounds_toArray, List.set_cons_zero, List.set_cons_succ])
                  refine wpG_nil ?_
                  have HR1 := Lib.hid (HR.out.below hB)
                  clear c2 l2 o2 q2
                  have c3 := HR1.out.has.cells; have l3 := HR1.out.has.lt; have o3 : Old u1 w.heap.size := l3
                  go_upto_region 16 with (at_builtin; refine wpList_app_id _ rfl _ _ rfl (w.heap.size + 1) (w.heap.size + 1) _ _ out ps rfl HR1.out.o rfl HR1.out.p HR1.out.np ?pl ?pb ?_)
                  case pl => omega
                  case pb => omega
                  intro v5 w9 hown5 hgrow5 hid5
                  obtain ⟨out2, ho2⟩ : ∃ o, out ++ ps = o := ⟨_, rfl⟩
                  rw [ho2] at hown5
                  have HO2L := Lib.hid (show out2.length = out.length + ps.length by rw [← ho2, List.length_append])
                  have HO2 := Lib.hid ho2
                  obtain ⟨a5, b5, rfl⟩ := hown5.shape
                  have HR5 := Lib.hid ((HR1.out.grow hown5 hgrow5 hid5).drop)
                  have c4 := HR5.out.has.cells; have l4 := HR5.out.has.lt; have o4 : Old w9 w.heap.size := l4
                  clear hown5 hgrow5 hid5 c3 l3 o3 ho2
                  go_wp2_with (first | ((go_at_call 40); (with_reducible refine (HPW.out _ HR5.out.bel).mono ?_); rintro e u6 ⟨v6, rfl, hown6, hb6⟩; have HO6 := Lib.hid hown6; have HR6 := Lib.hid (HR5.out.below hb6); clear hown6 hb6) | (at_builtin; refine wpList_app_id _ rfl _ _ rfl (w.heap.size + 1) _ _ _ _ (paintN (pa26 l) N (ctx26 l) (z26 l) k) rfl HR6.out.o rfl HO6.out (fun e => absurd e HPN.out) ?pl2 ?pb2 ?_))
                  case pl2 => have := HO2L.out; omega
                  case pb2 => have := HR6.out.has.lt; omega
                  intro v7 w7 hown7 hgrow7 hid7
                  have hR7 := HR6.out.grow hown7 hgrow7 hid7
                  rw [← HO2.out, ← HF3.out] at hR7
                  obtain ⟨a7, c7, e7⟩ := hR7.o.shape
                  have HR7 := Lib.hid hR7
                  clear hown7 hgrow7 hid7 hR7
                  subst e7
                  go_wp2_with fail
                  refine ⟨⟨0 + 1, by push_cast; rfl, c, by rw [HF3.out, List.length_append, HO2.out]; have := HO2L.out; omega, by rw [HE2.out]; exact HR7.out⟩, by simp only [intOf]; omega⟩
                · obtain ⟨r, rfl⟩ : ∃ r, j = r + 1 := ⟨j - 1, by omega⟩
                  have f5 := HF4.out (by omega)
                  have q3 := HGC.out r (by omega)
                  have hpN := HJ.out (by omega)
                  rw [Nat.add_sub_cancel] at hpN f5
                  obtain ⟨pv, hpv⟩ : ∃ x, s.getD r 0 = x := ⟨_, rfl⟩
                  rw [hpv] at q3 hpN f5
                  have HZ2 := Lib.hid (fun X (hX : Below wr.heap.size wr X) => pz_any l N pt bm bn pv base R X hN hpN (HI.out.below (hbw.trans (hX.mono hbw.size))))
                  have hzp : decide (z26 l pv < 0) = true := by simpa using f5
                  have hj0 : ¬ (r : Int) + 1 = 0 := by omega
                  have hj1 : ((r : Int) + 1 == 0) = false := by simp; omega
                  have c9 : (r : Int) + 1 - 1 = r := by omega
                  have c10 : (r : Int) < (s.length : Nat) := by omega
                  have c11 : (0 : Int) ≤ r := by omega
                  clear hpv
                  go_upto_region 14 with fail
                  refine region_ord [(0, 0), (1, 0), (2, 1), (3, 0), (4, 0), (5, 0), (6, 0), (7, 0), (8, 0), (9, 0), (10, 0), (11, 0), (12, 0), (13, 0), (14, 1), (15, 0), (16, 0), (17, 0)] (by kernel_rfl) (by kernel_rfl) (fun _ _ d _ _ h => by cases d <;> exact h) (fun hS => ?_)
                  (refine wpG_read (v := ?_) rfl (.inl ⟨by rfl, fun wx hbx => ?_⟩) ?_; rotate_left; (focus (obtain ⟨cx0, fx0, zx0⟩ := bk hbx (w.heap.size) (by first | omega | (simp; done) | (simp; omega)); obtain ⟨cx1, fx1, zx1⟩ := bk hbx (g) (by first | omega | (simp; done) | (simp; omega)); go_simp; (try go_bits); (try with_reducible rfl))); try simp only [Act.put, List.setIfInBounds_toArray, List.set_cons_zero, List.set_cons_succ])
                  (refine wpG_read (v := ?_) rfl (.inl ⟨by rfl, fun wx hbx => ?_⟩) ?_; rotate_left; (focus (obtain ⟨cx0, fx0, zx0⟩ := bk hbx (w.heap.size) (by first | omega | (simp; done) | (simp; omega)); obtain ⟨cx1, fx1, zx1⟩ := bk hbx (g) (by first | omega | (simp; done) | (simp; omega)); go_simp; (try go_bits); (try with_reducible rfl))); try simp only [Act.put, List.setIfInBounds_toArray, List.set_cons_zero, List.set_cons_succ])
                  (refine wpG_make rfl (fun K hK => ?_); go_simp; (first | (go_at_call 64; (with_reducible refine (HZ.out _ (by (repeat' (first | (with_reducible exact Below.refl _ _) | (with_reducible assumption) | (with_reducible refine below_from_drew ?_) | (with_reducible refine Below.alloc ?_ ?_ _) | (with_reducible refine Below.drew ?_) | (with_reducible refine below_drewN ?_ _) | (with_reducible refine Below.setCell ?_ ?_ _) | (with_reducible refine below_via ?_ (by assumption) ?_) | (with_reducible refine below_ov ?_ ?_ _ _) | go_size)))).mono ?_); rintro e u1 ⟨rfl, hb⟩; have hz := hb.size; refine (fun hB => ?_ : Below wr.heap.size wr u1 → _) ?_; rotate_left; (focus ((repeat' (first | (with_reducible exact Below.refl _ _) | (with_reducible assumption) | (with_reducible refine below_from_drew ?_) | (with_reducible refine Below.alloc ?_ ?_ _) | (with_reducible refine Below.drew ?_) | (with_reducible refine below_drewN ?_ _) | (with_reducible refine Below.setCell ?_ ?_ _) | (with_reducible refine below_via ?_ (by assumption) ?_) | (with_reducible refine below_ov ?_ ?_ _ _) | go_size)); done)); (try simp only [World.size_alloc, World.size_setCell, World.size_drew, ov_size] at hz)) | (go_at_call 64; (with_reducible refine (HZ2.out _ (by (repeat' (first | (with_reducible exact Below.refl _ _) | (with_reducible assumption) | (with_reducible refine below_from_drew ?_) | (with_reducible refine Below.alloc ?_ ?_ _) | (with_reducible refine Below.drew ?_) | (with_reducible refine below_drewN ?_ _) | (with_reducible refine Below.setCell ?_ ?_ _) | (with_reducible refine below_via ?_ (by assumption) ?_) | (with_reducible refine below_ov ?_ ?_ _ _) | go_size)))).mono ?_); rintro e u2 ⟨rfl, hb⟩; have hz := hb.size; refine (fun hB => ?_ : Below wr.heap.size wr u2 → _) ?_; rotate_left; (focus ((repeat' (first | (with_reducible exact Below.refl _ _) | (with_reducible assumption) | (with_reducible refine below_from_drew ?_) | (with_reducible refine Below.alloc ?_ ?_ _) | (with_reducible refine Below.drew ?_) | (with_reducible refine below_drewN ?_ _) | (with_reducible refine Below.setCell ?_ ?_ _) | (with_reducible refine below_via ?_ (by assumption) ?_) | (with_reducible refine below_ov ?_ ?_ _ _) | go_size)); done)); (try simp only [World.size_alloc, World.size_setCell, World.size_drew, ov_size] at hz))); (try simp only []); refine hK _ _ ?_ (fun hS2 => ?_); (focus ((repeat' (first | (with_reducible exact Below.refl _ _) | (with_reducible assumption) | (with_reducible refine below_from_drew ?_) | (with_reducible refine Below.alloc ?_ ?_ _) | (with_reducible refine Below.drew ?_) | (with_reducible refine below_drewN ?_ _) | (with_reducible refine Below.setCell ?_ ?_ _) | (with_reducible refine below_via ?_ (by assumption) ?_) | (with_reducible refine below_ov ?_ ?_ _ _) | go_size)); done)); clear hK K hS; have hS := hS2; clear hS2; (try clear hb); try simp only [Act.put, List.setIfInBounds_toArray, List.set_cons_zero, List.set_cons_succ])
                  (refine wpG_read (v := ?_) rfl (.inl ⟨by rfl, fun wx hbx => ?_⟩) ?_; rotate_left; (focus (obtain ⟨cx0, fx0, zx0⟩ := bk hbx (w.heap.size) (by first | omega | (simp; done) | (simp; omega)); obtain ⟨cx1, fx1, zx1⟩ := bk hbx (g) (by first | omega | (simp; done) | (simp; omega)); go_simp; (try go_bits); (try with_reducible rfl))); try simp only [Act.put, List.setIfInBounds_toArray, List.set_cons_zero, List.set_cons_succ])
                  (refine wpG_read (v := ?_) rfl (.inl ⟨by rfl, fun wx hbx => ?_⟩) ?_; rotate_left; (focus (obtain ⟨cx0, fx0, zx0⟩ := bk hbx (w.heap.size) (by first | omega | (simp; done) | (simp; omega)); obtain ⟨cx1, fx1, zx1⟩ := bk hbx (g) (by first | omega | (simp; done) | (simp; omega)); go_simp; (try go_bits); (try with_reducible rfl))); try simp only [Act.put, List.setIfInBounds_toArray, List.set_cons_zero, List.set_cons_succ])
                  (first | (refine wpG_pass rfl (by rfl) ?_; simp only [Act.put, List.setIfInBounds_toArray, List.set_cons_zero, List.set_cons_succ]) | (refine wpG_read (v := ?_) rfl (.inl ⟨by rfl, fun wx hbx => ?_⟩) ?_; rotate_left; (focus (obtain ⟨cx0, fx0, zx0⟩ := bk hbx (w.heap.size) (by first | omega | (simp; done) | (simp; omega)); obtain ⟨cx1, fx1, zx1⟩ := bk hbx (g) (by first | omega | (simp; done) | (simp; omega)); go_simp; (try go_bits); (try with_reducible rfl))); try simp only [Act.put, List.setIfInBounds_toArray, List.set_cons_zero, List.set_cons_succ]))
                  (first | (refine wpG_pass rfl (by rfl) ?_; simp only [Act.put, List.setIfInBounds_toArray, List.set_cons_zero, List.set_cons_succ]) | (refine wpG_read (v := ?_) rfl (.inl ⟨by rfl, fun wx hbx => ?_⟩) ?_; rotate_left; (focus (obtain ⟨cx0, fx0, zx0⟩ := bk hbx (w.heap.size) (by first | omega | (simp; done) | (simp; omega)); obtain ⟨cx1, fx1, zx1⟩ := bk hbx (g) (by first | omega | (simp; done) | (simp; omega)); go_simp; (try go_bits); (try with_reducible rfl))); try simp only [Act.put, List.setIfInBounds_toArray, List.set_cons_zero, List.set_cons_succ]))
                  (first | (refine wpG_pass rfl (by rfl) ?_; simp only [Act.put, List.setIfInBounds_toArray, List.set_cons_zero, List.set_cons_succ]) | (refine wpG_read (v := ?_) rfl (.inl ⟨by rfl, fun wx hbx => ?_⟩) ?_; rotate_left; (focus (obtain ⟨cx0, fx0, zx0⟩ := bk hbx (w.heap.size) (by first | omega | (simp; done) | (simp; omega)); obtain ⟨cx1, fx1, zx1⟩ := bk hbx (g) (by first | omega | (simp; done) | (simp; omega)); go_simp; (try go_bits); (try with_reducible rfl))); try simp only [Act.put, List.setIfInBounds_toArray, List.set_cons_zero, List.set_cons_succ]))
                  (first | (refine wpG_pass rfl (by rfl) ?_; simp only [Act.put, List.setIfInBounds_toArray, List.set_cons_zero, List.set_cons_succ]) | (refine wpG_read (v := ?_) rfl (.inl ⟨by rfl, fun wx hbx => ?_⟩) ?_; rotate_left; (focus (obtain ⟨cx0, fx0, zx0⟩ := bk hbx (w.heap.size) (by first | omega | (simp; done) | (simp; omega)); obtain ⟨cx1, fx1, zx1⟩ := bk hbx (g) (by first | omega | (simp; done) | (simp; omega)); go_simp; (try go_bits); (try with_reducible rfl))); try simp only [Act.put, List.setIfInBounds_toArray, List.set_cons_zero, List.set_cons_succ]))
                  (first | (refine wpG_pass rfl (by rfl) ?_; simp only [Act.put, List.setIfInBounds_toArray, List.set_cons_zero, List.set_cons_succ]) | (refine wpG_read (v := ?_) rfl (.inl ⟨by rfl, fun wx hbx => ?_⟩) ?_; rotate_left; (focus (obtain ⟨cx0, fx0, zx0⟩ := bk hbx (w.heap.size) (by first | omega | (simp; done) | (simp; omega)); obtain ⟨cx1, fx1, zx1⟩ := bk hbx (g) (by first | omega | (simp; done) | (simp; omega)); go_simp; (try go_bits); (try with_reducible rfl))); try simp only [Act.put, List.setIfInBounds_toArray, List.set_cons_zero, List.set_cons_succ]))
                  (first | (refine wpG_pass rfl (by rfl) ?_; simp only [Act.put, List.setIfInBounds_toArray, List.set_cons_zero, List.set_cons_succ]) | (refine wpG_read (v := ?_) rfl (.inl ⟨by rfl, fun wx hbx => ?_⟩) ?_; rotate_left; (focus (obtain ⟨cx0, fx0, zx0⟩ := bk hbx (w.heap.size) (by first | omega | (simp; done) | (simp; omega)); obtain ⟨cx1, fx1, zx1⟩ := bk hbx (g) (by first | omega | (simp; done) | (simp; omega)); go_simp; (try go_bits); (try with_reducible rfl))); try simp only [Act.put, List.setIfInBounds_toArray, List.set_cons_zero, List.set_cons_succ]))
                  (first | (refine wpG_pass rfl (by rfl) ?_; simp only [Act.put, List.setIfInBounds_toArray, List.set_cons_zero, List.set_cons_succ]) | (refine wpG_read (v := ?_) rfl (.inl ⟨by rfl, fun wx hbx => ?_⟩) ?_; rotate_left; (focus (obtain ⟨cx0, fx0, zx0⟩ := bk hbx (w.heap.size) (by first | omega | (simp; done) | (simp; omega)); obtain ⟨cx1, fx1, zx1⟩ := bk hbx (g) (by first | omega | (simp; done) | (simp; omega)); go_simp; (try go_bits); (try with_reducible rfl))); try simp only [Act.put, List.setIfInBounds_toArray, List.set_cons_zero, List.set_cons_succ]))
                  (first | (refine wpG_pass rfl (by rfl) ?_; simp only [Act.put, List.setIfInBounds_toArray, List.set_cons_zero, List.set_cons_succ]) | (refine wpG_read (v := ?_) rfl (.inl ⟨by rfl, fun wx hbx => ?_⟩) ?_; rotate_left; (focus (obtain ⟨cx0, fx0, zx0⟩ := bk hbx (w.heap.size) (by first | omega | (simp; done) | (simp; omega)); obtain ⟨cx1, fx1, zx1⟩ := bk hbx (g) (by first | omega | (simp; done) | (simp; omega)); go_simp; (try go_bits); (try with_reducible rfl))); try simp only [Act.put, List.setIfInBounds_toArray, List.set_cons_zero, List.set_cons_succ]))
                  (first | (refine wpG_pass rfl (by rfl) ?_; simp only [Act.put, List.setIfInBounds_toArray, List.set_cons_zero, List.set_cons_succ]) | (refine wpG_read (v := ?_) rfl (.inl ⟨by rfl, fun wx hbx => ?_⟩) ?_; rotate_left; (focus (obtain ⟨cx0, fx0, zx0⟩ := bk hbx (w.heap.size) (by first | omega | (simp; done) | (simp; omega)); obtain ⟨cx1, fx1, zx1⟩ := bk hbx (g) (by first | omega | (simp; done) | (simp; omega)); go_simp; (try go_bits); (try with_reducible rfl))); try simp only [Act.put, List.setIfInBounds_toArray, List.set_cons_zero, List.set_cons_succ]))
                  (first | (refine wpG_skip rfl (by rfl) (by exact hS) ?_; try simp only [Act.put, List.setIfInBounds_toArray, List.set_cons_zero, List.set_cons_succ]) | (refine wpG_make rfl (fun K hK => ?_); go_simp; (with_reducible refine hK _ _ ?_ (fun hS2 => ?_)); (focus ((repeat' (first | (with_reducible exact Below.refl _ _) | (with_reducible assumption) | (with_reducible refine below_from_drew ?_) | (with_reducible refine Below.alloc ?_ ?_ _) | (with_reducible refine Below.drew ?_) | (with_reducible refine below_drewN ?_ _) | (with_reducible refine Below.setCell ?_ ?_ _) | (with_reducible refine below_via ?_ (by assumption) ?_) | (with_reducible refine below_ov ?_ ?_ _ _) | go_size)); done)); clear hK K hS; have hS := hS2; clear hS2; try simp only [Act.put, List.setIfInBounds_toArray, List.set_cons_zero, List.set_cons_succ]) | (refine wpG_make rfl (fun K hK => ?_); go_simp; (first | (go_at_call 64; (with_reducible refine (HZ.out _ (by (repeat' (first | (with_reducible exact Below.refl _ _) | (with_reducible assumption) | (with_reducible refine below_from_drew ?_) | (with_reducible refine Below.alloc ?_ ?_ _) | (with_reducible refine Below.drew ?_) | (with_reducible refine below_drewN ?_ _) | (with_reducible refine Below.setCell ?_ ?_ _) | (with_reducible refine below_via ?_ (by assumption) ?_) | (with_reducible refine below_ov ?_ ?_ _ _) | go_size)))).mono ?_); rintro e u1 ⟨rfl, hb⟩; have hz := hb.size; refine (fun hB => ?_ : Below wr.heap.size wr u1 → _) ?_; rotate_left; (focus ((repeat' (first | (with_reducible exact Below.refl _ _) | (with_reducible assumption) | (with_reducible refine below_from_drew ?_) | (with_reducible refine Below.alloc ?_ ?_ _) | (with_reducible refine Below.drew ?_) | (with_reducible refine below_drewN ?_ _) | (with_reducible refine Below.setCell ?_ ?_ _) | (with_reducible refine below_via ?_ (by assumption) ?_) | (with_reducible refine below_ov ?_ ?_ _ _) | go_size)); done)); (try simp only [World.size_alloc, World.size_setCell, World.size_drew, ov_size] at hz)) | (go_at_call 64; (with_reducible refine (HZ2.out _ (by (repeat' (first | (with_reducible exact Below.refl _ _) | (with_reducible assumption) | (with_reducible refine below_from_drew ?_) | (with_reducible refine Below.alloc ?_ ?_ _) | (with_reducible refine Below.drew ?_) | (with_reducible refine below_drewN ?_ _) | (with_reducible refine Below.setCell ?_ ?_ _) | (with_reducible refine below_via ?_ (by assumption) ?_) | (with_reducible refine below_ov ?_ ?_ _ _) | go_size)))).mono ?_); rintro e u2 ⟨rfl, hb⟩; have hz := hb.size; refine (fun hB => ?_ : Below wr.heap.size wr u2 → _) ?_; rotate_left; (focus ((repeat' (first | (with_reducible exact Below.refl _ _) | (with_reducible assumption) | (with_reducible refine below_from_drew ?_) | (with_reducible refine Below.alloc ?_ ?_ _) | (with_reducible refine Below.drew ?_) | (with_reducible refine below_drewN ?_ _) | (with_reducible refine Below.setCell ?_ ?_ _) | (with_reducible refine below_via ?_ (by assumption) ?_) | (with_reducible refine below_ov ?_ ?_ _ _) | go_size)); done)); (try simp only [World.size_alloc, World.size_setCell, World.size_drew, ov_size] at hz))); (try simp only []); refine hK _ _ ?_ (fun hS2 => ?_); (focus ((repeat' (first | (with_reducible exact Below.refl _ _) | (with_reducible assumption) | (with_reducible refine below_from_drew ?_) | (with_reducible refine Below.alloc ?_ ?_ _) | (with_reducible refine Below.drew ?_) | (with_reducible refine below_drewN ?_ _) | (with_reducible refine Below.setCell ?_ ?_ _) | (with_reducible refine below_via ?_ (by assumption) ?_) | (with_reducible refine below_ov ?_ ?_ _ _) | go_size)); done)); clear hK K hS; have hS := hS2; clear hS2; (try clear hb); try simp only [Act.put, List.setIfInBounds_toArray, List.set_cons_zero, List.set_cons_succ]))
                  (first | (refine wpG_pass rfl (by rfl) ?_; simp only [Act.put, List.setIfInBounds_toArray, List.set_cons_zero, List.set_cons_succ]) | (refine wpG_read (v := ?_) rfl (.inl ⟨by rfl, fun wx hbx => ?_⟩) ?_; rotate_left; (focus (obtain ⟨cx0, fx0, zx0⟩ := bk hbx (w.heap.size) (by first | omega | (simp; done) | (simp; omega)); obtain ⟨cx1, fx1, zx1⟩ := bk hbx (g) (by first | omega | (simp; done) | (simp; omega)); go_simp; (try go_bits); (try with_reducible rfl))); try simp only [Act.put, List.setIfInBounds_toArray, List.set_cons_zero, List.set_cons_succ]))
                  (first | (refine wpG_pass rfl (by rfl) ?_; simp only [Act.put, List.setIfInBounds_toArray, List.set_cons_zero, List.set_cons_succ]) | (refine wpG_read (v := ?_) rfl (.inl ⟨by rfl, fun wx hbx => ?_⟩) ?_; rotate_left; (focus (obtain ⟨cx0, fx0, zx0⟩ := bk hbx (w.heap.size) (by first | omega | (simp; done) | (simp; omega)); obtain ⟨cx1, fx1, zx1⟩ := bk hbx (g) (by first | omega | (simp; done) | (simp; omega)); go_simp; (try go_bits); (try with_reducible rfl))); try simp only [Act.put, List.setIfInBounds_toArray, List.set_cons_zero, List.set_cons_succ]))
                  (refine wpG_read (v := ?_) rfl (.inl ⟨by rfl, fun wx hbx => ?_⟩) ?_; rotate_left; (focus (obtain ⟨cx0, fx0, zx0⟩ := bk hbx (w.heap.size) (by first | omega | (simp; done) | (simp; omega)); obtain ⟨cx1, fx1, zx1⟩ := bk hbx (g) (by first | omega | (simp; done) | (simp; omega)); go_simp; (try go_bits); (try with_reducible rfl))); try simp only [Act.put, List.setIfInBounds_toArray, List.set_cons_zero, List.set_cons_succ])
                  refine wpG_nil ?_
                  have HR1 := Lib.hid (HR.out.below hB)
                  clear c2 l2 o2 q2 q3
                  have c3 := HR1.out.has.cells; have l3 := HR1.out.has.lt; have o3 : Old u2 w.heap.size := l3
                  go_upto_region 16 with (at_builtin; refine wpList_app_id _ rfl _ _ rfl (w.heap.size + 1) (w.heap.size + 1) _ _ out ps rfl HR1.out.o rfl HR1.out.p HR1.out.np ?pl ?pb ?_)
                  case pl => omega
                  case pb => omega
                  intro v5 w9 hown5 hgrow5 hid5
                  obtain ⟨out2, ho2⟩ : ∃ o, out ++ ps = o := ⟨_, rfl⟩
                  rw [ho2] at hown5
                  have HO2L := Lib.hid (show out2.length = out.length + ps.length by rw [← ho2, List.length_append])
                  have HO2 := Lib.hid ho2
                  obtain ⟨a5, b5, rfl⟩ := hown5.shape
                  have HR5 := Lib.hid ((HR1.out.grow hown5 hgrow5 hid5).drop)
                  have c4 := HR5.out.has.cells; have l4 := HR5.out.has.lt; have o4 : Old w9 w.heap.size := l4
                  clear hown5 hgrow5 hid5 c3 l3 o3 ho2
                  go_wp2_with (first | ((go_at_call 40); (with_reducible refine (HPW.out _ HR5.out.bel).mono ?_); rintro e u6 ⟨v6, rfl, hown6, hb6⟩; have HO6 := Lib.hid hown6; have HR6 := Lib.hid (HR5.out.below hb6); clear hown6 hb6) | (at_builtin; refine wpList_app_id _ rfl _ _ rfl (w.heap.size + 1) _ _ _ _ (paintN (pa26 l) N (ctx26 l) (z26 l) k) rfl HR6.out.o rfl HO6.out (fun e => absurd e HPN.out) ?pl2 ?pb2 ?_))
                  case pl2 => have := HO2L.out; omega
                  case pb2 => have := HR6.out.has.lt; omega
                  intro v7 w7 hown7 hgrow7 hid7
                  have hR7 := HR6.out.grow hown7 hgrow7 hid7
                  rw [← HO2.out, ← HF3.out] at hR7
                  obtain ⟨a7, c7, e7⟩ := hR7.o.shape
                  have HR7 := Lib.hid hR7
                  clear hown7 hgrow7 hid7 hR7
                  subst e7
                  go_wp2_with fail
                  refine ⟨⟨r + 1 + 1, by push_cast; rfl, c, by rw [HF3.out, List.length_append, HO2.out]; have := HO2L.out; omega, by rw [HE2.out]; exact HR7.out⟩, by simp only [intOf]; omega⟩
              · obtain ⟨f1, f2, f3, f4, f5⟩ := HMR.out hfl
                obtain ⟨r, rfl⟩ : ∃ r, j = r + 1 := ⟨j - 1, by omega⟩
                have HF3 := Lib.hid f3
                have e1 : plB (z26 l) s ps (r + 1) = [] := by unfold plB; rw [hfl]; rfl
                have HE2 := Lib.hid (show plB (z26 l) s ps (r + 1 + 1) = [] by unfold plB; rw [f2]; rfl)
                rw [e1] at HR ⊢
                have q3 := HGC.out r (by omega)
                have hpN := HJ.out (by omega)
                rw [Nat.add_sub_cancel] at hpN f5
                have hzd : decide (0 ≤ z26 l k) = true := by simp; omega
                have hz0 : 0 ≤ z26 l k := by omega
                obtain ⟨pv, hpv⟩ : ∃ x, s.getD r 0 = x := ⟨_, rfl⟩
                rw [hpv] at q3 hpN f5
                have HZ2 := Lib.hid (fun X (hX : Below wr.heap.size wr X) => pz_any l N pt bm bn pv base R X hN hpN (HI.out.below (hbw.trans (hX.mono hbw.size))))
                have hzp : decide (z26 l pv < 0) = false := by simp; omega
                have hj0 : ¬ (r : Int) + 1 = 0 := by omega
                have hj1 : ((r : Int) + 1 == 0) = false := by simp; omega
                have c9 : (r : Int) + 1 - 1 = r := by omega
                have c10 : (r : Int) < (s.length : Nat) := by omega
                have c11 : (0 : Int) ≤ r := by omega
                clear f1 f2 f3 f4 e1 hfl hpv
                generalize outB n ps s (z26 l) (paintN (pa26 l) N (ctx26 l) (z26 l)) (r + 1) = out at *
                go_upto_region 14 with fail
                refine region_ord [(0, 0), (1, 0), (2, 1), (3, 0), (4, 0), (5, 0), (6, 0), (7, 0), (8, 0), (9, 0), (10, 0), (11, 0), (12, 0), (13, 0), (14, 1), (15, 0), (16, 0), (17, 0)] (by kernel_rfl) (by kernel_rfl) (fun _ _ d _ _ h => by cases d <;> exact h) (fun hS => ?_)
                (refine wpG_read (v := ?_) rfl (.inl ⟨by rfl, fun wx hbx => ?_⟩) ?_; rotate_left; (focus (obtain ⟨cx0, fx0, zx0⟩ := bk hbx (w.heap.size) (by first | omega | (simp; done) | (simp; omega)); obtain ⟨cx1, fx1, zx1⟩ := bk hbx (g) (by first | omega | (simp; done) | (simp; omega)); go_simp; (try go_bits); (try with_reducible rfl))); try simp only [Act.put, List.setIfInBounds_toArray, List.set_cons_zero, List.set_cons_succ])
                (refine wpG_read (v := ?_) rfl (.inl ⟨by rfl, fun wx hbx => ?_⟩) ?_; rotate_left; (focus (obtain ⟨cx0, fx0, zx0⟩ := bk hbx (w.heap.size) (by first | omega | (simp; done) | (simp; omega)); obtain ⟨cx1, fx1, zx1⟩ := bk hbx (g) (by first | omega | (simp; done) | (simp; omega)); go_simp; (try go_bits); (try with_reducible rfl))); try simp only [Act.put, List.setIfInBounds_toArray, List.set_cons_zero, List.set_cons_succ])
                (refine wpG_make rfl (fun K hK => ?_); go_simp; (first | (go_at_call 64; (with_reducible refine (HZ.out _ (by (repeat' (first | (with_reducible exact Below.refl _ _) | (with_reducible assumption) | (with_reducible refine below_from_drew ?_) | (with_reducible refine Below.alloc ?_ ?_ _) | (with_reducible refine Below.drew ?_) | (with_reducible refine below_drewN ?_ _) | (with_reducible refine Below.setCell ?_ ?_ _) | (with_reducible refine below_via ?_ (by assumption) ?_) | (with_reducible refine below_ov ?_ ?_ _ _) | go_size)))).mono ?_); rintro e u1 ⟨rfl, hb⟩; have hz := hb.size; refine (fun hB => ?_ : Below wr.heap.size wr u1 → _) ?_; rotate_left; (focus ((repeat' (first | (with_reducible exact Below.refl _ _) | (with_reducible assumption) | (with_reducible refine below_from_drew ?_) | (with_reducible refine Below.alloc ?_ ?_ _) | (with_reducible refine Below.drew ?_) | (with_reducible refine below_drewN ?_ _) | (with_reducible refine Below.setCell ?_ ?_ _) | (with_reducible refine below_via ?_ (by assumption) ?_) | (with_reducible refine below_ov ?_ ?_ _ _) | go_size)); done)); (try simp only [World.size_alloc, World.size_setCell, World.size_drew, ov_size] at hz)) | (go_at_call 64; (with_reducible refine (HZ2.out _ (by (repeat' (first | (with_reducible exact Below.refl _ _) | (with_reducible assumption) | (with_reducible refine below_from_drew ?_) | (with_reducible refine Below.alloc ?_ ?_ _) | (with_reducible refine Below.drew ?_) | (with_reducible refine below_drewN ?_ _) | (with_reducible refine Below.setCell ?_ ?_ _) | (with_reducible refine below_via ?_ (by assumption) ?_) | (with_reducible refine below_ov ?_ ?_ _ _) | go_size)))).mono ?_); rintro e u2 ⟨rfl, hb⟩; have hz := hb.size; refine (fun hB => ?_ : Below wr.heap.size wr u2 → _) ?_; rotate_left; (focus ((repeat' (first | (with_reducible exact Below.refl _ _) | (with_reducible assumption) | (with_reducible refine below_from_drew ?_) | (with_reducible refine Below.alloc ?_ ?_ _) | (with_reducible refine Below.drew ?_) | (with_reducible refine below_drewN ?_ _) | (with_reducible refine Below.setCell ?_ ?_ _) | (with_reducible refine below_via ?_ (by assumption) ?_) | (with_reducible refine below_ov ?_ ?_ _ _) | go_size)); done)); (try simp only [World.size_alloc, World.size_setCell, World.size_drew, ov_size] at hz))); (try simp only []); refine hK _ _ ?_ (fun hS2 => ?_); (focus ((repeat' (first | (with_reducible exact Below.refl _ _) | (with_reducible assumption) | (with_reducible refine below_from_drew ?_) | (with_reducible refine Below.alloc ?_ ?_ _) | (with_reducible refine Below.drew ?_) | (with_reducible refine below_drewN ?_ _) | (with_reducible refine Below.setCell ?_ ?_ _) | (with_reducible refine below_via ?_ (by assumption) ?_) | (with_reducible refine below_ov ?_ ?_ _ _) | go_size)); done)); clear hK K hS; have hS := hS2; clear hS2; (try clear hb); try simp only [Act.put, List.setIfInBounds_toArray, List.set_cons_zero, List.set_cons_succ])
                (refine wpG_read (v := ?_) rfl (.inl ⟨by rfl, fun wx hbx => ?_⟩) ?_; rotate_left; (focus (obtain ⟨cx0, fx0, zx0⟩ := bk hbx (w.heap.size) (by first | omega | (simp; done) | (simp; omega)); obtain ⟨cx1, fx1, zx1⟩ := bk hbx (g) (by first | omega | (simp; done) | (simp; omega)); go_simp; (try go_bits); (try with_reducible rfl))); try simp only [Act.put, List.setIfInBounds_toArray, List.set_cons_zero, List.set_cons_succ])
                (refine wpG_read (v := ?_) rfl (.inl ⟨by rfl, fun wx hbx => ?_⟩) ?_; rotate_left; (focus (obtain ⟨cx0, fx0, zx0⟩ := bk hbx (w.heap.size) (by first | omega | (simp; done) | (simp; omega)); obtain ⟨cx1, fx1, zx1⟩ := bk hbx (g) (by first | omega | (simp; done) | (simp; omega)); go_simp; (try go_bits); (try with_reducible rfl))); try simp only [Act.put, List.setIfInBounds_toArray, List.set_cons_zero, List.set_cons_succ])
                (first | (refine wpG_pass rfl (by rfl) ?_; simp only [Act.put, List.setIfInBounds_toArray, List.set_cons_zero, List.set_cons_succ]) | (refine wpG_read (v := ?_) rfl (.inl ⟨by rfl, fun wx hbx => ?_⟩) ?_; rotate_left; (focus (obtain ⟨cx0, fx0, zx0⟩ := bk hbx (w.heap.size) (by first | omega | (simp; done) | (simp; omega)); obtain ⟨cx1, fx1, zx1⟩ := bk hbx (g) (by first | omega | (simp; done) | (simp; omega)); go_simp; (try go_bits); (try with_reducible rfl))); try simp only [Act.put, List.setIfInBounds_toArray, List.set_cons_zero, List.set_cons_succ]))
                (first | (refine wpG_pass rfl (by rfl) ?_; simp only [Act.put, List.setIfInBounds_toArray, List.set_cons_zero, List.set_cons_succ]) | (refine wpG_read (v := ?_) rfl (.inl ⟨by rfl, fun wx hbx => ?_⟩) ?_; rotate_left; (focus (obtain ⟨cx0, fx0, zx0⟩ := bk hbx (w.heap.size) (by first | omega | (simp; done) | (simp; omega)); obtain ⟨cx1, fx1, zx1⟩ := bk hbx (g) (by first | omega | (simp; done) | (simp; omega)); go_simp; (try go_bits); (try with_reducible rfl))); try simp only [Act.put, List.setIfInBounds_toArray, List.set_cons_zero, List.set_cons_succ]))
                (first | (refine wpG_pass rfl (by rfl) ?_; simp only [Act.put, List.setIfInBounds_toArray, List.set_cons_zero, List.set_cons_succ]) | (refine wpG_read (v := ?_) rfl (.inl ⟨by rfl, fun wx hbx => ?_⟩) ?_; rotate_left; (focus (obtain ⟨cx0, fx0, zx0⟩ := bk hbx (w.heap.size) (by first | omega | (simp; done) | (simp; omega)); obtain ⟨cx1, fx1, zx1⟩ := bk hbx (g) (by first | omega | (simp; done) | (simp; omega)); go_simp; (try go_bits); (try with_reducible rfl))); try simp only [Act.put, List.setIfInBounds_toArray, List.set_cons_zero, List.set_cons_succ]))
                (first | (refine wpG_pass rfl (by rfl) ?_; simp only [Act.put, List.setIfInBounds_toArray, List.set_cons_zero, List.set_cons_succ]) | (refine wpG_read (v := ?_) rfl (.inl ⟨by rfl, fun wx hbx => ?_⟩) ?_; rotate_left; (focus (obtain ⟨cx0, fx0, zx0⟩ := bk hbx (w.heap.size) (by first | omega | (simp; done) | (simp; omega)); obtain ⟨cx1, fx1, zx1⟩ := bk hbx (g) (by first | omega | (simp; done) | (simp; omega)); go_simp; (try go_bits); (try with_reducible rfl))); try simp only [Act.put, List.setIfInBounds_toArray, List.set_cons_zero, List.set_cons_succ]))
                (first | (refine wpG_pass rfl (by rfl) ?_; simp only [Act.put, List.setIfInBounds_toArray, List.set_cons_zero, List.set_cons_succ]) | (refine wpG_read (v := ?_) rfl (.inl ⟨by rfl, fun wx hbx => ?_⟩) ?_; rotate_left; (focus (obtain ⟨cx0, fx0, zx0⟩ := bk hbx (w.heap.size) (by first | omega | (simp; done) | (simp; omega)); obtain ⟨cx1, fx1, zx1⟩ := bk hbx (g) (by first | omega | (simp; done) | (simp; omega)); go_simp; (try go_bits); (try with_reducible rfl))); try simp only [Act.put, List.setIfInBounds_toArray, List.set_cons_zero, List.set_cons_succ]))
                (first | (refine wpG_pass rfl (by rfl) ?_; simp only [Act.put, List.setIfInBounds_toArray, List.set_cons_zero, List.set_cons_succ]) | (refine wpG_read (v := ?_) rfl (.inl ⟨by rfl, fun wx hbx => ?_⟩) ?_; rotate_left; (focus (obtain ⟨cx0, fx0, zx0⟩ := bk hbx (w.heap.size) (by first | omega | (simp; done) | (simp; omega)); obtain ⟨cx1, fx1, zx1⟩ := bk hbx (g) (by first | omega | (simp; done) | (simp; omega)); go_simp; (try go_bits); (try with_reducible rfl))); try simp only [Act.put, List.setIfInBounds_toArray, List.set_cons_zero, List.set_cons_succ]))
                (first | (refine wpG_pass rfl (by rfl) ?_; simp only [Act.put, List.setIfInBounds_toArray, List.set_cons_zero, List.set_cons_succ]) | (refine wpG_read (v := ?_) rfl (.inl ⟨by rfl, fun wx hbx => ?_⟩) ?_; rotate_left; (focus (obtain ⟨cx0, fx0, zx0⟩ := bk hbx (w.heap.size) (by first | omega | (simp; done) | (simp; omega)); obtain ⟨cx1, fx1, zx1⟩ := bk hbx (g) (by first | omega | (simp; done) | (simp; omega)); go_simp; (try go_bits); (try with_reducible rfl))); try simp only [Act.put, List.setIfInBounds_toArray, List.set_cons_zero, List.set_cons_succ]))
                (first | (refine wpG_pass rfl (by rfl) ?_; simp only [Act.put, List.setIfInBounds_toArray, List.set_cons_zero, List.set_cons_succ]) | (refine wpG_read (v := ?_) rfl (.inl ⟨by rfl, fun wx hbx => ?_⟩) ?_; rotate_left; (focus (obtain ⟨cx0, fx0, zx0⟩ := bk hbx (w.heap.size) (by first | omega | (simp; done) | (simp; omega)); obtain ⟨cx1, fx1, zx1⟩ := bk hbx (g) (by first | omega | (simp; done) | (simp; omega)); go_simp; (try go_bits); (try with_reducible rfl))); try simp only [Act.put, List.setIfInBounds_toArray, List.set_cons_zero, List.set_cons_succ]))
                (first | (refine wpG_pass rfl (by rfl) ?_; simp only [Act.put, List.setIfInBounds_toArray, List.set_cons_zero, List.set_cons_succ]) | (refine wpG_read (v := ?_) rfl (.inl ⟨by rfl, fun wx hbx => ?_⟩) ?_; rotate_left; (focus (obtain ⟨cx0, fx0, zx0⟩ := bk hbx (w.heap.size) (by first | omega | (simp; done) | (simp; omega)); obtain ⟨cx1, fx1, zx1⟩ := bk hbx (g) (by first | omega | (simp; done) | (simp; omega)); go_simp; (try go_bits); (try with_reducible rfl))); try simp only [Act.put, List.setIfInBounds_toArray, List.set_cons_zero, List.set_cons_succ]))
                (first | (refine wpG_skip rfl (by rfl) (by exact hS) ?_; try simp only [Act.put, List.setIfInBounds_toArray, List.set_cons_zero, List.set_cons_succ]) | (refine wpG_make rfl (fun K hK => ?_); go_simp; (with_reducible refine hK _ _ ?_ (fun hS2 => ?_)); (focus ((repeat' (first | (with_reducible exact Below.refl _ _) | (with_reducible assumption) | (with_reducible refine below_from_drew ?_) | (with_reducible refine Below.alloc ?_ ?_ _) | (with_reducible refine Below.drew ?_) | (with_reducible refine below_drewN ?_ _) | (with_reducible refine Below.setCell ?_ ?_ _) | (with_reducible refine below_via ?_ (by assumption) ?_) | (with_reducible refine below_ov ?_ ?_ _ _) | go_size)); done)); clear hK K hS; have hS := hS2; clear hS2; try simp only [Act.put, List.setIfInBounds_toArray, List.set_cons_zero, List.set_cons_succ]) | (refine wpG_make rfl (fun K hK => ?_); go_simp; (first | (go_at_call 64; (with_reducible refine (HZ.out _ (by (repeat' (first | (with_reducible exact Below.refl _ _) | (with_reducible assumption) | (with_reducible refine below_from_drew ?_) | (with_reducible refine Below.alloc ?_ ?_ _) | (with_reducible refine Below.drew ?_) | (with_reducible refine below_drewN ?_ _) | (with_reducible refine Below.setCell ?_ ?_ _) | (with_reducible refine below_via ?_ (by assumption) ?_) | (with_reducible refine below_ov ?_ ?_ _ _) | go_size)))).mono ?_); rintro e u1 ⟨rfl, hb⟩; have hz := hb.size; refine (fun hB => ?_ : Below wr.heap.size wr u1 → _) ?_; rotate_left; (focus ((repeat' (first | (with_reducible exact Below.refl _ _) | (with_reducible assumption) | (with_reducible refine below_from_drew ?_) | (with_reducible refine Below.alloc ?_ ?_ _) | (with_reducible refine Below.drew ?_) | (with_reducible refine below_drewN ?_ _) | (with_reducible refine Below.setCell ?_ ?_ _) | (with_reducible refine below_via ?_ (by assumption) ?_) | (with_reducible refine below_ov ?_ ?_ _ _) | go_size)); done)); (try simp only [World.size_alloc, World.size_setCell, World.size_drew, ov_size] at hz)) | (go_at_call 64; (with_reducible refine (HZ2.out _ (by (repeat' (first | (with_reducible exact Below.refl _ _) | (with_reducible assumption) | (with_reducible refine below_from_drew ?_) | (with_reducible refine Below.alloc ?_ ?_ _) | (with_reducible refine Below.drew ?_) | (with_reducible refine below_drewN ?_ _) | (with_reducible refine Below.setCell ?_ ?_ _) | (with_reducible refine below_via ?_ (by assumption) ?_) | (with_reducible refine below_ov ?_ ?_ _ _) | go_size)))).mono ?_); rintro e u2 ⟨rfl, hb⟩; have hz := hb.size; refine (fun hB => ?_ : Below wr.heap.size wr u2 → _) ?_; rotate_left; (focus ((repeat' (first | (with_reducible exact Below.refl _ _) | (with_reducible assumption) | (with_reducible refine below_from_drew ?_) | (with_reducible refine Below.alloc ?_ ?_ _) | (with_reducible refine Below.drew ?_) | (with_reducible refine below_drewN ?_ _) | (with_reducible refine Below.setCell ?_ ?_ _) | (with_reducible refine below_via ?_ (by assumption) ?_) | (with_reducible refine below_ov ?_ ?_ _ _) | go_size)); done)); (try simp only [World.size_alloc, World.size_setCell, World.size_drew, ov_size] at hz))); (try simp only []); refine hK _ _ ?_ (fun hS2 => ?_); (focus ((repeat' (first | (with_reducible exact Below.refl _ _) | (with_reducible assumption) | (with_reducible refine below_from_drew ?_) | (with_reducible refine Below.alloc ?_ ?_ _) | (with_reducible refine Below.drew ?_) | (with_reducible refine below_drewN ?_ _) | (with_reducible refine Below.setCell ?_ ?_ _) | (with_reducible refine below_via ?_ (by assumption) ?_) | (with_reducible refine below_ov ?_ ?_ _ _) | go_size)); done)); clear hK K hS; have hS := hS2; clear hS2; (try clear hb); try simp only [Act.put, List.setIfInBounds_toArray, List.set_cons_zero, List.set_cons_succ]))
                (first | (refine wpG_pass rfl (by rfl) ?_; simp only [Act.put, List.setIfInBounds_toArray, List.set_cons_zero, List.set_cons_succ]) | (refine wpG_read (v := ?_) rfl (.inl ⟨by rfl, fun wx hbx => ?_⟩) ?_; rotate_left; (focus (obtain ⟨cx0, fx0, zx0⟩ := bk hbx (w.heap.size) (by first | omega | (simp; done) | (simp; omega)); obtain ⟨cx1, fx1, zx1⟩ := bk hbx (g) (by first | omega | (simp; done) | (simp; omega)); go_simp; (try go_bits); (try with_reducible rfl))); try simp only [Act.put, List.setIfInBounds_toArray, List.set_cons_zero, List.set_cons_succ]))
                (first | (refine wpG_pass rfl (by rfl) ?_; simp only [Act.put, List.setIfInBounds_toArray, List.set_cons_zero, List.set_cons_succ]) | (refine wpG_read (v := ?_) rfl (.inl ⟨by rfl, fun wx hbx => ?_⟩) ?_; rotate_left; (focus (obtain ⟨cx0, fx0, zx0⟩ := bk hbx (w.heap.size) (by first | omega | (simp; done) | (simp; omega)); obtain ⟨cx1, fx1, zx1⟩ := bk hbx (g) (by first | omega | (simp; done) | (simp; omega)); go_simp; (try go_bits); (try with_reducible rfl))); try simp only [Act.put, List.setIfInBounds_toArray, List.set_cons_zero, List.set_cons_succ]))
                (refine wpG_read (v := ?_) rfl (.inl ⟨by rfl, fun wx hbx => ?_⟩) ?_; rotate_left; (focus (obtain ⟨cx0, fx0, zx0⟩ := bk hbx (w.heap.size) (by first | omega | (simp; done) | (simp; omega)); obtain ⟨cx1, fx1, zx1⟩ := bk hbx (g) (by first | omega | (simp; done) | (simp; omega)); go_simp; (try go_bits); (try with_reducible rfl))); try simp only [Act.put, List.setIfInBounds_toArray, List.set_cons_zero, List.set_cons_succ])
                refine wpG_nil ?_
                have HR1 := Lib.hid (HR.out.below hB)
                clear c2 l2 o2 q2 q3
                have c3 := HR1.out.has.cells; have l3 := HR1.out.has.lt; have o3 : Old u2 w.heap.size := l3
                go_wp2_with (first | (((go_at_call 40; (with_reducible refine (HPT.out _ (by (repeat' (first | (with_reducible exact Below.refl _ _) | (with_reducible assumption) | (with_reducible refine below_from_drew ?_) | (with_reducible refine Below.alloc ?_ ?_ _) | (with_reducible refine Below.drew ?_) | (with_reducible refine below_drewN ?_ _) | (with_reducible refine Below.setCell ?_ ?_ _) | (with_reducible refine below_via ?_ (by assumption) ?_) | (with_reducible refine below_ov ?_ ?_ _ _) | go_size)))).mono ?_); rintro e u6 ⟨v6, rfl, hown6, hb⟩; have hz := hb.size; refine (fun hB => ?_ : Below wr.heap.size wr u6 → _) ?_; rotate_left; (focus ((repeat' (first | (with_reducible exact Below.refl _ _) | (with_reducible assumption) | (with_reducible refine below_from_drew ?_) | (with_reducible refine Below.alloc ?_ ?_ _) | (with_reducible refine Below.drew ?_) | (with_reducible refine below_drewN ?_ _) | (with_reducible refine Below.setCell ?_ ?_ _) | (with_reducible refine below_via ?_ (by assumption) ?_) | (with_reducible refine below_ov ?_ ?_ _ _) | go_size)); done)); (try simp only [World.size_alloc, World.size_setCell, World.size_drew, ov_size] at hz))); have HO6 := Lib.hid hown6; have HR6 := Lib.hid (HR.out.below hB); clear hown6) | (at_builtin; refine wpList_app_id _ rfl _ _ rfl (w.heap.size + 1) _ _ _ _ (paintN (pa26 l) N (ctx26 l) (z26 l) k) rfl HR6.out.o rfl HO6.out (fun e => absurd e HPN.out) ?pl ?pb ?_))
                case pl => omega
                case pb => have := HR6.out.has.lt; omega
                intro v7 w7 hown7 hgrow7 hid7
                have hR7 := HR6.out.grow hown7 hgrow7 hid7
                rw [← HF3.out] at hR7
                obtain ⟨a7, c7, e7⟩ := hR7.o.shape
                have HR7 := Lib.hid hR7
                clear hown7 hgrow7 hid7 hR7
                subst e7
                go_wp2_with fail
                refine ⟨⟨r + 1 + 1, by push_cast; rfl, c, by rw [HF3.out, List.length_append]; omega, by rw [HE2.out]; exact HR7.out⟩, by simp only [intOf]; omega⟩
          · have c2' : decide ((j : Int) < (s.length : Nat)) = false := by simp; omega
            obtain rfl : j = s.length := by omega
            have HSQ := Lib.hid (HSP.out s (HS1.out) HS2.out)
            have HEN := Lib.hid (outB_end (n := n) (ps := ps) (s := s) (z := z26 l) (P := paintN (pa26 l) N (ctx26 l) (z26 l)) (g := fun k => if ctx26 l k = true then paintN (pa26 l) N (ctx26 l) (z26 l) k else [k]) (fun k hk => if_pos (HSM.out k hk).2) (fun k hk => by
              have := List.mem_filter.1 (HPS.out ▸ hk : k ∈ ofs.filter (fun k => !ctx26 l k))
              exact if_neg (by simpa using this.2)))
            have hplb : (plB (z26 l) s ps s.length).length ≤ 60 := by unfold plB; split; exact Nat.zero_le _; exact hxl
            have HPL := Lib.hid (show outB n ps s (z26 l) (paintN (pa26 l) N (ctx26 l) (z26 l)) s.length ++ plB (z26 l) s ps s.length = paintN (pa26 l) N (ctx26 l) (z26 l) n by
              rw [HPE.out, HSQ.out, HPS.out]; exact HEN.out)
            have hl2 : s.length ≤ 60 := hyl
            clear hr
            go_wp2_with (at_builtin; refine wpList_app_id _ rfl _ _ rfl (w.heap.size + 1) (w.heap.size + 1) _ _ _ (plB (z26 l) s ps s.length) rfl HR.out.o rfl HR.out.p HR.out.np ?pl ?pb ?_)
            case pl => omega
            case pb => omega
            intro v7 w7 hown7 hgrow7 hid7
            have hR7 := HR.out.grow hown7 hgrow7 hid7
            rw [HPL.out] at hR7
            have HR7 := Lib.hid hR7
            clear hown7 hgrow7 hid7 hR7
            go_wp2_with fail
            go_ret
            exact ⟨_, rfl, HR7.out.o.wide (by omega), HR7.out.bel⟩
end Go.Proofs.Ytjcbphhemmdnjaa
