/- law26 (stack): painter.of by contract. -/
import Derived.Test.YtjcbphhemmdnjaaStkVW
import Derived.Test.YtjcbphhemmdnjaaStkSTU
namespace Go.Proofs.Ytjcbphhemmdnjaa
open Go Go.RowKit
set_option linter.unusedSimpArgs false
set_option linter.unusedVariables false
-- below_from_drew
attribute [local go_sem] ov_cell_same ov_cell_other ov_frozen_same ov_frozen_other ov_size ov_setCell_same ov_setCell_other cell_alloc_old frozen_alloc_old setCell_alloc_old old_alloc old_ov old_drew old_drewN old_setCell
attribute [local go_sem ↓] run_max2 run_min2
theorem ofN_small {l : List N26} {N n : Nat} {ctx : Nat → Bool} (hn : n < N) : (ofN (pa26 l) N ctx n).length ≤ N := by
  have hp : ∀ i, 0 < i → pa26 l i < i := fun i hi => pa26_lt l hi
  have := (ofN_sub0 (ctx := ctx) hp hn).length_le
  rwa [preN_len hp (by omega)] at this
theorem kidsN_len (pa : Nat → Nat) (N n : Nat) : (kidsN pa N n).length ≤ N := by
  unfold kidsN; exact Nat.le_trans (List.length_filter_le _ _) (by simp)
/-- The cells of a row that is read, anywhere in its block. -/
def NatsO (w : World) (a : Option Addr) (xs : List Nat) : Prop := 0 < xs.length → ∃ g o, a = some ⟨g, o, none⟩ ∧ g < w.heap.size ∧ ∀ j, j < xs.length → w.cell? ⟨g, o + j, none⟩ = some (.int .i64 ((xs.getD j 0 : Nat) : Int))
theorem NatsO.below {w w1 : World} {a : Option Addr} {xs : List Nat} (h : NatsO w a xs) (hb : Below w.heap.size w w1) : NatsO w1 a xs := fun h0 => by
  obtain ⟨g, o, h1, h2, h3⟩ := h h0
  exact ⟨g, o, h1, Nat.lt_of_lt_of_le h2 hb.size, fun j hj => (hb.cell (p := ⟨g, o + j, none⟩) h2).trans (h3 j hj)⟩
/-- The kids of a node, by the tree. -/
theorem kids26 {l : List N26} {N pt bm bn n : Nat} {base : Nat → Prop} {R : Rows} {w : World} (hN : N ≤ 60) (hn : n < N) (h : In26 w l N pt bm bn base R) :
    Calls Try.prog 68 #[.pointer (some ⟨pt, 0, none⟩), .int .i64 n] w fun e w' => ∃ a c, e = .returned (.slice a (kidsN (pa26 l) N n).length c) ∧ NatsO w' a (kidsN (pa26 l) N n) ∧ Below w.heap.size w w' := by
  have hm : (n : Int) ∈ nums R := (h.told.mem _).2 ⟨by omega, by omega⟩
  obtain ⟨⟨nn, dd⟩, hx, e1⟩ := List.mem_map.1 hm
  obtain ⟨A, C, hR⟩ := List.append_of_mem hx
  simp only at e1
  subst e1
  have hk := h.told.kids A C _ dd hR
  have hRl := h.told.len
  have hKl := kidsN_len (pa26 l) N n
  rw [kidsZ_eq] at hk
  have hl : (kidsR dd C).length = (kidsN (pa26 l) N n).length := by rw [hk, List.length_map]
  refine (tkids_any pt bm base R A C N n dd w h.tree hR (by omega) (by omega)).mono ?_
  rintro e w' ⟨a, c, rfl, hi, hb⟩
  refine ⟨a, c, by rw [hl], fun h0 => ?_, hb⟩
  obtain ⟨g, o, e1, e2, e3⟩ := hi (by omega)
  refine ⟨g, o, e1, e2, fun j hj => ?_⟩
  rw [e3 j (by omega), hk]
  simp [List.getD_eq_getElem?_getD, hj]
/-- One node more, and what is below it as far as the contexts. -/
def ofP (l : List N26) (N k : Nat) : List Nat := k :: if ctx26 l k then [] else ofN (pa26 l) N (ctx26 l) k
set_option maxRecDepth 100000 in
set_option maxHeartbeats 4000000 in
theorem pof_any (l : List N26) (N pt bm bn : Nat) (base : Nat → Prop) (R : Rows) (hN : N ≤ 60) : ∀ (f n : Nat) (w : World), N - n ≤ f → n < N → In26 w l N pt bm bn base R →
    Calls Try.prog 59 #[.agg #[.pointer (some ⟨pt, 0, none⟩), .map (some bn)], .int .i64 n] w fun e w' => ∃ v, e = .returned v ∧ OwnN w' w.heap.size v (ofN (pa26 l) N (ctx26 l) n) ∧ Below w.heap.size w w' := by
  have hpa : ∀ i, 0 < i → pa26 l i < i := fun i hi => pa26_lt l hi
  have HPA := Lib.hid hpa
  clear hpa
  intro f
  induction f with
  | zero => intro n w h1 h2; omega
  | succ f ih =>
    intro n w hf hn h
    have IH := Lib.hid ih
    have HI := Lib.hid h
    have HOE := Lib.hid (show ofN (pa26 l) N (ctx26 l) n = (kidsN (pa26 l) N n).flatMap (ofP l N) from ofN_eq HPA.out n)
    have HOS := Lib.hid (ofN_small (l := l) (ctx := ctx26 l) hn)
    have HK := Lib.hid (fun X (hX : Below w.heap.size w X) => kids26 hN hn (h.below hX))
    have hkl := kidsN_len (pa26 l) N n
    clear h ih
    obtain ⟨ks, hks⟩ : ∃ ks, kidsN (pa26 l) N n = ks := ⟨_, rfl⟩
    have HKS := Lib.hid hks
    rw [hks] at HOE HK hkl
    clear hks
    go_enter Try.func59, Try.ntmps59
    go_wp2_with ((go_at_call 68; (with_reducible refine (HK.out _ (by (repeat' (first | (with_reducible exact Below.refl _ _) | (with_reducible assumption) | (with_reducible refine below_from_drew ?_) | (with_reducible refine Below.alloc ?_ ?_ _) | (with_reducible refine Below.drew ?_) | (with_reducible refine below_drewN ?_ _) | (with_reducible refine Below.setCell ?_ ?_ _) | (with_reducible refine below_via ?_ (by assumption) ?_) | (with_reducible refine below_ov ?_ ?_ _ _) | go_size)))).mono ?_); rintro e w1 ⟨ka, kc, rfl, hI, hb⟩; refine Exists.elim (after1 (w := w) (b0 := w.heap.size) (cs0 := ?_) (T0 := ?_) hb ?_ ?_) ?_; rotate_left 2; (focus ((repeat' (first | (with_reducible exact Below.refl _ _) | (with_reducible assumption) | (with_reducible refine below_from_drew ?_) | (with_reducible refine Below.alloc ?_ ?_ _) | (with_reducible refine Below.drew ?_) | (with_reducible refine below_drewN ?_ _) | (with_reducible refine Below.setCell ?_ ?_ _) | (with_reducible refine below_via ?_ (by assumption) ?_) | (with_reducible refine below_ov ?_ ?_ _ _) | go_size)); done)); (focus ((repeat' (first | (with_reducible refine has_drew ?_) | (with_reducible refine has_drewN ?_) | (with_reducible refine has_new ?_; (first | (with_reducible rfl) | omega | (simp; done) | (simp; omega))) | (with_reducible refine has_ov_same ?_; (first | (with_reducible rfl) | omega | (simp; done) | (simp; omega))) | (with_reducible refine has_alloc ?_) | (with_reducible refine has_ov_other ?_ ?_; (focus (first | (with_reducible rfl) | omega | (simp; done) | (simp; omega)))) | (with_reducible assumption) | (with_reducible exact has_below hB (by assumption)))); done)); rintro u ⟨rfl, hB, hz, z0, o0⟩; (try simp only [World.size_alloc, World.size_setCell, World.size_drew, ov_size] at hz)))
    refine name_w (f := Code.wp _ _ _ _) (fun U hU => ?_)
    rw [← hU] at hI
    have hbU : Below w.heap.size w U := by rw [hU]; (repeat' (first | (with_reducible exact Below.refl _ _) | (with_reducible assumption) | (with_reducible refine below_from_drew ?_) | (with_reducible refine Below.alloc ?_ ?_ _) | (with_reducible refine Below.drew ?_) | (with_reducible refine below_drewN ?_ _) | (with_reducible refine Below.setCell ?_ ?_ _) | (with_reducible refine below_via ?_ (by assumption) ?_) | (with_reducible refine below_ov ?_ ?_ _ _) | go_size))
    have hpU : Has U w.heap.size #[.pointer (some ⟨pt, 0, none⟩), .map (some bn)] 123 := by rw [hU]; (repeat' (first | (with_reducible refine has_drew ?_) | (with_reducible refine has_drewN ?_) | (with_reducible refine has_new ?_; (first | (with_reducible rfl) | omega | (simp; done) | (simp; omega))) | (with_reducible refine has_ov_same ?_; (first | (with_reducible rfl) | omega | (simp; done) | (simp; omega))) | (with_reducible refine has_alloc ?_) | (with_reducible refine has_ov_other ?_ ?_; (focus (first | (with_reducible rfl) | omega | (simp; done) | (simp; omega)))) | (with_reducible assumption) | (with_reducible exact has_below hB (by assumption))))
    have HBU := Lib.hid hbU; have HPU := Lib.hid hpU; have HKU := Lib.hid hI
    clear hU hbU hI hb hB z0 o0 hz HK u
    have hUl := HPU.out.lt
    have HIU := Lib.hid (HI.out.below HBU.out)
    clear hpU
    go_loopw [5, 13] (fun vo vi wr => ∃ i : Nat, vi = .int .i64 i ∧ i ≤ ks.length ∧ OwnN wr U.heap.size vo ((ks.take i).flatMap (ofP l N)) ∧ Below U.heap.size U wr ∧ Has wr w.heap.size #[.pointer (some ⟨pt, 0, none⟩), .map (some bn)] 123) (fun _ vi _ => ks.length - (intOf vi).toNat)
    case atStart => exact ⟨0, rfl, Nat.zero_le _, ownN_nil _ _, Below.refl _ _, HPU.out⟩
    case round =>
      obtain ⟨i, rfl, hi, ho, hb, hp⟩ := hrel
      have HO := Lib.hid ho
      have HBW := Lib.hid (HBU.out.trans (hb.mono HBU.out.size))
      have HBR := Lib.hid hb; have HP := Lib.hid hp
      have HIR := Lib.hid (HI.out.below HBW.out)
      have hln := fm_take_len (f := ofP l N) ks i
      have hxl : ((ks.take i).flatMap (ofP l N)).length ≤ N := by have := HOS.out; rw [HOE.out] at this; omega
      obtain ⟨xs, hxs⟩ : ∃ xs, (ks.take i).flatMap (ofP l N) = xs := ⟨_, rfl⟩
      have HXS := Lib.hid hxs
      rw [hxs] at HO hxl ho
      obtain ⟨ax, cx, rfl⟩ := ho.shape
      have cp := hp.cells; have lp := hp.lt; have op : Old wr w.heap.size := lp
      have hk := HKU.out.below hb
      clear ho hb hp hln hxs
      rcases Nat.lt_or_ge i ks.length with c | c
      · have ci : (i : Int) < (ks.length : Nat) := by omega
        have ci0 : (0 : Int) ≤ i := by omega
        obtain ⟨g, o, rfl, hg, hkc⟩ := hk (by omega)
        have q2 := hkc i c
        have og : Old wr g := hg
        have hm : ks.getD i 0 ∈ kidsN (pa26 l) N n := by rw [HKS.out]; simp [List.getD_eq_getElem?_getD, c]
        have hgt := kidsN_gt HPA.out hm
        have HTS := Lib.hid (fm_take_succ (f := ofP l N) c)
        obtain ⟨k, hk'⟩ : ∃ k, ks.getD i 0 = k := ⟨_, rfl⟩
        rw [hk'] at q2 hgt HTS
        have HC := Lib.hid (fun X (hX : Below U.heap.size U X) => pctx_any l N pt bm bn k base R X hN hgt.2 (HIU.out.below hX))
        have HF := Lib.hid (fun X (hX : Below U.heap.size U X) => IH.out k X (by omega) hgt.2 (HIU.out.below hX))
        have hUw := HBR.out.size
        have hfl := ofN_small (l := l) (ctx := ctx26 l) hgt.2
        clear hkc hm hk' hk
        go_upto_region 6 with (at_builtin; refine wpList_app_nat _ rfl _ _ rfl U.heap.size wr.heap.size _ _ xs [k] rfl (HO.out.below ((Below.refl _ wr).alloc (Nat.le_refl _) _)) rfl (ownN_one wr k) ?pl ?pb ?_)
        case pl => simp; omega
        case pb => simp; omega
        intro v' w3 hown hgrow
        have hB3 : Below wr.heap.size wr (wr.alloc (.cells #[.int .i64 (k : Int)] 3)) := (Below.refl _ wr).alloc (Nat.le_refl _) _
        have hown0 := HO.out.below hB3
        have hB4 : Below U.heap.size U w3 := Below.grown (HBR.out.trans (hB3.mono HBR.out.size)) hgrow (by simp; omega) (fun bb h => row_block hown0 bb h)
        have hx1l : (xs ++ [k]).length ≤ N + 1 := by simp; omega
        obtain ⟨x1, hx1⟩ : ∃ ys, xs ++ [k] = ys := ⟨_, rfl⟩
        have HX1 := Lib.hid hx1
        rw [hx1] at hown hx1l
        clear hx1
        obtain ⟨a3, c3, rfl⟩ := hown.shape
        have hp3 := has_below hB4 HPU.out
        have HO3 := Lib.hid hown; have HB4 := Lib.hid hB4; have HP3 := Lib.hid hp3
        have c4 := hp3.cells; have l4 := hp3.lt; have o4 : Old w3 w.heap.size := l4
        clear hown hgrow hB3 hown0 hB4 hp3 cp lp op q2 og HO HBW HBR HP HIR
        rcases hc : ctx26 l k with _ | _
        · have HTP := Lib.hid (show ofP l N k = [k] ++ ofN (pa26 l) N (ctx26 l) k by unfold ofP; rw [hc]; rfl)
          rw [hc] at HC
          clear hc
          go_upto_region 7 with (((go_at_call 60; (with_reducible refine (HC.out _ (HB4.out.trans (Below.mono (by (repeat' (first | (with_reducible exact Below.refl _ _) | (with_reducible assumption) | (with_reducible refine below_from_drew ?_) | (with_reducible refine Below.alloc ?_ ?_ _) | (with_reducible refine Below.drew ?_) | (with_reducible refine below_drewN ?_ _) | (with_reducible refine Below.setCell ?_ ?_ _) | (with_reducible refine below_via ?_ (by assumption) ?_) | (with_reducible refine below_ov ?_ ?_ _ _) | go_size))) HB4.out.size))).mono ?_); rintro e u4 ⟨rfl, hb⟩; have hz := hb.size; refine (fun hB => ?_ : Below w3.heap.size w3 u4 → _) ?_; rotate_left; (focus ((repeat' (first | (with_reducible exact Below.refl _ _) | (with_reducible assumption) | (with_reducible refine below_from_drew ?_) | (with_reducible refine Below.alloc ?_ ?_ _) | (with_reducible refine Below.drew ?_) | (with_reducible refine below_drewN ?_ _) | (with_reducible refine Below.setCell ?_ ?_ _) | (with_reducible refine below_via ?_ (by assumption) ?_) | (with_reducible refine below_ov ?_ ?_ _ _) | go_size)); done)); (try simp only [World.size_alloc, World.size_setCell, World.size_drew, ov_size] at hz))); have k5 := has_below hB HP3.out; have c5 := k5.cells; have l5 := k5.lt; have o5 : Old u4 w.heap.size := l5; clear k5)
          have HO4 := Lib.hid (HO3.out.below hB)
          have HB5 := Lib.hid (HB4.out.trans (hB.mono HB4.out.size))
          have HP5 := Lib.hid (has_below hB HP3.out)
          clear hb hB c4 l4 o4 HO3 HP3
          go_wp2_with (first | (((go_at_call 59; (with_reducible refine (HF.out _ (HB5.out.trans (Below.mono (by (repeat' (first | (with_reducible exact Below.refl _ _) | (with_reducible assumption) | (with_reducible refine below_from_drew ?_) | (with_reducible refine Below.alloc ?_ ?_ _) | (with_reducible refine Below.drew ?_) | (with_reducible refine below_drewN ?_ _) | (with_reducible refine Below.setCell ?_ ?_ _) | (with_reducible refine below_via ?_ (by assumption) ?_) | (with_reducible refine below_ov ?_ ?_ _ _) | go_size))) HB5.out.size))).mono ?_); rintro e u6 ⟨v6, rfl, hown6, hb⟩; have hz := hb.size; refine (fun hB => ?_ : Below u4.heap.size u4 u6 → _) ?_; rotate_left; (focus ((repeat' (first | (with_reducible exact Below.refl _ _) | (with_reducible assumption) | (with_reducible refine below_from_drew ?_) | (with_reducible refine Below.alloc ?_ ?_ _) | (with_reducible refine Below.drew ?_) | (with_reducible refine below_drewN ?_ _) | (with_reducible refine Below.setCell ?_ ?_ _) | (with_reducible refine below_via ?_ (by assumption) ?_) | (with_reducible refine below_ov ?_ ?_ _ _) | go_size)); done)); (try simp only [World.size_alloc, World.size_setCell, World.size_drew, ov_size] at hz))); have HO6 := Lib.hid hown6; have HB6 := Lib.hid hB; have HO5 := Lib.hid (HO4.out.below hB); clear hown6) | (at_builtin; refine wpList_app_nat _ rfl _ _ rfl U.heap.size _ _ _ x1 (ofN (pa26 l) N (ctx26 l) k) rfl HO5.out rfl HO6.out ?pl2 ?pb2 ?_))
          case pl2 => omega
          case pb2 => have := HB5.out.size; have := HB6.out.size; omega
          intro v7 w7 hown7 hgrow7
          obtain ⟨x2, hx2⟩ : ∃ ys, x1 ++ ofN (pa26 l) N (ctx26 l) k = ys := ⟨_, rfl⟩
          have HX2 := Lib.hid hx2
          rw [hx2] at hown7
          clear hx2
          obtain ⟨a7, c7, rfl⟩ := hown7.shape
          have hB7 : Below U.heap.size U w7 := Below.grown (HB5.out.trans (HB6.out.mono HB5.out.size)) hgrow7 (by have := HB5.out.size; have := HB6.out.size; omega) (fun bb h => row_block HO5.out bb h)
          have HO7 := Lib.hid hown7; have HB7 := Lib.hid hB7; have HP7 := Lib.hid (has_below hB7 HPU.out)
          clear hown7 hgrow7 hB7
          go_wp2_with fail
          refine ⟨⟨i + 1, by push_cast; rfl, c, by rw [HTS.out, HXS.out, HTP.out, ← List.append_assoc, HX1.out, HX2.out]; exact HO7.out, HB7.out, HP7.out⟩, by simp only [intOf]; omega⟩
        · have HTP := Lib.hid (show ofP l N k = [k] by unfold ofP; rw [hc]; rfl)
          rw [hc] at HC
          clear hc
          go_wp2_with ((go_at_call 60; (with_reducible refine (HC.out _ (HB4.out.trans (Below.mono (by (repeat' (first | (with_reducible exact Below.refl _ _) | (with_reducible assumption) | (with_reducible refine below_from_drew ?_) | (with_reducible refine Below.alloc ?_ ?_ _) | (with_reducible refine Below.drew ?_) | (with_reducible refine below_drewN ?_ _) | (with_reducible refine Below.setCell ?_ ?_ _) | (with_reducible refine below_via ?_ (by assumption) ?_) | (with_reducible refine below_ov ?_ ?_ _ _) | go_size))) HB4.out.size))).mono ?_); rintro e u4 ⟨rfl, hb⟩; have hz := hb.size; refine (fun hB => ?_ : Below w3.heap.size w3 u4 → _) ?_; rotate_left; (focus ((repeat' (first | (with_reducible exact Below.refl _ _) | (with_reducible assumption) | (with_reducible refine below_from_drew ?_) | (with_reducible refine Below.alloc ?_ ?_ _) | (with_reducible refine Below.drew ?_) | (with_reducible refine below_drewN ?_ _) | (with_reducible refine Below.setCell ?_ ?_ _) | (with_reducible refine below_via ?_ (by assumption) ?_) | (with_reducible refine below_ov ?_ ?_ _ _) | go_size)); done)); (try simp only [World.size_alloc, World.size_setCell, World.size_drew, ov_size] at hz)))
          have HB5 := Lib.hid (HB4.out.trans (hB.mono HB4.out.size))
          refine ⟨⟨i + 1, by push_cast; rfl, c, by rw [HTS.out, HXS.out, HTP.out, HX1.out]; exact HO3.out.below hB, HB5.out, has_below hB HP3.out⟩, by simp only [intOf]; omega⟩
      · have c2 : decide ((i : Int) < (ks.length : Nat)) = false := by simp; omega
        have he : ks.take i = ks := List.take_of_length_le c
        have HE := Lib.hid (show xs = ofN (pa26 l) N (ctx26 l) n by rw [HOE.out, ← HXS.out, he])
        go_wp2_with fail
        go_ret
        exact ⟨_, rfl, by rw [← HE.out]; exact HO.out.wide (by omega), HBW.out⟩
end Go.Proofs.Ytjcbphhemmdnjaa
