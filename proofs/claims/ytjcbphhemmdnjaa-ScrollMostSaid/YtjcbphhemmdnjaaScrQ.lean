/- law23.ScrollMost, walked. -/
import Derived.Test.YtjcbphhemmdnjaaScrL
namespace Go.Proofs.Ytjcbphhemmdnjaa
open Go Go.RowKit
set_option linter.unusedSimpArgs false
set_option linter.unusedVariables false
-- below_from_drew
attribute [local go_sem] ov_cell_same ov_cell_other ov_frozen_same ov_frozen_other ov_size ov_setCell_same ov_setCell_other cell_alloc_old frozen_alloc_old setCell_alloc_old old_alloc old_ov old_drew old_drewN old_setCell
attribute [local go_sem ↓] run_max2 run_min2
attribute [local go_sem] put_two23 look_two23 look_two23_ok len_two23 mapOk_alloc mapOf_alloc mapOk_drew mapOf_drew mapOk_drewN mapOf_drewN mapOk_ov mapOf_ov eqIn23 eqIn239
set_option maxRecDepth 100000 in
set_option maxHeartbeats 4000000 in
theorem most23_any (a : Option Addr) (n c : Nat) (l : List N23) (w : World) (hn : l.length = n) (hn1 : n ≤ c) (hc : c ≤ 9223372036854775807) (h : N23sAt w a l) :
    Calls Try.prog 3 #[.slice a n c] w fun e w' => e = .returned (.bool true) ∧ Below w.heap.size w w' := by
  have HM := Lib.hid (fun X (hX : Below w.heap.size w X) => made23_any a n c l X hn hn1 hc (h.below hX))
  have HOK := Lib.hid (fun i => ok23_nd h i)
  clear hn hn1 hc h
  go_enter Try.func3, Try.ntmps3
  go_upto_region 3 with ((go_at_call 10; (with_reducible refine (speaks23_any _).mono ?_); rintro e u0 ⟨rfl, hb⟩; have hz := hb.size; refine (fun hB => ?_ : Below w.heap.size w u0 → _) ?_; rotate_left; (focus ((repeat' (first | (with_reducible exact Below.refl _ _) | (with_reducible assumption) | (with_reducible refine below_from_drew ?_) | (with_reducible refine Below.alloc ?_ ?_ _) | (with_reducible refine Below.drew ?_) | (with_reducible refine below_drewN ?_ _) | (with_reducible refine Below.setCell ?_ ?_ _) | (with_reducible refine below_via ?_ (by assumption) ?_) | (with_reducible refine below_ov ?_ ?_ _ _) | go_size)); done)); (try simp only [World.size_alloc, World.size_setCell, World.size_drew, ov_size] at hz)))
  go_upto_region 4 with ((go_at_call 11); (with_reducible refine (HM.out _ (by (repeat' (first | (with_reducible exact Below.refl _ _) | (with_reducible assumption) | (with_reducible refine below_from_drew ?_) | (with_reducible refine Below.alloc ?_ ?_ _) | (with_reducible refine Below.drew ?_) | (with_reducible refine below_drewN ?_ _) | (with_reducible refine Below.setCell ?_ ?_ _) | (with_reducible refine below_via ?_ (by assumption) ?_) | (with_reducible refine below_ov ?_ ?_ _ _) | go_size)))).mono ?_); rintro e w1 ⟨pt, bm, bn, bx, m, B, g, aL, cL, a1, c1, R, f, O, rfl, hM⟩)
  have hN0 := cnt23_pos l
  have hN := cnt23_le l
  have hI := hM.into hN0 hN HOK.out
  obtain ⟨gL, gl, rfl, rfl, hRd⟩ := hM.rd hN0 hN HOK.out
  have hb1 : Below w.heap.size w w1 := hB.trans (hM.mt.wd.bel.mono hB.size)
  have HI := Lib.hid hI; have HB1 := Lib.hid hb1; have HRD := Lib.hid hRd
  obtain ⟨N, hNN⟩ : ∃ N, cnt23 l = N := ⟨_, rfl⟩
  rw [hNN] at hN0 hN HI HRD ⊢
  clear hM hI hb1 hRd hB hb hz HM hNN
  unfold w23C
  go_upto_region 4 with fail
  refine name_w (f := Code.wp _ _ _ _) (fun X hX => ?_)
  have hX3 : Has X w1.heap.size #[.pointer (some ⟨pt, 0, none⟩), .map (some bn), .map (some bx), .slice (some ⟨gL, 0, none⟩) N cL, .int .i64 0, .int .i64 0, .slice (some ⟨gl, 0, none⟩) N c1] 32 := by rw [hX]; (repeat' (first | (with_reducible refine has_drew ?_) | (with_reducible refine has_drewN ?_) | (with_reducible refine has_new ?_; (first | (with_reducible rfl) | omega | (simp; done) | (simp; omega))) | (with_reducible refine has_ov_same ?_; (first | (with_reducible rfl) | omega | (simp; done) | (simp; omega))) | (with_reducible refine has_alloc ?_) | (with_reducible refine has_ov_other ?_ ?_; (focus (first | (with_reducible rfl) | omega | (simp; done) | (simp; omega)))) | (with_reducible assumption) | (with_reducible exact has_below hB (by assumption))))
  have hXb : Below w1.heap.size w1 X := by rw [hX]; (repeat' (first | (with_reducible exact Below.refl _ _) | (with_reducible assumption) | (with_reducible refine below_from_drew ?_) | (with_reducible refine Below.alloc ?_ ?_ _) | (with_reducible refine Below.drew ?_) | (with_reducible refine below_drewN ?_ _) | (with_reducible refine Below.setCell ?_ ?_ _) | (with_reducible refine below_via ?_ (by assumption) ?_) | (with_reducible refine below_ov ?_ ?_ _ _) | go_size))
  have HIX := Lib.hid (HI.out.below hXb); have HRX := Lib.hid (HRD.out.below hXb); have HXB := Lib.hid (HB1.out.trans (hXb.mono HB1.out.size))
  obtain ⟨b3, hb3⟩ : ∃ b, w1.heap.size = b := ⟨_, rfl⟩
  rw [hb3] at hX3 ⊢
  have HX3 := Lib.hid hX3
  have c3 := hX3.cells; have l3 := hX3.lt; have o3 : Old X b3 := l3
  clear hX hX3 hXb HI HRD HB1 hb3
  go_upto_region 5 with ((go_at_call 12); (with_reducible refine (smost_any l N pt bm bn bx g _ R _ HIX.out).mono ?_); rintro e u ⟨bo, rfl, hbo, hok, hlk, hb⟩)
  have hu3 := has_below hb HX3.out
  have HU3 := Lib.hid hu3
  have HRU := Lib.hid (HRX.out.below hb); have HUB := Lib.hid (HXB.out.trans (hb.mono HXB.out.size)); have HOU := Lib.hid hok; have HLU := Lib.hid hlk
  clear c3 l3 o3 hb hbo hok hlk HIX HRX HXB HX3
  have c3 := hu3.cells; have l3 := hu3.lt; have o3 : Old u b3 := l3
  clear hu3
  go_upto_region 6 with ((go_at_call 12; (with_reducible refine (smost_nil _ _ _).mono ?_); rintro e v ⟨rfl, hb⟩; have hz := hb.size; refine (fun hB => ?_ : Below u.heap.size u v → _) ?_; rotate_left; (focus ((repeat' (first | (with_reducible exact Below.refl _ _) | (with_reducible assumption) | (with_reducible refine below_from_drew ?_) | (with_reducible refine Below.alloc ?_ ?_ _) | (with_reducible refine Below.drew ?_) | (with_reducible refine below_drewN ?_ _) | (with_reducible refine Below.setCell ?_ ?_ _) | (with_reducible refine below_via ?_ (by assumption) ?_) | (with_reducible refine below_ov ?_ ?_ _ _) | go_size)); done)); (try simp only [World.size_alloc, World.size_setCell, World.size_drew, ov_size] at hz)))
  have HV3 := Lib.hid (has_below hB HU3.out); have HRV := Lib.hid (HRU.out.below hB); have HVB := Lib.hid (HUB.out.trans (hB.mono HUB.out.size)); have HOV := Lib.hid (mapOk_eq (hB.block _ HOU.out.lt) HOU.out)
  have HLV := Lib.hid (show ∀ x, mlook (mapOf v bo) x = (mZ l N x).map two23 from fun x => by rw [mapOf_eq (hB.block _ HOU.out.lt), HLU.out, outS_mZ])
  clear c3 l3 o3 hB hb hz HU3 HRU HUB HOU HLU
  go_wp2_with fail
  go_loopw [9, 10] (fun s t wr => ∃ i : Nat, t = .int .i64 i ∧ i ≤ N ∧ s = .int .i64 (cntS l i : Nat) ∧ Below v.heap.size v wr) (fun _ t _ => N - (intOf t).toNat)
  case atStart => exact ⟨0, rfl, Nat.zero_le _, rfl, Below.refl _ _⟩
  case round =>
    obtain ⟨i, rfl, hi, rfl, hbr⟩ := hrel
    have h3 := has_below hbr HV3.out
    have c3 := h3.cells; have l3 := h3.lt; have o3 : Old wr b3 := l3
    have hRr := HRV.out.below hbr
    have hor : MapOk wr bo := mapOk_eq (hbr.block _ HOV.out.lt) HOV.out
    have hmo : mapOf wr bo = mapOf v bo := mapOf_eq (hbr.block _ HOV.out.lt)
    have HRR := Lib.hid hRr; have HBR := Lib.hid hbr; have H3 := Lib.hid h3
    by_cases ci : i < N
    · have ck : (i : Int) < (N : Int) := by omega
      have ck0 : (0 : Int) ≤ i := by omega
      have hlk := HLV.out i
      rw [← hmo] at hlk
      have h0 := hRr.box i ci 0 _ (b22V_there23 l i (g i).2)
      rw [Nat.add_zero] at h0
      have hcn := cntS_next l i
      have hcl := cntS_le l i
      have HCN := Lib.hid hcn
      obtain ⟨cn, hcn2⟩ : ∃ k, cntS l i = k := ⟨_, rfl⟩
      rw [hcn2] at HCN hcl ⊢
      have HSC := Lib.hid (fun V (hV : Below wr.heap.size wr V) => rscrolls_any gL gl N cL i 0 0 l g V ci (HRR.out.below hV))
      have ol : Old wr gl := hRr.zl
      have ll : gl < wr.heap.size := hRr.zl
      have oo : Old wr bo := hor.lt
      clear hbr h3 hRr hmo hcn hcn2
      rcases hm : mst23 l i with _ | _
      · have hmz : mZ l N i = none := by unfold mZ; rw [if_neg (by rw [Int.toNat_natCast, hm]; simp)]
        rw [hmz] at hlk
        have g1 : mgetD (mapOf wr bo) i (two23 (0, 0)) = .agg #[.int .i64 0, .int .i64 0] := by rw [mgetD, hlk]; rfl
        have g2 : mhas (mapOf wr bo) i = false := by rw [mhas, hlk]; rfl
        have HC2 : Hid (cntS l (i + 1) = cn) := Lib.hid (by rw [HCN.out, hm]; rfl)
        clear hlk hmz
        rcases ht : there23 l i with _ | _
        · rw [ht] at h0
          clear HSC
          go_wp2_with fail
          refine ⟨⟨i + 1, by push_cast; rfl, by omega, by rw [HC2.out], ?_⟩, by simp only [intOf]; omega⟩
          have q := HBR.out
          have qs := q.size
          (repeat' (first | (with_reducible exact Below.refl _ _) | (with_reducible assumption) | (with_reducible refine below_from_drew ?_) | (with_reducible refine Below.alloc ?_ ?_ _) | (with_reducible refine Below.drew ?_) | (with_reducible refine below_drewN ?_ _) | (with_reducible refine Below.setCell ?_ ?_ _) | (with_reducible refine below_via ?_ (by assumption) ?_) | (with_reducible refine below_ov ?_ ?_ _ _) | go_size))
        · rw [ht] at h0
          have hs : scr23 l i = false := by unfold mst23 at hm; rw [ht] at hm; simpa using hm
          rw [hs] at HSC
          go_wp2_with ((go_at_call 13; (with_reducible refine (HSC.out _ (by (repeat' (first | (with_reducible exact Below.refl _ _) | (with_reducible assumption) | (with_reducible refine below_from_drew ?_) | (with_reducible refine Below.alloc ?_ ?_ _) | (with_reducible refine Below.drew ?_) | (with_reducible refine below_drewN ?_ _) | (with_reducible refine Below.setCell ?_ ?_ _) | (with_reducible refine below_via ?_ (by assumption) ?_) | (with_reducible refine below_ov ?_ ?_ _ _) | go_size)))).mono ?_); rintro e w1 ⟨rfl, hb⟩; refine Exists.elim (after1 (w := wr) (b0 := wr.heap.size) (cs0 := ?_) (T0 := ?_) hb ?_ ?_) ?_; rotate_left 2; (focus ((repeat' (first | (with_reducible exact Below.refl _ _) | (with_reducible assumption) | (with_reducible refine below_from_drew ?_) | (with_reducible refine Below.alloc ?_ ?_ _) | (with_reducible refine Below.drew ?_) | (with_reducible refine below_drewN ?_ _) | (with_reducible refine Below.setCell ?_ ?_ _) | (with_reducible refine below_via ?_ (by assumption) ?_) | (with_reducible refine below_ov ?_ ?_ _ _) | go_size)); done)); (focus ((repeat' (first | (with_reducible refine has_drew ?_) | (with_reducible refine has_drewN ?_) | (with_reducible refine has_new ?_; (first | (with_reducible rfl) | omega | (simp; done) | (simp; omega))) | (with_reducible refine has_ov_same ?_; (first | (with_reducible rfl) | omega | (simp; done) | (simp; omega))) | (with_reducible refine has_alloc ?_) | (with_reducible refine has_ov_other ?_ ?_; (focus (first | (with_reducible rfl) | omega | (simp; done) | (simp; omega)))) | (with_reducible assumption) | (with_reducible exact has_below hB (by assumption)))); done)); rintro v2 ⟨rfl, hB, hz, z0, o0⟩; (try simp only [World.size_alloc, World.size_setCell, World.size_drew, ov_size] at hz)))
          refine ⟨⟨i + 1, by push_cast; rfl, by omega, by rw [HC2.out], ?_⟩, by simp only [intOf]; omega⟩
          have q := HBR.out
          have qs := q.size
          (repeat' (first | (with_reducible exact Below.refl _ _) | (with_reducible assumption) | (with_reducible refine below_from_drew ?_) | (with_reducible refine Below.alloc ?_ ?_ _) | (with_reducible refine Below.drew ?_) | (with_reducible refine below_drewN ?_ _) | (with_reducible refine Below.setCell ?_ ?_ _) | (with_reducible refine below_via ?_ (by assumption) ?_) | (with_reducible refine below_ov ?_ ?_ _ _) | go_size))
      · have ht : there23 l i = true := by unfold mst23 at hm; cases q : there23 l i with
          | true => rfl
          | false => rw [q] at hm; simp at hm
        have hs : scr23 l i = true := by unfold mst23 at hm; rw [ht] at hm; simpa using hm
        have hx : tx23 l i = false := by unfold scr23 at hs; cases q : tx23 l i with
          | true => rw [q] at hs; simp at hs
          | false => rfl
        have hmz : mZ l N i = some (mostX l N i, mostY l N i) := by unfold mZ; rw [if_pos ⟨by omega, by omega, by rw [Int.toNat_natCast, hm]⟩, Int.toNat_natCast]
        rw [hmz] at hlk
        have HMM := Lib.hid (fun V (hV : Below wr.heap.size wr V) => rmost_any gL gl N cL c1 i 0 0 l g V ci ht hx (HRR.out.below hV))
        have hp1 : 0 ≤ mostX l N i := most1_nn _ _ _ _ _ _
        have hp2 : 0 ≤ mostY l N i := most1_nn _ _ _ _ _ _
        obtain ⟨mX, hmX⟩ : ∃ v, mostX l N i = v := ⟨_, rfl⟩
        obtain ⟨mY, hmY⟩ : ∃ v, mostY l N i = v := ⟨_, rfl⟩
        rw [hmX, hmY] at hlk HMM
        rw [hmX] at hp1; rw [hmY] at hp2
        have g1 : mgetD (mapOf wr bo) i (two23 (0, 0)) = .agg #[.int .i64 mX, .int .i64 mY] := by rw [mgetD, hlk]; rfl
        have g2 : mhas (mapOf wr bo) i = true := by rw [mhas, hlk]; rfl
        have HC2 : Hid (cntS l (i + 1) = cn + 1) := Lib.hid (by rw [HCN.out, hm]; rfl)
        rw [ht] at h0
        rw [hs] at HSC
        clear hlk hmz hmX hmY ht hs hx hm
        go_upto_region 17 with ((go_at_call 13; (with_reducible refine (HSC.out _ (by (repeat' (first | (with_reducible exact Below.refl _ _) | (with_reducible assumption) | (with_reducible refine below_from_drew ?_) | (with_reducible refine Below.alloc ?_ ?_ _) | (with_reducible refine Below.drew ?_) | (with_reducible refine below_drewN ?_ _) | (with_reducible refine Below.setCell ?_ ?_ _) | (with_reducible refine below_via ?_ (by assumption) ?_) | (with_reducible refine below_ov ?_ ?_ _ _) | go_size)))).mono ?_); rintro e w1 ⟨rfl, hb⟩; refine Exists.elim (after1 (w := wr) (b0 := wr.heap.size) (cs0 := ?_) (T0 := ?_) hb ?_ ?_) ?_; rotate_left 2; (focus ((repeat' (first | (with_reducible exact Below.refl _ _) | (with_reducible assumption) | (with_reducible refine below_from_drew ?_) | (with_reducible refine Below.alloc ?_ ?_ _) | (with_reducible refine Below.drew ?_) | (with_reducible refine below_drewN ?_ _) | (with_reducible refine Below.setCell ?_ ?_ _) | (with_reducible refine below_via ?_ (by assumption) ?_) | (with_reducible refine below_ov ?_ ?_ _ _) | go_size)); done)); (focus ((repeat' (first | (with_reducible refine has_drew ?_) | (with_reducible refine has_drewN ?_) | (with_reducible refine has_new ?_; (first | (with_reducible rfl) | omega | (simp; done) | (simp; omega))) | (with_reducible refine has_ov_same ?_; (first | (with_reducible rfl) | omega | (simp; done) | (simp; omega))) | (with_reducible refine has_alloc ?_) | (with_reducible refine has_ov_other ?_ ?_; (focus (first | (with_reducible rfl) | omega | (simp; done) | (simp; omega)))) | (with_reducible assumption) | (with_reducible exact has_below hB (by assumption)))); done)); rintro v2 ⟨rfl, hB, hz, z0, o0⟩; (try simp only [World.size_alloc, World.size_setCell, World.size_drew, ov_size] at hz)))
        refine name_w (f := Code.wp _ _ _ _) (fun Y hY => ?_)
        have hYw : Below wr.heap.size wr Y := by rw [hY]; (repeat' (first | (with_reducible exact Below.refl _ _) | (with_reducible assumption) | (with_reducible refine below_from_drew ?_) | (with_reducible refine Below.alloc ?_ ?_ _) | (with_reducible refine Below.drew ?_) | (with_reducible refine below_drewN ?_ _) | (with_reducible refine Below.setCell ?_ ?_ _) | (with_reducible refine below_via ?_ (by assumption) ?_) | (with_reducible refine below_ov ?_ ?_ _ _) | go_size))
        have hY11 : Has Y wr.heap.size #[.int .i64 mX, .int .i64 mY] 39 := by rw [hY]; (repeat' (first | (with_reducible refine has_drew ?_) | (with_reducible refine has_drewN ?_) | (with_reducible refine has_new ?_; (first | (with_reducible rfl) | omega | (simp; done) | (simp; omega))) | (with_reducible refine has_ov_same ?_; (first | (with_reducible rfl) | omega | (simp; done) | (simp; omega))) | (with_reducible refine has_alloc ?_) | (with_reducible refine has_ov_other ?_ ?_; (focus (first | (with_reducible rfl) | omega | (simp; done) | (simp; omega)))) | (with_reducible assumption) | (with_reducible exact has_below hB (by assumption))))
        have hY3 := has_below hYw H3.out
        have c11 := hY11.cells; have l11 := hY11.lt; have o11 : Old Y wr.heap.size := l11
        have c3' := hY3.cells; have l3' := hY3.lt; have o3' : Old Y b3 := l3'
        have HYW := Lib.hid hYw
        have HMY := Lib.hid (fun V (hV : Below Y.heap.size Y V) => HMM.out V (HYW.out.trans (hV.mono HYW.out.size)))
        clear hY hYw hY11 hY3 c3 l3 o3 g1 g2 h0 ol ll oo hB hz z0 o0 HSC HMM hor
        have hd1 : decide (mX < 0) = false := decide_eq_false (by omega)
        have hd2 : decide (mY < 0) = false := decide_eq_false (by omega)
        refine region_ord [(0, 0), (1, 0), (2, 0), (3, 0), (4, 0), (5, 0), (6, 1), (7, 0), (8, 0), (9, 0), (10, 0), (11, 0), (12, 0), (13, 0), (14, 0), (15, 0), (16, 0), (17, 0)] (by kernel_rfl) (by kernel_rfl) (fun _ _ d _ _ h => by cases d <;> exact h) (fun hS => ?_)
        (refine wpG_read (v := ?_) rfl (.inl ⟨by rfl, fun wx hbx => ?_⟩) ?_; rotate_left; (focus (obtain ⟨cx0, fx0, zx0⟩ := bk hbx (wr.heap.size) (by first | omega | (simp; done) | (simp; omega)); obtain ⟨cx1, fx1, zx1⟩ := bk hbx (b3) (by first | omega | (simp; done) | (simp; omega)); go_simp; (try go_bits); (try with_reducible rfl))); try simp only [Act.put, List.setIfInBounds_toArray, List.set_cons_zero, List.set_cons_succ])
        (refine wpG_read (v := ?_) rfl (.inl ⟨by rfl, fun wx hbx => ?_⟩) ?_; rotate_left; (focus (obtain ⟨cx0, fx0, zx0⟩ := bk hbx (wr.heap.size) (by first | omega | (simp; done) | (simp; omega)); obtain ⟨cx1, fx1, zx1⟩ := bk hbx (b3) (by first | omega | (simp; done) | (simp; omega)); go_simp; (try go_bits); (try with_reducible rfl))); try simp only [Act.put, List.setIfInBounds_toArray, List.set_cons_zero, List.set_cons_succ])
        (refine wpG_read (v := ?_) rfl (.inl ⟨by rfl, fun wx hbx => ?_⟩) ?_; rotate_left; (focus (obtain ⟨cx0, fx0, zx0⟩ := bk hbx (wr.heap.size) (by first | omega | (simp; done) | (simp; omega)); obtain ⟨cx1, fx1, zx1⟩ := bk hbx (b3) (by first | omega | (simp; done) | (simp; omega)); go_simp; (try go_bits); (try with_reducible rfl))); try simp only [Act.put, List.setIfInBounds_toArray, List.set_cons_zero, List.set_cons_succ])
        (refine wpG_read (v := ?_) rfl (.inl ⟨by rfl, fun wx hbx => ?_⟩) ?_; rotate_left; (focus (obtain ⟨cx0, fx0, zx0⟩ := bk hbx (wr.heap.size) (by first | omega | (simp; done) | (simp; omega)); obtain ⟨cx1, fx1, zx1⟩ := bk hbx (b3) (by first | omega | (simp; done) | (simp; omega)); go_simp; (try go_bits); (try with_reducible rfl))); try simp only [Act.put, List.setIfInBounds_toArray, List.set_cons_zero, List.set_cons_succ])
        (refine wpG_read (v := ?_) rfl (.inl ⟨by rfl, fun wx hbx => ?_⟩) ?_; rotate_left; (focus (obtain ⟨cx0, fx0, zx0⟩ := bk hbx (wr.heap.size) (by first | omega | (simp; done) | (simp; omega)); obtain ⟨cx1, fx1, zx1⟩ := bk hbx (b3) (by first | omega | (simp; done) | (simp; omega)); go_simp; (try go_bits); (try with_reducible rfl))); try simp only [Act.put, List.setIfInBounds_toArray, List.set_cons_zero, List.set_cons_succ])
        (refine wpG_read (v := ?_) rfl (.inl ⟨by rfl, fun wx hbx => ?_⟩) ?_; rotate_left; (focus (obtain ⟨cx0, fx0, zx0⟩ := bk hbx (wr.heap.size) (by first | omega | (simp; done) | (simp; omega)); obtain ⟨cx1, fx1, zx1⟩ := bk hbx (b3) (by first | omega | (simp; done) | (simp; omega)); go_simp; (try go_bits); (try with_reducible rfl))); try simp only [Act.put, List.setIfInBounds_toArray, List.set_cons_zero, List.set_cons_succ])
        (refine wpG_make rfl (fun K hK => ?_); go_simp; (go_at_call 14; (with_reducible refine (HMY.out _ (by (repeat' (first | (with_reducible exact Below.refl _ _) | (with_reducible assumption) | (with_reducible refine below_from_drew ?_) | (with_reducible refine Below.alloc ?_ ?_ _) | (with_reducible refine Below.drew ?_) | (with_reducible refine below_drewN ?_ _) | (with_reducible refine Below.setCell ?_ ?_ _) | (with_reducible refine below_via ?_ (by assumption) ?_) | (with_reducible refine below_ov ?_ ?_ _ _) | go_size)))).mono ?_); rintro e v4 ⟨rfl, hb⟩; have hz := hb.size; refine (fun hB => ?_ : Below Y.heap.size Y v4 → _) ?_; rotate_left; (focus ((repeat' (first | (with_reducible exact Below.refl _ _) | (with_reducible assumption) | (with_reducible refine below_from_drew ?_) | (with_reducible refine Below.alloc ?_ ?_ _) | (with_reducible refine Below.drew ?_) | (with_reducible refine below_drewN ?_ _) | (with_reducible refine Below.setCell ?_ ?_ _) | (with_reducible refine below_via ?_ (by assumption) ?_) | (with_reducible refine below_ov ?_ ?_ _ _) | go_size)); done)); (try simp only [World.size_alloc, World.size_setCell, World.size_drew, ov_size] at hz)); (try simp only []); refine hK _ _ ?_ (fun hS2 => ?_); (focus ((repeat' (first | (with_reducible exact Below.refl _ _) | (with_reducible assumption) | (with_reducible refine below_from_drew ?_) | (with_reducible refine Below.alloc ?_ ?_ _) | (with_reducible refine Below.drew ?_) | (with_reducible refine below_drewN ?_ _) | (with_reducible refine Below.setCell ?_ ?_ _) | (with_reducible refine below_via ?_ (by assumption) ?_) | (with_reducible refine below_ov ?_ ?_ _ _) | go_size)); done)); clear hK K hS; have hS := hS2; clear hS2; (try clear hb); try simp only [Act.put, List.setIfInBounds_toArray, List.set_cons_zero, List.set_cons_succ])
        (refine wpG_read (v := ?_) rfl (.inl ⟨by rfl, fun wx hbx => ?_⟩) ?_; rotate_left; (focus (obtain ⟨cx0, fx0, zx0⟩ := bk hbx (wr.heap.size) (by first | omega | (simp; done) | (simp; omega)); obtain ⟨cx1, fx1, zx1⟩ := bk hbx (b3) (by first | omega | (simp; done) | (simp; omega)); go_simp; (try go_bits); (try with_reducible rfl))); try simp only [Act.put, List.setIfInBounds_toArray, List.set_cons_zero, List.set_cons_succ])
        (refine wpG_read (v := ?_) rfl (.inl ⟨by rfl, fun wx hbx => ?_⟩) ?_; rotate_left; (focus (obtain ⟨cx0, fx0, zx0⟩ := bk hbx (wr.heap.size) (by first | omega | (simp; done) | (simp; omega)); obtain ⟨cx1, fx1, zx1⟩ := bk hbx (b3) (by first | omega | (simp; done) | (simp; omega)); go_simp; (try go_bits); (try with_reducible rfl))); try simp only [Act.put, List.setIfInBounds_toArray, List.set_cons_zero, List.set_cons_succ])
        (first | (refine wpG_pass rfl (by rfl) ?_; simp only [Act.put, List.setIfInBounds_toArray, List.set_cons_zero, List.set_cons_succ]) | (refine wpG_read (v := ?_) rfl (.inl ⟨by rfl, fun wx hbx => ?_⟩) ?_; rotate_left; (focus (obtain ⟨cx0, fx0, zx0⟩ := bk hbx (wr.heap.size) (by first | omega | (simp; done) | (simp; omega)); obtain ⟨cx1, fx1, zx1⟩ := bk hbx (b3) (by first | omega | (simp; done) | (simp; omega)); go_simp; (try go_bits); (try with_reducible rfl))); try simp only [Act.put, List.setIfInBounds_toArray, List.set_cons_zero, List.set_cons_succ]))
        (first | (refine wpG_pass rfl (by rfl) ?_; simp only [Act.put, List.setIfInBounds_toArray, List.set_cons_zero, List.set_cons_succ]) | (refine wpG_read (v := ?_) rfl (.inl ⟨by rfl, fun wx hbx => ?_⟩) ?_; rotate_left; (focus (obtain ⟨cx0, fx0, zx0⟩ := bk hbx (wr.heap.size) (by first | omega | (simp; done) | (simp; omega)); obtain ⟨cx1, fx1, zx1⟩ := bk hbx (b3) (by first | omega | (simp; done) | (simp; omega)); go_simp; (try go_bits); (try with_reducible rfl))); try simp only [Act.put, List.setIfInBounds_toArray, List.set_cons_zero, List.set_cons_succ]))
        (first | (refine wpG_pass rfl (by rfl) ?_; simp only [Act.put, List.setIfInBounds_toArray, List.set_cons_zero, List.set_cons_succ]) | (refine wpG_read (v := ?_) rfl (.inl ⟨by rfl, fun wx hbx => ?_⟩) ?_; rotate_left; (focus (obtain ⟨cx0, fx0, zx0⟩ := bk hbx (wr.heap.size) (by first | omega | (simp; done) | (simp; omega)); obtain ⟨cx1, fx1, zx1⟩ := bk hbx (b3) (by first | omega | (simp; done) | (simp; omega)); go_simp; (try go_bits); (try with_reducible rfl))); try simp only [Act.put, List.setIfInBounds_toArray, List.set_cons_zero, List.set_cons_succ]))
        (refine wpG_read (v := ?_) rfl (.inl ⟨by rfl, fun wx hbx => ?_⟩) ?_; rotate_left; (focus (obtain ⟨cx0, fx0, zx0⟩ := bk hbx (wr.heap.size) (by first | omega | (simp; done) | (simp; omega)); obtain ⟨cx1, fx1, zx1⟩ := bk hbx (b3) (by first | omega | (simp; done) | (simp; omega)); go_simp; (try go_bits); (try with_reducible rfl))); try simp only [Act.put, List.setIfInBounds_toArray, List.set_cons_zero, List.set_cons_succ])
        (refine wpG_read (v := ?_) rfl (.inl ⟨by rfl, fun wx hbx => ?_⟩) ?_; rotate_left; (focus (obtain ⟨cx0, fx0, zx0⟩ := bk hbx (wr.heap.size) (by first | omega | (simp; done) | (simp; omega)); obtain ⟨cx1, fx1, zx1⟩ := bk hbx (b3) (by first | omega | (simp; done) | (simp; omega)); go_simp; (try go_bits); (try with_reducible rfl))); try simp only [Act.put, List.setIfInBounds_toArray, List.set_cons_zero, List.set_cons_succ])
        (first | (refine wpG_pass rfl (by rfl) ?_; simp only [Act.put, List.setIfInBounds_toArray, List.set_cons_zero, List.set_cons_succ]) | (refine wpG_read (v := ?_) rfl (.inl ⟨by rfl, fun wx hbx => ?_⟩) ?_; rotate_left; (focus (obtain ⟨cx0, fx0, zx0⟩ := bk hbx (wr.heap.size) (by first | omega | (simp; done) | (simp; omega)); obtain ⟨cx1, fx1, zx1⟩ := bk hbx (b3) (by first | omega | (simp; done) | (simp; omega)); go_simp; (try go_bits); (try with_reducible rfl))); try simp only [Act.put, List.setIfInBounds_toArray, List.set_cons_zero, List.set_cons_succ]))
        (first | (refine wpG_pass rfl (by rfl) ?_; simp only [Act.put, List.setIfInBounds_toArray, List.set_cons_zero, List.set_cons_succ]) | (refine wpG_read (v := ?_) rfl (.inl ⟨by rfl, fun wx hbx => ?_⟩) ?_; rotate_left; (focus (obtain ⟨cx0, fx0, zx0⟩ := bk hbx (wr.heap.size) (by first | omega | (simp; done) | (simp; omega)); obtain ⟨cx1, fx1, zx1⟩ := bk hbx (b3) (by first | omega | (simp; done) | (simp; omega)); go_simp; (try go_bits); (try with_reducible rfl))); try simp only [Act.put, List.setIfInBounds_toArray, List.set_cons_zero, List.set_cons_succ]))
        (first | (refine wpG_pass rfl (by rfl) ?_; simp only [Act.put, List.setIfInBounds_toArray, List.set_cons_zero, List.set_cons_succ]) | (refine wpG_read (v := ?_) rfl (.inl ⟨by rfl, fun wx hbx => ?_⟩) ?_; rotate_left; (focus (obtain ⟨cx0, fx0, zx0⟩ := bk hbx (wr.heap.size) (by first | omega | (simp; done) | (simp; omega)); obtain ⟨cx1, fx1, zx1⟩ := bk hbx (b3) (by first | omega | (simp; done) | (simp; omega)); go_simp; (try go_bits); (try with_reducible rfl))); try simp only [Act.put, List.setIfInBounds_toArray, List.set_cons_zero, List.set_cons_succ]))
        (refine wpG_read (v := ?_) rfl (.inl ⟨by rfl, fun wx hbx => ?_⟩) ?_; rotate_left; (focus (obtain ⟨cx0, fx0, zx0⟩ := bk hbx (wr.heap.size) (by first | omega | (simp; done) | (simp; omega)); obtain ⟨cx1, fx1, zx1⟩ := bk hbx (b3) (by first | omega | (simp; done) | (simp; omega)); go_simp; (try go_bits); (try with_reducible rfl))); try simp only [Act.put, List.setIfInBounds_toArray, List.set_cons_zero, List.set_cons_succ])
        refine wpG_nil ?_
        have h4 : Below Y.heap.size Y v4 := (Below.refl _ Y).drew.trans hS
        go_wp2_with fail
        exact ⟨⟨i + 1, by push_cast; rfl, by omega, by rw [HC2.out]; push_cast; rfl, HBR.out.trans ((HYW.out.trans (h4.mono HYW.out.size)).mono HBR.out.size)⟩, by simp only [intOf]; omega⟩
    · have ck : (N : Int) ≤ (i : Int) := by omega
      obtain rfl : i = N := by omega
      have hlen : (mapOf wr bo).length = cntS l i := by rw [hmo]; exact mZ_len (F := fun _ y => two23 y) HOV.out HLV.out
      have hbw := HVB.out.trans (HBR.out.mono HVB.out.size)
      have oo : Old wr bo := hor.lt
      clear hbr h3 hRr hmo
      go_wp2_with fail
      go_ret
      exact ⟨by simp, hbw⟩
end Go.Proofs.Ytjcbphhemmdnjaa
