/- law24 (offset): OffsetScrolls, walked. -/
import Derived.Test.YtjcbphhemmdnjaaOffH
import Derived.Test.YtjcbphhemmdnjaaOffI
namespace Go.Proofs.Ytjcbphhemmdnjaa
open Go Go.RowKit
set_option linter.unusedSimpArgs false
set_option linter.unusedVariables false
-- below_from_drew
attribute [local go_sem] ov_cell_same ov_cell_other ov_frozen_same ov_frozen_other ov_size ov_setCell_same ov_setCell_other cell_alloc_old frozen_alloc_old setCell_alloc_old old_alloc old_ov old_drew old_drewN old_setCell
attribute [local go_sem ↓] run_max2 run_min2
theorem look_two {w : World} {b : Nat} {k : Int} (h : MapOk w b) : (Instr.lookup 35 (.map (some b)) (.int .i64 k) false).run Try.prog w = .ok (mgetD (mapOf w b) k (.agg #[.int .i64 0, .int .i64 0])) w := run_lookM Try.underlying35 Try.underlying3 zero_two k h
attribute [local go_sem] look_place look_place_ok len_place look_two put_two mapOk_alloc mapOf_alloc mapOk_drew mapOf_drew mapOk_drewN mapOf_drewN mapOk_ov mapOf_ov
attribute [local go_sem ↓] neq_place
theorem In24.scroll {w w' : World} {l l' : List N24} {N pt bm bx sc : Nat} {base : Nat → Prop} {R : Rows} (h : In24 w l N pt bm bx sc base R) (hb : ButS (fun b => b = sc) w.heap.size w w') (hm : MapOk w' sc) (hl : ∀ x, mlook (mapOf w' sc) x = m24b l' N x) (hp : pa24 l' = pa24 l) (hx : m24a l' N = m24a l N) (n1 : ¬ base sc) (n2 : pt ≠ sc) (n3 : bm ≠ sc) (n4 : bx ≠ sc) : In24 w' l' N pt bm bx sc base R := by
  have q : ∀ b, b < w.heap.size → b ≠ sc → w'.heap[b]? = w.heap[b]? := fun b h1 h2 => hb.block b h1 h2
  refine ⟨h.tree.re hb.size (fun b h1 h2 => q b h1 ?_) (fun b h1 h2 => h2) (fun b h1 => h.free b (Nat.le_trans hb.size h1)), by rw [hp]; exact h.told, mapOk_eq (q _ h.okx.lt n4) h.okx, fun x => by rw [mapOf_eq (q _ h.okx.lt n4), hx]; exact h.lx x, hm, hl, fun b h1 => h.free b (Nat.le_trans hb.size h1)⟩
  rcases h2 with h2 | h2 | h2
  · exact fun e => n1 (e ▸ h2)
  · exact fun e => n2 (h2 ▸ e)
  · exact fun e => n3 (h2 ▸ e)
theorem Rd24.buts {w w1 : World} {l : List N24} {N gL gl gs gb sc : Nat} (h : Rd24 w l N gL gl gs gb) (hN : 0 < N) (hm : MapOk w sc) (hb : ButS (fun b => b = sc) w.heap.size w w1) : Rd24 w1 l N gL gl gs gb := by
  have c : ∀ g o, g < w.heap.size → g ≠ sc → w1.cell? ⟨g, o, none⟩ = w.cell? ⟨g, o, none⟩ := fun g o hg hn => World.cell?_of_block (w := w) (hb.block g hg hn)
  have nL : gL ≠ sc := cell_notMap hm (h.par 0 hN)
  have nl : gl ≠ sc := cell_notMap hm (h.x 0 hN)
  have ns : gs ≠ sc := cell_notMap hm (h.sc 0 hN)
  have nb : gb ≠ sc := cell_notMap hm (h.b0 0 hN)
  have z := hb.size
  exact ⟨Nat.lt_of_lt_of_le h.zL z, Nat.lt_of_lt_of_le h.zl z, Nat.lt_of_lt_of_le h.zs z, Nat.lt_of_lt_of_le h.zb z, fun k hk => (c _ _ h.zL nL).trans (h.par k hk), fun k hk => (c _ _ h.zl nl).trans (h.th k hk), fun k hk => (c _ _ h.zl nl).trans (h.x k hk), fun k hk => (c _ _ h.zl nl).trans (h.y k hk), fun k hk => (c _ _ h.zl nl).trans (h.t k hk), fun k hk => (c _ _ h.zl nl).trans (h.e k hk), fun k hk => (c _ _ h.zs ns).trans (h.sc k hk), fun k hk => (c _ _ h.zb nb).trans (h.b0 k hk), fun k hk => (c _ _ h.zb nb).trans (h.b1 k hk)⟩
set_option maxRecDepth 100000 in
set_option maxHeartbeats 8000000 in
theorem scrolls24_any (a : Option Addr) (n c : Nat) (l : List N24) (at1 px py : Int) (w : World) (hn : l.length = n) (hn1 : n ≤ c) (hc : c ≤ 9223372036854775807) (h : N24sAt w a l) (hat : 0 ≤ at1 ∧ at1 ≤ 255) (hpx : -32768 ≤ px ∧ px ≤ 32767) (hpy : -32768 ≤ py ∧ py ≤ 32767) :
    Calls Try.prog 9 #[.slice a n c, .int .u8 at1, .agg #[.int .i16 px, .int .i16 py]] w fun e w' => e = .returned (.bool true) ∧ Below w.heap.size w w' := by
  have hok : ∀ i, Ok24 (nd24 l i) := fun i => ok24_nd h i
  have HA := Lib.hid h
  clear h
  have hN := cnt24_le l; have hN0 := cnt24_pos l
  obtain ⟨N, hNN⟩ : ∃ N, cnt24 l = N := ⟨_, rfl⟩
  rw [hNN] at hN hN0
  have HM : ∀ X, Below w.heap.size w X → Calls Try.prog 25 #[.slice a n c] X (Made24 l X) := fun X hX => made24_any a n c l X hn hn1 hc (HA.out.below hX)
  have HMM := Lib.hid HM
  clear HM
  obtain ⟨m, hm⟩ : ∃ m : Nat, at1.tmod (N : Int) = m ∧ m < N := by
    rw [Int.tmod_eq_emod_of_nonneg hat.1]
    have h1 := Int.emod_nonneg at1 (show (N : Int) ≠ 0 by omega)
    have h2 := Int.emod_lt_of_pos at1 (show (0 : Int) < N by omega)
    exact ⟨(at1 % N).toNat, by omega, by omega⟩
  obtain ⟨hmt, hmN⟩ := hm
  have hmI : (m : Int) < N := by omega
  have hm0 : (0 : Int) ≤ m := by omega
  have hNn : ¬ (N : Int) = 0 := by omega
  have hwa : wrap64 at1 = at1 := by unfold wrap64; omega
  go_enter Try.func9, Try.ntmps9
  go_upto_region 3 with (go_at_call 24; (with_reducible refine (speaks24_any _).mono ?_); rintro e w1 ⟨rfl, hb⟩; refine Exists.elim (after1 (w := w) (b0 := w.heap.size) (cs0 := ?_) (T0 := ?_) hb ?_ ?_) ?_; rotate_left 2; (focus ((repeat' (first | (with_reducible exact Below.refl _ _) | (with_reducible assumption) | (with_reducible refine below_from_drew ?_) | (with_reducible refine Below.alloc ?_ ?_ _) | (with_reducible refine Below.drew ?_) | (with_reducible refine below_drewN ?_ _) | (with_reducible refine Below.setCell ?_ ?_ _) | (with_reducible refine below_via ?_ (by assumption) ?_) | (with_reducible refine below_ov ?_ ?_ _ _) | go_size)); done)); (focus ((repeat' (first | (with_reducible refine has_drew ?_) | (with_reducible refine has_drewN ?_) | (with_reducible refine has_new ?_; (first | (with_reducible rfl) | omega | (simp; done) | (simp; omega))) | (with_reducible refine has_ov_same ?_; (first | (with_reducible rfl) | omega | (simp; done) | (simp; omega))) | (with_reducible refine has_alloc ?_) | (with_reducible refine has_ov_other ?_ ?_; (focus (first | (with_reducible rfl) | omega | (simp; done) | (simp; omega)))) | (with_reducible assumption) | (with_reducible exact has_below hB (by assumption)))); done)); rintro u ⟨rfl, hB, hz, z0, o0⟩; (try simp only [World.size_alloc, World.size_setCell, World.size_drew, ov_size] at hz))
  refine name_w (f := Code.wp _ _ _ _) (fun U hU => ?_)
  obtain ⟨b5, hb5⟩ : ∃ b, w.heap.size = b := ⟨_, rfl⟩
  have hUb : Below w.heap.size w U := by rw [hU]; (repeat' (first | (with_reducible exact Below.refl _ _) | (with_reducible assumption) | (with_reducible refine below_from_drew ?_) | (with_reducible refine Below.alloc ?_ ?_ _) | (with_reducible refine Below.drew ?_) | (with_reducible refine below_drewN ?_ _) | (with_reducible refine Below.setCell ?_ ?_ _) | (with_reducible refine below_via ?_ (by assumption) ?_) | (with_reducible refine below_ov ?_ ?_ _ _) | go_size))
  have hU5 : Has U b5 #[.int .i16 px, .int .i16 py] 98 := by rw [hU, ← hb5]; (repeat' (first | (with_reducible refine has_drew ?_) | (with_reducible refine has_drewN ?_) | (with_reducible refine has_new ?_; (first | (with_reducible rfl) | omega | (simp; done) | (simp; omega))) | (with_reducible refine has_ov_same ?_; (first | (with_reducible rfl) | omega | (simp; done) | (simp; omega))) | (with_reducible refine has_alloc ?_) | (with_reducible refine has_ov_other ?_ ?_; (focus (first | (with_reducible rfl) | omega | (simp; done) | (simp; omega)))) | (with_reducible assumption) | (with_reducible exact has_below hB (by assumption))))
  have HUB := Lib.hid hUb; have HUW := Lib.hid hUb; have HU5 := Lib.hid hU5; have HB5 := Lib.hid hb5
  rw [hb5]
  clear hUb hU5 hU hB hb z0 o0 hz hb5
  go_upto_region 4 with ((go_at_call 25); (with_reducible refine (HMM.out U HUB.out).mono ?_); rintro e w1 ⟨pt, bm, bx, sc, aL, cL, al, cl, aS, cS, ab, cb, R, f, O, rfl, hM⟩; rw [hNN] at hM; obtain ⟨gL, gl, gs, gb, rfl, rfl, rfl, rfl, hR⟩ := hM.rd hN0; have hI := hM.into hN0; have hb1 := hM.wd.bel; have hk1 : O sc := hM.wd.mo 1 (by omega); have hk2 := hM.wd.tk.np; have hk3 := hM.wd.tk.nbm; have hk4 : bx ≠ sc := hM.wd.mne 0 1 (by omega) (by omega) (by omega); have hk5 : U.heap.size ≤ sc := hM.wd.ml 1 (by omega); have HRD := Lib.hid hR; have HI := Lib.hid hI; have HK := Lib.hid (And.intro hk1 (And.intro hk2 (And.intro hk3 (And.intro hk4 hk5)))); have HB1 := Lib.hid hb1; clear hM hR hI hb1 hk1 hk2 hk3 hk4 hk5; unfold w24C; rw [hNN])
  obtain ⟨b7, hb7⟩ : ∃ b, w1.heap.size = b := ⟨_, rfl⟩
  refine name_w (f := Code.wp _ _ _ _) (fun Y hY => ?_)
  have hbY : Below w1.heap.size w1 Y := by rw [hY]; (repeat' (first | (with_reducible exact Below.refl _ _) | (with_reducible assumption) | (with_reducible refine below_from_drew ?_) | (with_reducible refine Below.alloc ?_ ?_ _) | (with_reducible refine Below.drew ?_) | (with_reducible refine below_drewN ?_ _) | (with_reducible refine Below.setCell ?_ ?_ _) | (with_reducible refine below_via ?_ (by assumption) ?_) | (with_reducible refine below_ov ?_ ?_ _ _) | go_size))
  have hY7 : Has Y b7 #[.pointer (some ⟨pt, 0, none⟩), .map (some bx), .map (some sc), .slice (some ⟨gL, 0, none⟩) N cL, .int .i64 0, .int .i64 0, .slice (some ⟨gl, 0, none⟩) N cl, .slice (some ⟨gs, 0, none⟩) N cS, .slice (some ⟨gb, 0, none⟩) N cb] 82 := by rw [hY, ← hb7]; (repeat' (first | (with_reducible refine has_drew ?_) | (with_reducible refine has_drewN ?_) | (with_reducible refine has_new ?_; (first | (with_reducible rfl) | omega | (simp; done) | (simp; omega))) | (with_reducible refine has_ov_same ?_; (first | (with_reducible rfl) | omega | (simp; done) | (simp; omega))) | (with_reducible refine has_alloc ?_) | (with_reducible refine has_ov_other ?_ ?_; (focus (first | (with_reducible rfl) | omega | (simp; done) | (simp; omega)))) | (with_reducible assumption) | (with_reducible exact has_below hB (by assumption))))
  have hUY := HB1.out.trans (hbY.mono HB1.out.size)
  have HBY := Lib.hid (HUB.out.trans (hUY.mono HUB.out.size)); have HRY := Lib.hid (HRD.out.below hbY); have HIY := Lib.hid (HI.out.below hbY); have HY7 := Lib.hid hY7
  have HY5 := Lib.hid (has_below hUY HU5.out)
  have c7 := hY7.cells; have l7 := hY7.lt; have o7 : Old Y b7 := l7
  have hsY : sc < Y.heap.size := HIY.out.oks.lt
  rw [hb7]
  have h75 : b7 ≠ b5 := by rw [← hb7]; have h1 := HU5.out.lt; have h2 := HB1.out.size; omega
  clear hbY hY7 hY HRD HI HB1 hb7 HMM hUY HU5 HUB
  go_upto_region 8 with ((go_at_call 26); (with_reducible refine (of24_any l (fun i => (hok i).wide) N pt bm bx sc _ R hN hN0 _ HIY.out).mono ?_); rintro e u2 ⟨bo, rfl, hbo, hmo, hlo, hb⟩; have hB2 := hb; have k7 := has_below hb HY7.out; have HP := Lib.hid (Pl24At.mk (HRY.out.below hb) hmo hlo); clear hmo hlo hb)
  clear c7 l7 o7
  have c7 := k7.cells; have l7 := k7.lt; have o7 : Old u2 b7 := l7
  have k5 := has_below hB2 HY5.out
  have c5 := k5.cells; have l5 := k5.lt; have o5 : Old u2 b5 := l5
  have hsc := HP.out.rd.sc m hmN
  have os : Old u2 gs := HP.out.rd.zs
  have HI2 := Lib.hid (HIY.out.below hB2)
  rcases hs : (nd24 l m).sc with _ | _
  · rw [hs] at hsc
    go_wp2_with fail
    go_ret
    exact ⟨rfl, HBY.out.trans (hB2.mono HBY.out.size)⟩
  · rw [hs] at hsc
    have oks := HI2.out.oks; have ols : Old u2 sc := oks.lt
    have hlk := HI2.out.ls m
    unfold m24b at hlk
    rw [if_pos ⟨by omega, by omega, by rw [Int.toNat_natCast]; exact hs⟩, Int.toNat_natCast] at hlk
    have g1 := mgetD_some (z := .agg #[.int .i64 0, .int .i64 0]) hlk
    clear hlk
    have hom := hok m
    have q1 := hom.b0; have q2 := hom.b1
    unfold In32 at q1 q2
    have hw0 : wrap64 ((nd24 l m).b0 + 64 * px) = (nd24 l m).b0 + 64 * px := by unfold wrap64; omega
    have hw1 : wrap64 ((nd24 l m).b1 + 64 * py) = (nd24 l m).b1 + 64 * py := by unfold wrap64; omega
    clear hom q1 q2
    go_upto_region 12 with fail
    refine name_w (f := Code.wp _ _ _ _) (fun X hX => ?_)
    have hml := sc_len hs
    have hoka : MapOk (u2.alloc (.cells #[.int .i64 (nd24 l m).b0, .int .i64 (nd24 l m).b1] 39)) sc := mapOk_alloc oks
    have hbX : ButS (fun b => b = sc) u2.heap.size u2 X := by rw [hX]; exact ((ButS.refl _ _ u2).alloc (Nat.le_refl _) _).put (.inr rfl)
    have hXs : MapOk X sc := by rw [hX]; exact mapOk_put_same hoka
    have hXl : ∀ x, mlook (mapOf X sc) x = m24b (upN l m px py) N x := fun x => by
      rw [hX, mapOf_put_same hoka, mlook_put, mapOf_alloc ols, HI2.out.ls, m24b_up hml px py hmN hs]
    have hk := HK.out
    have hIX := HI2.out.scroll hbX hXs hXl (pa24_up hml px py) (m24a_up hml px py N) (fun q => q.2 hk.1) (fun e => hk.2.1 (e ▸ hk.1)) (fun e => hk.2.2.1 (e ▸ hk.1)) hk.2.2.2.1
    have hbos : bo ≠ sc := by omega
    have hPX : Pl24At X l N gL gl gs gb bo := ⟨HP.out.rd.buts hN0 oks hbX, mapOk_eq (hbX.block _ HP.out.ok.lt hbos) HP.out.ok, fun x => by rw [mapOf_eq (hbX.block _ HP.out.ok.lt hbos)]; exact HP.out.look x⟩
    have hX7 := hbX.has k7 k7.lt (fun e => by have e : b7 = sc := e; subst e; exact has_notMap k7 oks)
    have hX5 := hbX.has k5 k5.lt (fun e => by have e : b5 = sc := e; subst e; exact has_notMap k5 oks)
    have hwX : Below w.heap.size w X := (HBY.out.trans (hB2.mono HBY.out.size)).trans ((hbX.less (Nat.le_trans HBY.out.size hB2.size)).below (fun k hk1 e => by have e : k = sc := e; have := hk.2.2.2.2; have := HUW.out.size; omega))
    have HIX := Lib.hid hIX; have HPX := Lib.hid hPX; have HX7 := Lib.hid hX7; have HX5 := Lib.hid hX5; have HWX := Lib.hid hwX
    clear hX hoka hbX hXs hXl hk hIX hPX hX7 hX5 hwX k7 k5 c7 l7 o7 c5 l5 o5 oks ols g1 hw0 hw1 hB2 HI2 HP hsc os HIY HY7 HY5 hsY hbo
    have c7 := HX7.out.cells; have l7 := HX7.out.lt; have o7 : Old X b7 := l7
    go_upto_region 13 with ((go_at_call 26); (with_reducible refine (of24_any (upN l m px py) (okW_up hs hok px py hpx hpy) N pt bm bx sc _ R hN hN0 _ HIX.out).mono ?_); rintro e u3 ⟨bo2, rfl, hbo2, hmo2, hlo2, hb⟩; have hB3 := hb; have HP3 := Lib.hid (HPX.out.below hb); have H7 := Lib.hid (has_below hb HX7.out); have H5 := Lib.hid (has_below hb HX5.out); have HM2 := Lib.hid (And.intro hmo2 hlo2); have HW3 := Lib.hid (HWX.out.trans (hb.mono HWX.out.size)); clear hmo2 hlo2 hb hbo2)
    have oka := HP3.out.ok; have okb := HM2.out.1
    have g3 : (mapOf u3 bo).length = cntT l N := outG_len oka HP3.out.look
    have g4 : (mapOf u3 bo2).length = cntT l N := by
      rw [outG_len okb HM2.out.2]
      unfold cntT
      rw [show there24 (upN l m px py) = there24 l from funext (there24_up2 hml px py)]
    clear hB3 c7 l7 o7 HPX HX7 HX5 HWX HIX
    go_wp2_with fail
    go_loopw [15] (fun vi wr => ∃ i : Nat, vi = .int .i64 i ∧ i ≤ N ∧ Below u3.heap.size u3 wr) (fun vi _ => N - (intOf vi).toNat)
    case atStart => exact ⟨0, rfl, Nat.zero_le _, Below.refl _ _⟩
    case round =>
      obtain ⟨i, rfl, hi, hbr⟩ := hrel
      have HR3 := Lib.hid hbr
      have HPR := Lib.hid (HP3.out.below hbr)
      have H7R := Lib.hid (has_below hbr H7.out)
      have H5R := Lib.hid (has_below hbr H5.out)
      have HM2R := Lib.hid (And.intro (mapOk_eq (hbr.block _ HM2.out.1.lt) HM2.out.1) (fun x => (by rw [mapOf_eq (hbr.block _ HM2.out.1.lt)]; exact HM2.out.2 x : mlook (mapOf wr bo2) x = outG (upN l m px py) N x)))
      clear hbr
      have c7 := H7R.out.cells; have l7 := H7R.out.lt; have o7 : Old wr b7 := l7
      have ok := HPR.out.ok; have ol : Old wr bo := ok.lt
      have ok2 := HM2R.out.1; have ol2 : Old wr bo2 := ok2.lt
      by_cases c : i < N
      · have ci : (i : Int) < (N : Int) := by omega
        have hlk := HPR.out.look i
        have hlk2 := HM2R.out.2 i
        unfold outG at hlk hlk2
        rw [there24_up2 hml px py] at hlk2
        obtain ⟨th, hth⟩ : ∃ t, there24 l i = t := ⟨_, rfl⟩
        have hall : ∃ pX pY pL p0 p1 r0 r1 sX sY sL s0 s1 t0 t1 : Int, mgetD (mapOf wr bo) i plZV = .agg #[.int .i64 pX, .int .i64 pY, .int .i64 pL, .int .i64 p0, .int .i64 p1, .int .i64 r0, .int .i64 r1] ∧ mgetD (mapOf wr bo2) i plZV = .agg #[.int .i64 sX, .int .i64 sY, .int .i64 sL, .int .i64 s0, .int .i64 s1, .int .i64 t0, .int .i64 t1] ∧ mhas (mapOf wr bo) i = th ∧ (th = true → belowB l m i = false → sX = pX ∧ sY = pY ∧ sL = pL ∧ s0 = p0 ∧ s1 = p1 ∧ t0 = r0 ∧ t1 = r1) ∧ (th = true → belowB l m i = true → sX = pX - 64 * px ∧ sY = pY - 64 * py ∧ sL = pL ∧ s0 = p0 - px ∧ s1 = p1 - py ∧ t0 = r0 ∧ t1 = r1) ∧ (-1099511627776 ≤ pX ∧ pX ≤ 1099511627776) ∧ (-1099511627776 ≤ pY ∧ pY ≤ 1099511627776) ∧ (-1099511627776 ≤ p0 ∧ p0 ≤ 1099511627776) ∧ (-1099511627776 ≤ p1 ∧ p1 ≤ 1099511627776) := by
          rcases th with _ | _
          · rw [if_neg (by rw [Int.toNat_natCast, hth]; simp)] at hlk hlk2
            exact ⟨0, 0, 0, 0, 0, 0, 0, 0, 0, 0, 0, 0, 0, 0, mgetD_none hlk, mgetD_none hlk2, mhas_none hlk, fun h => (by cases h), fun h => (by cases h), by omega, by omega, by omega, by omega⟩
          · rw [if_pos ⟨by omega, by omega, by rw [Int.toNat_natCast]; exact hth⟩, Int.toNat_natCast] at hlk hlk2
            have hup := place24_up hs px py i
            have hnr := place24_near hok i
            have hly := place24_layer l i
            obtain ⟨p, hp⟩ : ∃ p, place24 l i = p := ⟨_, rfl⟩
            rw [hp] at hlk hup hnr hly
            refine ⟨p.X, p.Y, p.L, p.o0, p.o1, p.r0, p.r1, (place24 (upN l m px py) i).X, (place24 (upN l m px py) i).Y, (place24 (upN l m px py) i).L, (place24 (upN l m px py) i).o0, (place24 (upN l m px py) i).o1, (place24 (upN l m px py) i).r0, (place24 (upN l m px py) i).r1, mgetD_some hlk, mgetD_some hlk2, mhas_some hlk, fun _ hb => ?_, fun _ hb => ?_, by omega, by omega, ?_, ?_⟩
            · rw [hup, if_neg (by rw [hb]; simp)]; exact ⟨rfl, rfl, rfl, rfl, rfl, rfl, rfl⟩
            · rw [hup, if_pos hb]; exact ⟨rfl, rfl, rfl, rfl, rfl, rfl, rfl⟩
            · rcases hly with ⟨_, h1, _⟩ | ⟨q, _, hq, h1, _⟩
              · rw [h1]; omega
              · have h2 := place24_near hok q
                have h3 := (hok q).b0; have h4 := (hok q).bd
                unfold In32 at h3
                rw [h1]; unfold bgX; omega
            · rcases hly with ⟨_, _, h1, _⟩ | ⟨q, _, hq, _, h1, _⟩
              · rw [h1]; omega
              · have h2 := place24_near hok q
                have h3 := (hok q).b1; have h4 := (hok q).bd
                unfold In32 at h3
                rw [h1]; unfold bgY; omega
        obtain ⟨pX, pY, pL, p0, p1, r0, r1, sX, sY, sL, s0, s1, t0, t1, g1, g5, g2, hsame, hshift, hX1, hX2, hX3, hX4⟩ := hall
        have HSA := Lib.hid hsame; have HSH := Lib.hid hshift
        clear hlk hlk2 hsame hshift hth
        go_upto_region 20 with fail
        refine name_w (f := Code.wp _ _ _ _) (fun X hX => ?_)
        obtain ⟨pa, hpa⟩ : ∃ b, wr.heap.size = b := ⟨_, rfl⟩
        have hbX : Below wr.heap.size wr X := by rw [hX]; (repeat' (first | (with_reducible exact Below.refl _ _) | (with_reducible assumption) | (with_reducible refine below_from_drew ?_) | (with_reducible refine Below.alloc ?_ ?_ _) | (with_reducible refine Below.drew ?_) | (with_reducible refine below_drewN ?_ _) | (with_reducible refine Below.setCell ?_ ?_ _) | (with_reducible refine below_via ?_ (by assumption) ?_) | (with_reducible refine below_ov ?_ ?_ _ _) | go_size))
        have hXa : Has X pa #[.int .i64 pX, .int .i64 pY, .int .i64 pL, .int .i64 p0, .int .i64 p1, .int .i64 r0, .int .i64 r1] 89 := by rw [hX, ← hpa]; (repeat' (first | (with_reducible refine has_drew ?_) | (with_reducible refine has_drewN ?_) | (with_reducible refine has_new ?_; (first | (with_reducible rfl) | omega | (simp; done) | (simp; omega))) | (with_reducible refine has_ov_same ?_; (first | (with_reducible rfl) | omega | (simp; done) | (simp; omega))) | (with_reducible refine has_alloc ?_) | (with_reducible refine has_ov_other ?_ ?_; (focus (first | (with_reducible rfl) | omega | (simp; done) | (simp; omega)))) | (with_reducible assumption) | (with_reducible exact has_below hB (by assumption))))
        have hXb : Has X (pa + 1) #[.int .i64 sX, .int .i64 sY, .int .i64 sL, .int .i64 s0, .int .i64 s1, .int .i64 t0, .int .i64 t1] 89 := by rw [hX, ← hpa]; (repeat' (first | (with_reducible refine has_drew ?_) | (with_reducible refine has_drewN ?_) | (with_reducible refine has_new ?_; (first | (with_reducible rfl) | omega | (simp; done) | (simp; omega))) | (with_reducible refine has_ov_same ?_; (first | (with_reducible rfl) | omega | (simp; done) | (simp; omega))) | (with_reducible refine has_alloc ?_) | (with_reducible refine has_ov_other ?_ ?_; (focus (first | (with_reducible rfl) | omega | (simp; done) | (simp; omega)))) | (with_reducible assumption) | (with_reducible exact has_below hB (by assumption))))
        rw [hpa]
        have HXA := Lib.hid hXa; have HXB := Lib.hid hXb
        have HBX := Lib.hid (HR3.out.trans (hbX.mono HR3.out.size))
        have HRX := Lib.hid (HPR.out.rd.below hbX)
        have HX7 := Lib.hid (has_below hbX H7R.out); have HX5 := Lib.hid (has_below hbX H5R.out)
        have h3a : u3.heap.size ≤ pa := by rw [← hpa]; exact HR3.out.size
        have h7a : b7 < pa := by rw [← hpa]; exact l7
        have h5a : b5 < pa := by rw [← hpa]; exact H5R.out.lt
        clear hX hbX hXa hXb hpa c7 l7 o7 ok ol ok2 ol2 g1 g5 g2 HPR H7R H5R HM2R HR3
        have c7 := HX7.out.cells; have l7 := HX7.out.lt; have o7 : Old X b7 := l7
        have lL : Old X gL := HRX.out.zL
        go_wp2_with fail
        go_loopw [19, 20] (fun vb vk wq => ∃ (k : Nat) (bb : Bool), vk = .int .i64 k ∧ k ≤ i ∧ vb = .bool bb ∧ RowKit.Hid ((bb || belowB l m k) = belowB l m i) ∧ wq = X) (fun _ vk _ => (intOf vk).toNat)
        case atStart => exact ⟨i, false, rfl, Nat.le_refl _, rfl, Lib.hid (by simp), rfl⟩
        case round =>
          obtain ⟨k, bb, rfl, hk, rfl, HBB, hq⟩ := hrel
          obtain rfl : X = wr := hq.symm
          rcases Nat.eq_zero_or_pos k with k0 | k0
          · subst k0
            obtain rfl : bb = belowB l m i := by have := HBB.out; rw [belowB_zero, Bool.or_false] at this; exact this
            clear HBB
            rcases th with _ | _
            · go_wp2_with fail
              refine ⟨⟨i + 1, by push_cast; rfl, c, HBX.out⟩, by simp only [intOf]; omega⟩
            · rcases hbel : belowB l m i with _ | _
              · obtain ⟨rfl, rfl, rfl, rfl, rfl, rfl, rfl⟩ := HSA.out rfl hbel
                have ca := HXA.out.cells; have la := HXA.out.lt; have oa : Old X pa := la
                have cb := HXB.out.cells; have lb := HXB.out.lt; have ob : Old X (pa + 1) := lb
                go_wp2_with fail
                refine ⟨⟨i + 1, by push_cast; rfl, c, HBX.out⟩, by simp only [intOf]; omega⟩
              · obtain ⟨rfl, rfl, rfl, rfl, rfl, rfl, rfl⟩ := HSH.out rfl hbel
                have la := HXA.out.lt; have oa : Old X pa := la
                have cb := HXB.out.cells; have lb := HXB.out.lt; have ob : Old X (pa + 1) := lb
                have c5 := HX5.out.cells; have l5 := HX5.out.lt; have o5 : Old X b5 := l5
                have v0 : wrap64 (pX - 64 * px) = pX - 64 * px := by unfold wrap64; omega
                have v1 : wrap64 (pY - 64 * py) = pY - 64 * py := by unfold wrap64; omega
                have v2 : wrap64 (p0 - px) = p0 - px := by unfold wrap64; omega
                have v3 : wrap64 (p1 - py) = p1 - py := by unfold wrap64; omega
                go_upto_region 27 with fail
                rw [← ov_self HXA.out]
                have h5p : ¬ b5 = pa := by omega
                refine region_phases (ph2 (pa) _) [(0, 0, 0), (1, 0, 0), (2, 0, 0), (3, 0, 0), (4, 0, 0), (5, 0, 0), (6, 0, 0), (7, 0, 0), (8, 0, 0), (9, 0, 1), (10, 0, 1), (11, 0, 1), (12, 0, 1), (13, 0, 1), (14, 0, 0), (15, 1, 1), (16, 0, 1), (17, 1, 2)] (ph2_first _ _) (by kernel_rfl) (by kernel_rfl) (fun _ _ d _ _ h => by cases d <;> exact h) ?_
                (refine wpP_read (v := ?_) rfl (.inl ⟨by rfl, fun wx hbx => ?_⟩) ?_; rotate_left; (focus (obtain ⟨cx0, fx0, zx0⟩ := bk (show Below _ _ _ from hbx) (pa) (by first | omega | (simp; done) | (simp; omega)); obtain ⟨cx1, fx1, zx1⟩ := bk (show Below _ _ _ from hbx) (b5) (by first | omega | (simp; done) | (simp; omega)); go_simp; (try go_bits); (try with_reducible rfl))); try simp only [Act.put, List.setIfInBounds_toArray, List.set_cons_zero, List.set_cons_succ])
                (refine wpP_read (v := ?_) rfl (.inl ⟨by rfl, fun wx hbx => ?_⟩) ?_; rotate_left; (focus (obtain ⟨cx0, fx0, zx0⟩ := bk (show Below _ _ _ from hbx) (pa) (by first | omega | (simp; done) | (simp; omega)); obtain ⟨cx1, fx1, zx1⟩ := bk (show Below _ _ _ from hbx) (b5) (by first | omega | (simp; done) | (simp; omega)); go_simp; (try go_bits); (try with_reducible rfl))); try simp only [Act.put, List.setIfInBounds_toArray, List.set_cons_zero, List.set_cons_succ])
                (refine wpP_read (v := ?_) rfl (.inl ⟨by rfl, fun wx hbx => ?_⟩) ?_; rotate_left; (focus (obtain ⟨cx0, fx0, zx0⟩ := bk (show Below _ _ _ from hbx) (pa) (by first | omega | (simp; done) | (simp; omega)); obtain ⟨cx1, fx1, zx1⟩ := bk (show Below _ _ _ from hbx) (b5) (by first | omega | (simp; done) | (simp; omega)); go_simp; (try go_bits); (try with_reducible rfl))); try simp only [Act.put, List.setIfInBounds_toArray, List.set_cons_zero, List.set_cons_succ])
                (refine wpP_read (v := ?_) rfl (.inl ⟨by rfl, fun wx hbx => ?_⟩) ?_; rotate_left; (focus (obtain ⟨cx0, fx0, zx0⟩ := bk (show Below _ _ _ from hbx) (pa) (by first | omega | (simp; done) | (simp; omega)); obtain ⟨cx1, fx1, zx1⟩ := bk (show Below _ _ _ from hbx) (b5) (by first | omega | (simp; done) | (simp; omega)); go_simp; (try go_bits); (try with_reducible rfl))); try simp only [Act.put, List.setIfInBounds_toArray, List.set_cons_zero, List.set_cons_succ])
                (refine wpP_read (v := ?_) rfl (.inl ⟨by rfl, fun wx hbx => ?_⟩) ?_; rotate_left; (focus (obtain ⟨cx0, fx0, zx0⟩ := bk (show Below _ _ _ from hbx) (pa) (by first | omega | (simp; done) | (simp; omega)); obtain ⟨cx1, fx1, zx1⟩ := bk (show Below _ _ _ from hbx) (b5) (by first | omega | (simp; done) | (simp; omega)); go_simp; (try go_bits); (try with_reducible rfl))); try simp only [Act.put, List.setIfInBounds_toArray, List.set_cons_zero, List.set_cons_succ])
                (refine wpP_read (v := ?_) rfl (.inl ⟨by rfl, fun wx hbx => ?_⟩) ?_; rotate_left; (focus (obtain ⟨cx0, fx0, zx0⟩ := bk (show Below _ _ _ from hbx) (pa) (by first | omega | (simp; done) | (simp; omega)); obtain ⟨cx1, fx1, zx1⟩ := bk (show Below _ _ _ from hbx) (b5) (by first | omega | (simp; done) | (simp; omega)); go_simp; (try go_bits); (try with_reducible rfl))); try simp only [Act.put, List.setIfInBounds_toArray, List.set_cons_zero, List.set_cons_succ])
                (refine wpP_read (v := ?_) rfl (.inl ⟨by rfl, fun wx hbx => ?_⟩) ?_; rotate_left; (focus (obtain ⟨cx0, fx0, zx0⟩ := bk (show Below _ _ _ from hbx) (pa) (by first | omega | (simp; done) | (simp; omega)); obtain ⟨cx1, fx1, zx1⟩ := bk (show Below _ _ _ from hbx) (b5) (by first | omega | (simp; done) | (simp; omega)); go_simp; (try go_bits); (try with_reducible rfl))); try simp only [Act.put, List.setIfInBounds_toArray, List.set_cons_zero, List.set_cons_succ])
                (refine wpP_read (v := ?_) rfl (.inl ⟨by rfl, fun wx hbx => ?_⟩) ?_; rotate_left; (focus (obtain ⟨cx0, fx0, zx0⟩ := bk (show Below _ _ _ from hbx) (pa) (by first | omega | (simp; done) | (simp; omega)); obtain ⟨cx1, fx1, zx1⟩ := bk (show Below _ _ _ from hbx) (b5) (by first | omega | (simp; done) | (simp; omega)); go_simp; (try go_bits); (try with_reducible rfl))); try simp only [Act.put, List.setIfInBounds_toArray, List.set_cons_zero, List.set_cons_succ])
                (refine wpP_read (v := ?_) rfl (.inl ⟨by rfl, fun wx hbx => ?_⟩) ?_; rotate_left; (focus (obtain ⟨cx0, fx0, zx0⟩ := bk (show Below _ _ _ from hbx) (pa) (by first | omega | (simp; done) | (simp; omega)); obtain ⟨cx1, fx1, zx1⟩ := bk (show Below _ _ _ from hbx) (b5) (by first | omega | (simp; done) | (simp; omega)); go_simp; (try go_bits); (try with_reducible rfl))); try simp only [Act.put, List.setIfInBounds_toArray, List.set_cons_zero, List.set_cons_succ])
                (refine wpP_read (v := ?_) rfl (.inl ⟨by rfl, fun wx hbx => ?_⟩) ?_; rotate_left; (focus (obtain ⟨cx0, fx0⟩ := buts_bk (show ButS _ _ _ _ from hbx) (b := b5) (by first | omega | (simp; done) | (simp; omega)) (by first | assumption | omega | (simp; done) | (simp; omega)); go_simp; (try go_bits); (try with_reducible rfl))); try simp only [Act.put, List.setIfInBounds_toArray, List.set_cons_zero, List.set_cons_succ])
                (refine wpP_read (v := ?_) rfl (.inl ⟨by rfl, fun wx hbx => ?_⟩) ?_; rotate_left; (focus (obtain ⟨cx0, fx0⟩ := buts_bk (show ButS _ _ _ _ from hbx) (b := b5) (by first | omega | (simp; done) | (simp; omega)) (by first | assumption | omega | (simp; done) | (simp; omega)); go_simp; (try go_bits); (try with_reducible rfl))); try simp only [Act.put, List.setIfInBounds_toArray, List.set_cons_zero, List.set_cons_succ])
                (refine wpP_read (v := ?_) rfl (.inl ⟨by rfl, fun wx hbx => ?_⟩) ?_; rotate_left; (focus (obtain ⟨cx0, fx0⟩ := buts_bk (show ButS _ _ _ _ from hbx) (b := b5) (by first | omega | (simp; done) | (simp; omega)) (by first | assumption | omega | (simp; done) | (simp; omega)); go_simp; (try go_bits); (try with_reducible rfl))); try simp only [Act.put, List.setIfInBounds_toArray, List.set_cons_zero, List.set_cons_succ])
                (refine wpP_read (v := ?_) rfl (.inl ⟨by rfl, fun wx hbx => ?_⟩) ?_; rotate_left; (focus (obtain ⟨cx0, fx0⟩ := buts_bk (show ButS _ _ _ _ from hbx) (b := b5) (by first | omega | (simp; done) | (simp; omega)) (by first | assumption | omega | (simp; done) | (simp; omega)); go_simp; (try go_bits); (try with_reducible rfl))); try simp only [Act.put, List.setIfInBounds_toArray, List.set_cons_zero, List.set_cons_succ])
                (refine wpP_read (v := ?_) rfl (.inl ⟨by rfl, fun wx hbx => ?_⟩) ?_; rotate_left; (focus (obtain ⟨cx0, fx0⟩ := buts_bk (show ButS _ _ _ _ from hbx) (b := b5) (by first | omega | (simp; done) | (simp; omega)) (by first | assumption | omega | (simp; done) | (simp; omega)); go_simp; (try go_bits); (try with_reducible rfl))); try simp only [Act.put, List.setIfInBounds_toArray, List.set_cons_zero, List.set_cons_succ])
                (refine wpP_read (v := ?_) rfl (.inl ⟨by rfl, fun wx hbx => ?_⟩) ?_; rotate_left; (focus (obtain ⟨cx0, fx0, zx0⟩ := bk (show Below _ _ _ from hbx) (pa) (by first | omega | (simp; done) | (simp; omega)); obtain ⟨cx1, fx1, zx1⟩ := bk (show Below _ _ _ from hbx) (b5) (by first | omega | (simp; done) | (simp; omega)); go_simp; (try go_bits); (try with_reducible rfl))); try simp only [Act.put, List.setIfInBounds_toArray, List.set_cons_zero, List.set_cons_succ])
                (refine wpP_make rfl (fun K hK => ?_); go_simp; refine hK _ _ (ph2_next ?_) ?_; (focus (first | exact ph2_ov _ _ _ _ _ _ | exact ph2_ovd _ _ _ _ _ _ | exact ph2_ovdd _ _ _ _ _ _)); clear hK K; try simp only [Act.put, List.setIfInBounds_toArray, List.set_cons_zero, List.set_cons_succ])
                (refine wpP_read (v := ?_) rfl (.inl ⟨by rfl, fun wx hbx => ?_⟩) ?_; rotate_left; (focus (obtain ⟨cx0, fx0⟩ := buts_bk (show ButS _ _ _ _ from hbx) (b := b5) (by first | omega | (simp; done) | (simp; omega)) (by first | assumption | omega | (simp; done) | (simp; omega)); go_simp; (try go_bits); (try with_reducible rfl))); try simp only [Act.put, List.setIfInBounds_toArray, List.set_cons_zero, List.set_cons_succ])
                (refine wpP_make rfl (fun K hK => ?_); go_simp; refine hK _ _ (ph2_last) ?_; clear hK K; try simp only [Act.put, List.setIfInBounds_toArray, List.set_cons_zero, List.set_cons_succ])
                refine wpP_nil ?_
                go_wp2_with fail
                refine ⟨⟨i + 1, by push_cast; rfl, c, HBX.out.trans ?_⟩, by simp only [intOf]; omega⟩
                (repeat' (first | (with_reducible exact Below.refl _ _) | (with_reducible assumption) | (with_reducible refine below_from_drew ?_) | (with_reducible refine Below.alloc ?_ ?_ _) | (with_reducible refine Below.drew ?_) | (with_reducible refine below_drewN ?_ _) | (with_reducible refine Below.setCell ?_ ?_ _) | (with_reducible refine below_via ?_ (by assumption) ?_) | (with_reducible refine below_ov ?_ ?_ _ _) | go_size))
          · have hk0 : ¬ (k : Int) = 0 := by omega
            have hpar := HRX.out.par k (by omega)
            have hlt := pa24_lt l k0
            have hup := belowB_up l m k0
            have HUP := Lib.hid hup
            obtain ⟨q, hq⟩ : ∃ q, pa24 l k = q := ⟨_, rfl⟩
            rw [hq] at hpar hlt HUP
            have hkI : (k : Int) < N := by omega
            have hk00 : (0 : Int) ≤ k := by omega
            clear hup hq
            rcases bb with _ | _
            · by_cases hqm : q = m
              · subst hqm
                go_wp2_with fail
                refine ⟨⟨q, true, rfl, by omega, rfl, Lib.hid ?_, trivial⟩, by simp only [intOf]; omega⟩
                have := HBB.out; rw [HUP.out] at this; simpa using this
              · have hqi : ¬ (q : Int) = m := by omega
                have hqe : ((q : Int) == (m : Int)) = false := by rw [beq_eq_false_iff_ne]; exact hqi
                go_wp2_with fail
                refine ⟨⟨q, false, rfl, by omega, by first | rfl | rw [hqe], Lib.hid ?_, trivial⟩, by simp only [intOf]; omega⟩
                have := HBB.out; rw [HUP.out] at this; simpa [hqm] using this
            · go_wp2_with fail
              refine ⟨⟨q, true, rfl, by omega, rfl, Lib.hid ?_, trivial⟩, by simp only [intOf]; omega⟩
              have := HBB.out; simpa using this
      · have ci : (N : Int) ≤ (i : Int) := by omega
        go_wp2_with fail
        go_ret
        exact ⟨rfl, HW3.out.trans (HR3.out.mono HW3.out.size)⟩
theorem scrolls24_row (a : Option Addr) (n c : Nat) (l : List N24) (at1 px py : Int) (w : World) (hn : l.length = n) (hn1 : n ≤ c) (hc : c ≤ 9223372036854775807) (h : N24sAt w a l) (w1 : (Lit.int .u8 at1).wf = true) (w2 : (Lit.int .i16 px).wf = true) (w3 : (Lit.int .i16 py).wf = true) :
    Calls Try.prog 9 #[.slice a n c, .int .u8 at1, .agg #[.int .i16 px, .int .i16 py]] w fun e w' => e = .returned (.bool true) ∧ Below w.heap.size w w' :=
  scrolls24_any a n c l at1 px py w hn hn1 hc h (by simpa [Lit.wf, IntKind.min, IntKind.max, IntKind.bits, IntKind.signed] using w1) (by simpa [Lit.wf, IntKind.min, IntKind.max, IntKind.bits, IntKind.signed] using w2) (by simpa [Lit.wf, IntKind.min, IntKind.max, IntKind.bits, IntKind.signed] using w3)
end Go.Proofs.Ytjcbphhemmdnjaa
