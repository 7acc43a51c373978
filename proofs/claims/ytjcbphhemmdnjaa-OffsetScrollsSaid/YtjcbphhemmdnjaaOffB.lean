/- law24 (offset): the world made, walked. -/
import Derived.Test.YtjcbphhemmdnjaaOffA
namespace Go.Proofs.Ytjcbphhemmdnjaa
open Go Go.RowKit
set_option linter.unusedSimpArgs false
set_option linter.unusedVariables false
-- below_from_drew
attribute [local go_sem] ov_cell_same ov_cell_other ov_frozen_same ov_frozen_other ov_size ov_setCell_same ov_setCell_other cell_alloc_old frozen_alloc_old setCell_alloc_old old_alloc old_ov old_drew old_drewN old_setCell
attribute [local go_sem ↓] run_max2 run_min2
attribute [local go_sem ↓] exec_buildN exec_slN
attribute [local go_sem] put_boxP put_two mapOk_drew
attribute [local go_sem] runBuildN_int runSlN
theorem wrap_in {x : Int} (h : -2147483648 ≤ x ∧ x ≤ 2147483647) : wrap64 x = x := by unfold wrap64; omega
set_option maxRecDepth 100000 in
set_option maxHeartbeats 30000000 in
theorem made24_any (a : Option Addr) (n c : Nat) (l : List N24) (w : World) (hn : l.length = n) (hn1 : n ≤ c) (hc : c ≤ 9223372036854775807) (h : N24sAt w a l) :
    Calls Try.prog 25 #[.slice a n c] w (Made24 l w) := by
  have HN := Lib.hid hn; have HA := Lib.hid h
  clear hn h
  have hmm := @run_makeMap Try.prog
  go_enter Try.func25, Try.ntmps25
  go_wp2_with ((go_at_call 32); (with_reducible refine (tnew_any _).mono ?_); rintro e u ⟨pt, bm, rfl, ht, hpt, hbm, hb⟩)
  refine name_w (f := Code.wp _ _ _ _) (fun X hX => ?_)
  have hM0 : ∃ p4 bx sc f O, u.heap.size + 1 + 1 = p4 ∧ u.heap.size = bx ∧ u.heap.size + 1 = sc ∧ M24 l w X pt bm 2 (b24 w.heap.size p4 pt bx sc 0 none 0 none 0 none 0 none 0) bx sc 0 0 0 0 0 0 0 0 none 0 none 0 none 0 none 0 [(0, 0)] f O := by
    obtain ⟨f, O, q⟩ := m24_start (l := l) ht hpt hbm hb
    exact ⟨_, _, _, f, O, rfl, rfl, rfl, by rw [hX]; exact q⟩
  obtain ⟨p4, bx, sc, f0, O0, hp4, hbx, hsc, hM⟩ := hM0
  obtain ⟨p2, hp2⟩ : ∃ k, w.heap.size = k := ⟨_, rfl⟩
  rw [hp4, hsc, hbx, hp2]
  rw [hp2] at hM
  have HP2 := Lib.hid hp2
  clear hp2
  have HM := Lib.hid hM
  clear hM hX hp4 hbx hsc ht hpt hbm hb
  go_loopw [5] (fun iv wr => ∃ i aL cL al cl aS cS ab cb R f O, iv = .int .i64 ((i : Nat) : Int) ∧ i ≤ cnt24 l ∧ M24 l w wr pt bm 2 (b24 p2 p4 pt bx sc i aL cL al cl aS cS ab cb) bx sc i i i i i i i i aL cL al cl aS cS ab cb R f O) (fun iv _ => 20 - (intOf iv).toNat)
  case atStart => exact ⟨0, _, _, _, _, _, _, _, _, _, _, _, rfl, Nat.zero_le _, HM.out⟩
  case round =>
    clear HM
    obtain ⟨i, aL, cL, al, cl, aS, cS, ab, cb, R, f, O, rfl, hic, hM⟩ := hrel
    have HM := Lib.hid hM
    clear hM
    go_upto_region 3 with fail
    go_cut [27] (fun s wx => s = .bool (decide (i < cnt24 l)) ∧ wx = wr)
    case first =>
      as_aux_lemma =>
        have hln := HN.out
        have c1 : (i < n ∧ i < 16) ∨ (i < n ∧ 16 ≤ i) ∨ (n ≤ i ∧ i = 0) ∨ (n ≤ i ∧ 0 < i) := by omega
        rcases c1 with ⟨c1, c2⟩ | ⟨c1, c2⟩ | ⟨c1, c2⟩ | ⟨c1, c2⟩
        · have e1 : (i : Int) < n := by omega
          have e2 : (i : Int) < 16 := by omega
          go_wp2_with fail
          go_meet
          exact ⟨by rw [show decide (i < cnt24 l) = true from by unfold cnt24; simp; omega], rfl⟩
        · have e1 : (i : Int) < n := by omega
          have e2 : (16 : Int) ≤ i := by omega
          have e3 : ¬ (i : Int) = 0 := by omega
          go_wp2_with fail
          go_meet
          exact ⟨by rw [show decide (i < cnt24 l) = false from by unfold cnt24; simp; omega] <;> first | rfl | (congr 1; simp; omega), rfl⟩
        · subst c2
          have e1 : (n : Int) ≤ 0 := by omega
          go_wp2_with fail
          go_meet
          exact ⟨by rw [show decide (0 < cnt24 l) = true from by unfold cnt24; simp; omega] <;> first | rfl | (congr 1; simp; omega), rfl⟩
        · have e1 : (n : Int) ≤ i := by omega
          have e3 : ¬ (i : Int) = 0 := by omega
          go_wp2_with fail
          go_meet
          exact ⟨by rw [show decide (i < cnt24 l) = false from by unfold cnt24; simp; omega] <;> first | rfl | (congr 1; simp; omega), rfl⟩
    case rest =>
      obtain ⟨rfl, hwc⟩ := hcut
      obtain rfl : wr = wc := hwc.symm
      by_cases ci : i < cnt24 l
      · rw [show decide (i < cnt24 l) = true from by simpa using ci]
        go_upto_if 33 with fail
        have hT : ∀ r, r < 4 + i → (f r).T ≠ 133 := HM.out.types (by decide) (by decide) (by decide) (by decide) (by decide)
        go_cut [33] (fun _ wx => wx = wr.alloc (.cells (c24 (nd24 l i)) 133))
        case first =>
          as_aux_lemma =>
            have hln := HN.out
            rcases Nat.lt_or_ge i n with c1 | c1
            · rw [show decide (i < n) = true from by simpa using c1]
              obtain ⟨bq, off, rfl, hbl, hcl⟩ := HA.out (by omega)
              obtain ⟨hok, k0, k1, k2, k3, k4, k5, k6, k7⟩ := hcl i (by omega)
              have hbw := HM.out.wd.bel
              have k0 := (hbw.cell (p := ⟨bq, _, none⟩) hbl).trans k0; have k1 := (hbw.cell (p := ⟨bq, _, none⟩) hbl).trans k1; have k2 := (hbw.cell (p := ⟨bq, _, none⟩) hbl).trans k2; have k3 := (hbw.cell (p := ⟨bq, _, none⟩) hbl).trans k3; have k4 := (hbw.cell (p := ⟨bq, _, none⟩) hbl).trans k4; have k5 := (hbw.cell (p := ⟨bq, _, none⟩) hbl).trans k5; have k6 := (hbw.cell (p := ⟨bq, _, none⟩) hbl).trans k6; have k7 := (hbw.cell (p := ⟨bq, _, none⟩) hbl).trans k7
              have obq : Old wr bq := Nat.lt_of_lt_of_le hbl hbw.size
              have c2 : (i : Int) < n := by omega
              clear hcl hbw
              obtain ⟨q, hq⟩ : ∃ q, nd24 l i = q := ⟨_, rfl⟩
              have hq' : l.getD i n24Z = q := hq
              rw [hq'] at k0 k1 k2 k3 k4 k5 k6 k7
              clear hq' hok
              obtain ⟨q1, q2, q3, q4, q5, q6, q7, q8⟩ := q
              simp only at k0 k1 k2 k3 k4 k5 k6 k7
              go_wp2_with fail
              go_meet
              rw [hq]
              rfl
            · rw [show decide (i < n) = false from by simpa using c1]
              go_wp2_with fail
              go_meet
              rw [show nd24 l i = n24Z from by unfold nd24; simp [List.getD_eq_getElem?_getD, show l.length ≤ i by omega]]
              rfl
        case rest =>
          subst hcut
          have hW6 := (HM.out.wd.alloc (c24 (nd24 l i)) 133 hT).blks (m' := 3) (B' := blk [⟨p2, z24, 82⟩, ⟨p4, w24C pt bx sc (.slice aL i cL) (.slice al i cl) (.slice aS i cS) (.slice ab i cb), 82⟩, ⟨wr.heap.size, c24 (nd24 l i), 133⟩]) (fun q hq => by rcases q with _ | _ | _ | q; rfl; rfl; rfl; omega) (Nat.le_refl _)
          go_upto_region 8 with fail
          refine name_w (f := Code.wp _ _ _ _) (fun X6 hX6 => ?_)
          rw [← hX6] at hW6
          obtain ⟨p6, hp6⟩ : ∃ k, wr.heap.size = k := ⟨_, rfl⟩
          rw [hp6] at hW6 ⊢
          have hM6 : ∃ O, M24 l w X6 pt bm 3 (blk [⟨p2, z24, 82⟩, ⟨p4, w24C pt bx sc (.slice aL i cL) (.slice al i cl) (.slice aS i cS) (.slice ab i cb), 82⟩, ⟨p6, c24 (nd24 l i), 133⟩]) bx sc i i i i i i i i aL cL al cl aS cS ab cb R f O := ⟨_, hW6, HM.out.pt, HM.out.f0, HM.out.f1, HM.out.f2, HM.out.f3, HM.out.fk⟩
          obtain ⟨O6, hM6⟩ := hM6
          have HM6 := Lib.hid hM6
          clear hM6 hW6 hX6 HM hT hwc hp6
          go_upto_if 39 with fail
          go_cut [7, 8, 9] (fun s _ _ wx => s = .int .i64 (pa24 l i : Nat) ∧ ∃ R f O, M24 l w wx pt bm 3 (blk [⟨p2, z24, 82⟩, ⟨p4, w24C pt bx sc (.slice aL i cL) (.slice al i cl) (.slice aS i cS) (.slice ab i cb), 82⟩, ⟨p6, c24 (nd24 l i), 133⟩]) bx sc i (i + 1) i i i i i i aL cL al cl aS cS ab cb R f O)
          case first =>
            as_aux_lemma =>
              rcases Nat.eq_zero_or_pos i with c0 | c0
              · subst c0
                go_wp2_with fail
                go_meet
                exact ⟨rfl, _, _, _, HM6.out.wd, HM6.out.pt, HM6.out.f0, HM6.out.f1, HM6.out.f2, HM6.out.f3, fun k hk => by omega⟩
              · rw [show decide (0 < i) = true from by simpa using c0]
                have ok := ok24_nd HA.out i
                have H4 : Has X6 p4 #[.pointer (some ⟨pt, 0, none⟩), .map (some bx), .map (some sc), .slice aL i cL, .int .i64 0, .int .i64 0, .slice al i cl, .slice aS i cS, .slice ab i cb] 82 := HM6.out.wd.has 1 (by omega)
                have H6 : Has X6 p6 #[.int .u8 (nd24 l i).p, .int .i32 (nd24 l i).x, .int .i32 (nd24 l i).y, .int .u8 (nd24 l i).bd, .bool (nd24 l i).sc, .int .i32 (nd24 l i).b0, .int .i32 (nd24 l i).b1, .bool (nd24 l i).hid] 133 := HM6.out.wd.has 2 (by omega)
                have e4 := H4.cells; have l4 := H4.lt; have o4 : Old X6 p4 := l4
                have e6 := H6.cells; have l6 := H6.lt; have o6 : Old X6 p6 := l6
                have hi0 : ¬ (i : Int) = 0 := by omega
                have hrem := pa24_rem (l := l) c0 ok.p.1
                have hlt := pa24_lt l c0
                have hLr := HM6.out.wd.fam.row 0 (by omega)
                rw [HM6.out.f0] at hLr
                obtain ⟨_, _, eL, nL, _, rL⟩ := row_reads hLr
                cases eL
                obtain ⟨gL, rfl, _, lgL, cLr⟩ := rL c0
                obtain ⟨kv, ek⟩ := HM6.out.fk (pa24 l i) hlt
                have hKr := HM6.out.wd.fam.row (4 + pa24 l i) (by omega)
                rw [ek] at hKr
                obtain ⟨ak, ck, eK, nK, _, _⟩ := row_reads hKr
                simp only at eK
                subst eK
                have kc := cLr (pa24 l i * 65 + 63) (.slice ak (kidsZ (pa24 l) i (pa24 l i)).length ck) ((rng_get (fun k => nodeL_len _ _) (by omega) hlt).trans (by rw [ek]; rfl))
                have ogL : Old X6 gL := lgL
                obtain ⟨q, hq⟩ : ∃ q, pa24 l i = q := ⟨_, rfl⟩
                rw [hq] at hrem hlt kc hKr ek
                dsimp only at hLr hKr nK nL
                obtain ⟨nk, hnk⟩ : ∃ x, (kidsZ (pa24 l) i q).length = x := ⟨_, rfl⟩
                rw [hnk] at kc
                have HKR := Lib.hid hKr; have HEK := Lib.hid ek; have HLR := Lib.hid hLr; have HNK := Lib.hid hnk; have HQ := Lib.hid hq
                clear hKr ek hLr cLr hnk hq nK
                have hqI : (q : Int) < i := by omega
                have hwp : wrap64 (nd24 l i).p = (nd24 l i).p := by have := ok.p; unfold wrap64; omega
                have hq0 : (0 : Int) ≤ q := by omega
                go_upto_region 11 with fail
                have hS0 : ¬ (p4 = pt ∨ p4 = bm) := fun e => by
                  rcases e with e | e
                  · exact HM6.out.wd.tk.np (e ▸ HM6.out.wd.bo 1 (by omega))
                  · exact HM6.out.wd.tk.nbm (e ▸ HM6.out.wd.bo 1 (by omega))
                have hS1 : ¬ (gL = pt ∨ gL = bm) := fun e => by
                  have hg := HM6.out.wd.fo 0 gL (by omega) (by rw [HM6.out.f0]; rfl)
                  rcases e with e | e
                  · exact HM6.out.wd.tk.np (e ▸ hg)
                  · exact HM6.out.wd.tk.nbm (e ▸ hg)
                refine region_ordS (S := fun wx => ButS (fun b => b = pt ∨ b = bm) X6.heap.size X6 wx) (ButS.refl _ _ _).drew [(0, 0), (1, 0), (2, 0), (3, 0), (4, 0), (5, 0), (6, 0), (7, 0), (8, 0), (9, 0), (10, 0), (11, 1), (12, 0), (13, 0), (14, 0), (15, 0), (16, 0)] (by kernel_rfl) (by kernel_rfl) (fun _ _ d _ _ h => by cases d <;> exact h) (fun hS => ?_)
                iterate 11
                  (refine wpG_read (v := ?_) rfl (.inl ⟨by rfl, fun wx hbx => ?_⟩) ?_; rotate_left; (focus (obtain ⟨cx0, fx0⟩ := buts_bk hbx l4 hS0; obtain ⟨cx1, fx1⟩ := buts_bk hbx lgL hS1; go_simp; (try go_bits); (try with_reducible rfl))); try simp only [Act.put, List.setIfInBounds_toArray, List.set_cons_zero, List.set_cons_succ])
                refine wpG_make rfl (fun K hK => ?_)
                go_simp
                have hmx : max i 1 = i := by omega
                have HT : TreeAt X6 pt bm (fun b => w.heap.size ≤ b ∧ ¬ O6 b) R i := by have := HM6.out.wd.tk.tree; rw [hmx] at this; exact this
                have hPt : Pt (pa24 l) i R := by have := HM6.out.pt; rw [hmx] at this; exact this
                have hi16 : i < 16 := by have := ci; unfold cnt24 at this; omega
                obtain ⟨R', hF, hPt'⟩ := hPt.add c0 (by omega) (by rw [HQ.out]; exact hlt)
                rw [HQ.out, HNK.out] at hF
                have hRl := hPt.len
                refine (tadd_any pt bm (fun b => w.heap.size ≤ b ∧ ¬ O6 b) R i q nk X6.drew (HT.below (Below.refl _ _).drew) (by omega) (by omega) (by omega)).mono ?_
                unfold AddPost
                rw [hF]
                rintro e X7 ⟨rfl, ht7, hb7⟩
                have hb7' : ButS (fun b => b = pt ∨ b = bm) X6.heap.size X6 X7 := (ButS.refl _ _ _).drew.trans hb7
                refine hK _ _ hb7' (fun hS2 => ?_)
                clear hK K hS hS2
                try simp only [Act.put, List.setIfInBounds_toArray, List.set_cons_zero, List.set_cons_succ]
                iterate 5
                  (refine wpG_read (v := ?_) rfl (.inl ⟨by rfl, fun wx hbx => ?_⟩) ?_; rotate_left; (focus (go_simp; (try go_bits); (try with_reducible rfl))); try simp only [Act.put, List.setIfInBounds_toArray, List.set_cons_zero, List.set_cons_succ])
                refine wpG_nil ?_
                have W7 : Wd w X7 pt bm R' ((i + 1 : Nat) : Int) (4 + i) f 3 _ 2 (fun q => if q = 0 then ⟨bx, m24a l i⟩ else ⟨sc, m24b l i⟩) O6 := HM6.out.wd.add (by rw [show ((i + 1 : Nat) : Int) = nextT i 0 from rfl]; exact ht7) hb7'
                have HW7 := Lib.hid W7; have HPT := Lib.hid hPt'
                clear W7 ht7 hb7 hb7' hPt hPt' hF HT hRl
                have h4 : Has X7 p4 #[.pointer (some ⟨pt, 0, none⟩), .map (some bx), .map (some sc), .slice (some ⟨gL, 0, none⟩) i cL, .int .i64 0, .int .i64 0, .slice al i cl, .slice aS i cS, .slice ab i cb] 82 := HW7.out.has 1 (by omega)
                have hKr := HW7.out.fam.row (4 + q) (by omega)
                rw [HEK.out] at hKr
                dsimp only at hKr
                rw [HNK.out] at hKr
                have hLr := HW7.out.fam.row 0 (by omega)
                rw [HM6.out.f0] at hLr
                dsimp only at hLr
                obtain ⟨_, _, eL, _, _, rL⟩ := row_reads hLr
                cases eL
                obtain ⟨gL', egL, _, lgL7, cLr⟩ := rL c0
                cases egL
                have kc7 := cLr (q * 65 + 63) (.slice ak nk ck) ((rng_get (fun k => nodeL_len _ _) (by omega) hlt).trans (by rw [HEK.out, HNK.out]; rfl))
                have e47 := h4.cells; have l47 := h4.lt
                have hT0 : ¬ ((Value.slice ak nk ck).ownBlock = some p4) := own_not hKr h4 (by decide)
                have hT1 : ¬ ((Value.slice ak nk ck).ownBlock = some gL) := fun e => by
                  obtain ⟨c1, k1⟩ := own_has hKr e
                  obtain ⟨c2, k2⟩ := own_has hLr (show _ = some gL from rfl)
                  have := has_ty k1 k2
                  exact absurd this (by decide)
                have HK7 := Lib.hid hKr
                have hsz7 : w.heap.size ≤ X7.heap.size := HW7.out.size
                clear e4 l4 o4 e6 l6 o6 H4 H6 kc cLr rL hKr hLr ogL lgL h4
                obtain ⟨i0, hi, hz0, hz1, hz2⟩ := info_parts (show (Try.prog.info? 3).map (fun i => (i.zero, i.size, i.bytes)) = some (some (.int .i64 0), 1, 8) by kernel_rfl)
                have hkl : nk ≤ 16 := by have := kidsZ_len (pa24 l) q i; have := HNK.out; omega
                go_upto_region 14 with fail
                refine region_ordS (S := fun wx => ButS (fun b => (Value.slice ak nk ck).ownBlock = some b) X7.heap.size X7 wx) (ButS.refl _ _ _).drew [(0, 0), (1, 0), (2, 0), (3, 0), (4, 0), (5, 0), (6, 0), (7, 0), (8, 0), (9, 0), (10, 0), (11, 0), (12, 1), (13, 1), (14, 0), (15, 0), (16, 2)] (by kernel_rfl) (by kernel_rfl) (fun _ _ d _ _ h => by cases d <;> exact h) (fun hS => ?_)
                iterate 12
                  (refine wpG_read (v := ?_) rfl (.inl ⟨by rfl, fun wx hbx => ?_⟩) ?_; rotate_left; (focus (obtain ⟨cx0, fx0⟩ := buts_bk hbx l47 hT0; obtain ⟨cx1, fx1⟩ := buts_bk hbx lgL7 hT1; go_simp; (try go_bits); (try with_reducible rfl))); try simp only [Act.put, List.setIfInBounds_toArray, List.set_cons_zero, List.set_cons_succ])
                refine wpG_make rfl (fun K hK => ?_)
                go_simp
                refine hK _ _ ?_ (fun hS2 => ?_)
                focus (exact (ButS.refl _ _ _).drew.alloc (Nat.le_refl _) _)
                clear hK K hS hS2
                try simp only [Act.put, List.setIfInBounds_toArray, List.set_cons_zero, List.set_cons_succ]
                refine wpG_make rfl (fun K hK => ?_)
                refine wp_append_id (P := Try.prog) _ _ _ _ rfl w.heap.size 3 i0 (.int .i64 0) 1 8 Try.underlying54 hi hz0 hz1 hz2 rfl (by decide) _ _ _ rfl (HK7.out.drew.alloc _) ⟨X7.heap.size, 0, none⟩ 1 1 [.int .i64 i] rfl rfl (newi_at (by simp)) (one_of rfl) (by unfold maxLen; omega) (by omega) (by simp; omega) (by decide) ?_
                intro v8 X8 hown hgrow hid
                obtain ⟨a8, c8, rfl, _, _⟩ := row_reads hown
                replace hgrow : (X7.alloc (.cells #[.int .i64 i] 3)).drew.grownBy X8 (Value.slice ak nk ck).ownBlock := hgrow
                replace hid : (Value.slice a8 (nk + 1) c8).ownBlock = (Value.slice ak nk ck).ownBlock ∧ X8.heap.size = (X7.alloc (.cells #[.int .i64 i] 3)).drew.heap.size ∨ (Value.slice a8 (nk + 1) c8).ownBlock = some (X7.alloc (.cells #[.int .i64 i] 3)).drew.heap.size ∧ (X7.alloc (.cells #[.int .i64 i] 3)).drew.heap.size < X8.heap.size := hid
                have hS8 : ButS (fun b => (Value.slice ak nk ck).ownBlock = some b) X7.heap.size X7 X8 := (((ButS.refl _ _ _).alloc (Nat.le_refl _) _).drew).trans ((buts_grown hgrow).less (by simp))
                have ek : f (4 + q) = ⟨3, 1, .slice ak nk ck, nk, intVals (kidsZ (pa24 l) i q)⟩ := by rw [HEK.out, HNK.out]
                have W8 := (HW7.out.below (w' := (X7.alloc (.cells #[.int .i64 i] 3)).drew) (((Below.refl _ _).alloc (Nat.le_refl _) _).drew)).app (q := 4 + q) (by omega) (by rw [ek]; exact hown) (by rw [ek]; exact hgrow) (by rw [ek]; exact hid)
                rw [ek] at W8
                dsimp only at W8
                have hu0 : upd f (4 + q) ⟨3, 1, .slice a8 (nk + 1) c8, nk + 1, intVals (kidsZ (pa24 l) i q) ++ [.int .i64 i]⟩ 0 = ⟨68, 65, .slice (some ⟨gL, 0, none⟩) i cL, i, rng (fun k => nodeL (f (4 + k)).v (pa24 l k)) i⟩ := by rw [upd_other _ _ (by omega)]; exact HM6.out.f0
                have hlt65 : q * 65 + 63 < i * 65 := by omega
                have W9 := W8.set (q := 0) (g := gL) (c := cL) (j := q * 65 + 63) (by omega) (by rw [hu0]) (by rw [hu0]; exact hlt65) (.slice a8 (nk + 1) c8)
                rw [hu0] at W9
                dsimp only at W9
                have HW9 := Lib.hid W9
                have hL8 := W8.fam.row 0 (by omega)
                obtain ⟨cs8, hs8⟩ := own_has hL8 (g := gL) (by rw [hu0]; rfl)
                have f8 := hs8.frozen
                have k8 := ((buts_bk hS8 lgL7 hT1).1 (q * 65 + 63)).trans kc7
                refine hK _ _ hS8 (fun hS2 => ?_)
                clear hK K hS2 hown hgrow hid hS8 W8 W9 hL8 hs8 hu0
                try simp only [Act.put, List.setIfInBounds_toArray, List.set_cons_zero, List.set_cons_succ]
                iterate 2
                  (refine wpG_read (v := ?_) rfl (.inl ⟨by rfl, fun wx hbx => ?_⟩) ?_; rotate_left; (focus (go_simp; (try go_bits); (try with_reducible rfl))); try simp only [Act.put, List.setIfInBounds_toArray, List.set_cons_zero, List.set_cons_succ])
                refine wpG_late rfl (fun K hK => ?_)
                go_simp
                refine hK _ _ ?_
                clear hK K
                try simp only [Act.put, List.setIfInBounds_toArray, List.set_cons_zero, List.set_cons_succ]
                refine wpG_nil ?_
                go_wp2_with fail
                go_meet
                exact ⟨by rw [HQ.out], R', _, _, m24_kid HM6.out c0 HQ.out hlt HW9.out HNK.out HPT.out⟩
          case rest =>
            obtain ⟨rfl, R1, f1, O1, hM⟩ := hcut
            have ok := ok24_nd HA.out i
            have hi16 : i < 16 := by have := ci; unfold cnt24 at this; omega
            obtain ⟨f2, hf2, hM2⟩ := hM.more (fun q hq => by rcases q with _ | _ | _ | q; exact (show 3 ≠ 82 from by decide); exact (show 3 ≠ 82 from by decide); exact (show 3 ≠ 133 from by decide); omega) (fun k h1 h2 => pa24_lt l h1) (Nat.le_refl _)
            have HM2 := Lib.hid hM2; have HF2 := Lib.hid hf2
            clear hM hM2 hf2
            have H6 : Has wc p6 #[.int .u8 (nd24 l i).p, .int .i32 (nd24 l i).x, .int .i32 (nd24 l i).y, .int .u8 (nd24 l i).bd, .bool (nd24 l i).sc, .int .i32 (nd24 l i).b0, .int .i32 (nd24 l i).b1, .bool (nd24 l i).hid] 133 := HM2.out.wd.has 2 (by omega)
            have e6 := H6.cells; have l6 := H6.lt; have o6 : Old wc p6 := l6
            have hx := wrap_in (show -2147483648 ≤ (nd24 l i).x ∧ (nd24 l i).x ≤ 2147483647 from ok.x); have hy := wrap_in (show -2147483648 ≤ (nd24 l i).y ∧ (nd24 l i).y ≤ 2147483647 from ok.y)
            have hc0 := wrap_in (show -2147483648 ≤ (nd24 l i).b0 ∧ (nd24 l i).b0 ≤ 2147483647 from ok.b0); have hc1 := wrap_in (show -2147483648 ≤ (nd24 l i).b1 ∧ (nd24 l i).b1 ≤ 2147483647 from ok.b1)
            have hb0 : wrap64 (nd24 l i).bd = (nd24 l i).bd := wrap_in (by have := ok.bd; omega)
            have hb1 : wrap64 ((nd24 l i).bd + 1) = (nd24 l i).bd + 1 := wrap_in (by have := ok.bd; omega)
            have hb2 : wrap64 ((nd24 l i).bd + 2) = (nd24 l i).bd + 2 := wrap_in (by have := ok.bd; omega)
            have hb3 : wrap64 ((nd24 l i).bd + 3) = (nd24 l i).bd + 3 := wrap_in (by have := ok.bd; omega)
            go_upto_region 17 with fail
            refine name_w (f := Code.wp _ _ _ _) (fun X0 hX => ?_)
            obtain ⟨p11, hp11⟩ : ∃ k, wc.heap.size = k := ⟨_, rfl⟩
            have hM0 : ∃ O, M24 l w X0 pt bm 4 (blk [⟨p2, z24, 82⟩, ⟨p4, w24C pt bx sc (Value.slice aL i cL) (Value.slice al i cl) (Value.slice aS i cS) (Value.slice ab i cb), 82⟩, ⟨p6, c24 (nd24 l i), 133⟩, ⟨p11, (boxP (nd24 l i).x (nd24 l i).y (nd24 l i).bd).toArray, 108⟩]) bx sc (i + 1) (i + 1) i i i i i i aL cL al cl aS cS ab cb R1 f2 O := by
              obtain ⟨O, q⟩ := HM2.out.alloc (boxP (nd24 l i).x (nd24 l i).y (nd24 l i).bd).toArray 108 (HM2.out.types (by decide) (by decide) (by decide) (by decide) (by decide)) (B' := blk [⟨p2, z24, 82⟩, ⟨p4, w24C pt bx sc (Value.slice aL i cL) (Value.slice al i cl) (Value.slice aS i cS) (Value.slice ab i cb), 82⟩, ⟨p6, c24 (nd24 l i), 133⟩, ⟨p11, (boxP (nd24 l i).x (nd24 l i).y (nd24 l i).bd).toArray, 108⟩]) (fun r hr => by rcases r with _ | _ | _ | _ | r; rfl; rfl; rfl; (rw [← hp11]; rfl); omega)
              exact ⟨O, by rw [hX]; exact q⟩
            rw [hp11]
            obtain ⟨O0', hM0⟩ := hM0
            have HM0 := Lib.hid hM0
            clear hM0 hX hp11 HM2 H6 e6 l6 o6
            have H4 : Has X0 p4 #[.pointer (some ⟨pt, 0, none⟩), .map (some bx), .map (some sc), Value.slice aL i cL, .int .i64 0, .int .i64 0, Value.slice al i cl, Value.slice aS i cS, Value.slice ab i cb] 82 := HM0.out.wd.has 1 (by omega)
            have H6 : Has X0 p6 #[.int .u8 (nd24 l i).p, .int .i32 (nd24 l i).x, .int .i32 (nd24 l i).y, .int .u8 (nd24 l i).bd, .bool (nd24 l i).sc, .int .i32 (nd24 l i).b0, .int .i32 (nd24 l i).b1, .bool (nd24 l i).hid] 133 := HM0.out.wd.has 2 (by omega)
            have e4 := H4.cells; have l4 := H4.lt; have o4 : Old X0 p4 := l4
            have e6 := H6.cells; have l6 := H6.lt; have o6 : Old X0 p6 := l6
            have H11 : Has X0 p11 (boxP (nd24 l i).x (nd24 l i).y (nd24 l i).bd).toArray 108 := HM0.out.wd.has 3 (by omega)
            have e11 := boxP_cells H11; have l11 := H11.lt; have o11 : Old X0 p11 := l11
            obtain ⟨e110, e111, e112⟩ := e11
            have hrow := HM0.out.wd.fam.row 0 (by omega)
            rw [HM0.out.f0] at hrow
            dsimp only at hrow
            have HROW := Lib.hid hrow
            have hsz : w.heap.size ≤ X0.heap.size := HM0.out.wd.size
            obtain ⟨i0, hi, hz0, hz1, hz2⟩ := info_parts infoN22
            clear hrow H4 H6 H11
            go_wp2_with (at_builtin; refine wpList_append_id _ rfl _ _ 27 rfl w.heap.size 68 i0 (.agg (nodeL (.slice none 0 0) 0).toArray) 65 552 Try.underlying27 hi hz0 hz1 hz2 rfl (by decide) _ _ _ rfl (HROW.out.alloc _) ⟨X0.heap.size, 0, none⟩ 1 1 (nodeL (.slice none 0 0) (pa24 l i)) rfl rfl ?p11 ?p12 ?p13 ?p14 ?p15 (by decide) ?_)
            case p11 => exact newi_at (by simp)
            case p12 => exact one_of rfl
            case p13 => unfold maxLen; omega
            case p14 => omega
            case p15 => simp; omega
            intro v' X1 hown hgrow hid
            obtain ⟨a0', ca0', rfl, _, _⟩ := row_reads hown
            replace hgrow : (X0.alloc (.cells (nodeL (.slice none 0 0) (pa24 l i)).toArray 68)).grownBy X1 (Value.slice aL i cL).ownBlock := hgrow
            replace hid : (Value.slice a0' (i + 1) ca0').ownBlock = (Value.slice aL i cL).ownBlock ∧ X1.heap.size = (X0.alloc (.cells (nodeL (.slice none 0 0) (pa24 l i)).toArray 68)).heap.size ∨ (Value.slice a0' (i + 1) ca0').ownBlock = some (X0.alloc (.cells (nodeL (.slice none 0 0) (pa24 l i)).toArray 68)).heap.size ∧ (X0.alloc (.cells (nodeL (.slice none 0 0) (pa24 l i)).toArray 68)).heap.size < X1.heap.size := by rw [World.size_alloc]; exact hid
            obtain ⟨g1, Og1, hg1, hM1⟩ := (HM0.out.below (w' := X0.alloc (.cells (nodeL (.slice none 0 0) (pa24 l i)).toArray 68)) ((Below.refl _ _).alloc (Nat.le_refl _) _)).app0 (a' := a0') (c' := ca0') (by rw [HF2.out]; exact hown) hgrow hid
            have h4 : Has X1 p4 #[.pointer (some ⟨pt, 0, none⟩), .map (some bx), .map (some sc), Value.slice aL i cL, .int .i64 0, .int .i64 0, Value.slice al i cl, Value.slice aS i cS, Value.slice ab i cb] 82 := hM1.wd.has 1 (by omega)
            have z4 := h4.lt
            rw [← ov_self h4]
            clear e4 l4 o4 e6 l6 o6 e110 e111 e112 l11 o11 hown hgrow hid h4 i0 hi hz0 hz1 hz2 HROW
            go_upto_region 18 with fail
            refine name_w (f := Code.wp _ _ _ _) (fun Y1 hX => ?_)
            have hN1 : ∃ O, M24 l w Y1 pt bm 4 (blk [⟨p2, z24, 82⟩, ⟨p4, w24C pt bx sc (Value.slice a0' (i + 1) ca0') (Value.slice al i cl) (Value.slice aS i cS) (Value.slice ab i cb), 82⟩, ⟨p6, c24 (nd24 l i), 133⟩, ⟨p11, (boxP (nd24 l i).x (nd24 l i).y (nd24 l i).bd).toArray, 108⟩]) bx sc (i + 1) (i + 1) (i + 1) i i i i i a0' ca0' al cl aS cS ab cb R1 g1 O := by
              obtain ⟨O, q⟩ := hM1.st (q := 1) (by omega) (w24C pt bx sc (Value.slice a0' (i + 1) ca0') (Value.slice al i cl) (Value.slice aS i cS) (Value.slice ab i cb)) (B' := blk [⟨p2, z24, 82⟩, ⟨p4, w24C pt bx sc (Value.slice a0' (i + 1) ca0') (Value.slice al i cl) (Value.slice aS i cS) (Value.slice ab i cb), 82⟩, ⟨p6, c24 (nd24 l i), 133⟩, ⟨p11, (boxP (nd24 l i).x (nd24 l i).y (nd24 l i).bd).toArray, 108⟩]) (fun r hr => by rcases r with _ | _ | _ | _ | r; rfl; rfl; rfl; rfl; omega)
              exact ⟨O, by rw [hX]; exact q⟩
            obtain ⟨On1, hN1⟩ := hN1
            have HN1 := Lib.hid hN1
            clear hN1 hM1 hX HM0 HF2 z4 hg1 hsz
            have H4 : Has Y1 p4 #[.pointer (some ⟨pt, 0, none⟩), .map (some bx), .map (some sc), Value.slice a0' (i + 1) ca0', .int .i64 0, .int .i64 0, Value.slice al i cl, Value.slice aS i cS, Value.slice ab i cb] 82 := HN1.out.wd.has 1 (by omega)
            have H6 : Has Y1 p6 #[.int .u8 (nd24 l i).p, .int .i32 (nd24 l i).x, .int .i32 (nd24 l i).y, .int .u8 (nd24 l i).bd, .bool (nd24 l i).sc, .int .i32 (nd24 l i).b0, .int .i32 (nd24 l i).b1, .bool (nd24 l i).hid] 133 := HN1.out.wd.has 2 (by omega)
            have e4 := H4.cells; have l4 := H4.lt; have o4 : Old Y1 p4 := l4
            have e6 := H6.cells; have l6 := H6.lt; have o6 : Old Y1 p6 := l6
            have H11 : Has Y1 p11 (boxP (nd24 l i).x (nd24 l i).y (nd24 l i).bd).toArray 108 := HN1.out.wd.has 3 (by omega)
            have e11 := boxP_cells H11; have l11 := H11.lt; have o11 : Old Y1 p11 := l11
            obtain ⟨e110, e111, e112⟩ := e11
            have hrow := HN1.out.wd.fam.row 1 (by omega)
            rw [HN1.out.f1] at hrow
            dsimp only at hrow
            have HROW := Lib.hid hrow
            have hsz : w.heap.size ≤ Y1.heap.size := HN1.out.wd.size
            obtain ⟨i0, hi, hz0, hz1, hz2⟩ := info_parts infoB22
            clear hrow H4 H6 H11
            go_wp2_with (at_builtin; refine wpList_append_id _ rfl _ _ 30 rfl w.heap.size 44 i0 (.agg (box22z).toArray) 18 160 Try.underlying30 hi hz0 hz1 hz2 rfl (by decide) _ _ _ rfl (HROW.out.alloc _) ⟨Y1.heap.size, 0, none⟩ 1 1 (box22 (!(nd24 l i).hid) (nd24 l i).x (nd24 l i).y (nd24 l i).bd) rfl rfl ?p21 ?p22 ?p23 ?p24 ?p25 (by decide) ?_)
            case p21 => exact newi_at (by simp)
            case p22 => exact one_of rfl
            case p23 => unfold maxLen; omega
            case p24 => omega
            case p25 => simp; omega
            intro v' X2 hown hgrow hid
            obtain ⟨a1', ca1', rfl, _, _⟩ := row_reads hown
            replace hgrow : (Y1.alloc (.cells (box22 (!(nd24 l i).hid) (nd24 l i).x (nd24 l i).y (nd24 l i).bd).toArray 44)).grownBy X2 (Value.slice al i cl).ownBlock := hgrow
            replace hid : (Value.slice a1' (i + 1) ca1').ownBlock = (Value.slice al i cl).ownBlock ∧ X2.heap.size = (Y1.alloc (.cells (box22 (!(nd24 l i).hid) (nd24 l i).x (nd24 l i).y (nd24 l i).bd).toArray 44)).heap.size ∨ (Value.slice a1' (i + 1) ca1').ownBlock = some (Y1.alloc (.cells (box22 (!(nd24 l i).hid) (nd24 l i).x (nd24 l i).y (nd24 l i).bd).toArray 44)).heap.size ∧ (Y1.alloc (.cells (box22 (!(nd24 l i).hid) (nd24 l i).x (nd24 l i).y (nd24 l i).bd).toArray 44)).heap.size < X2.heap.size := by rw [World.size_alloc]; exact hid
            obtain ⟨g2, Og2, hg2, hM2⟩ := (HN1.out.below (w' := Y1.alloc (.cells (box22 (!(nd24 l i).hid) (nd24 l i).x (nd24 l i).y (nd24 l i).bd).toArray 44)) ((Below.refl _ _).alloc (Nat.le_refl _) _)).app1 (a' := a1') (c' := ca1') (by exact hown) hgrow hid
            have h4 : Has X2 p4 #[.pointer (some ⟨pt, 0, none⟩), .map (some bx), .map (some sc), Value.slice a0' (i + 1) ca0', .int .i64 0, .int .i64 0, Value.slice al i cl, Value.slice aS i cS, Value.slice ab i cb] 82 := hM2.wd.has 1 (by omega)
            have z4 := h4.lt
            rw [← ov_self h4]
            clear e4 l4 o4 e6 l6 o6 e110 e111 e112 l11 o11 hown hgrow hid h4 i0 hi hz0 hz1 hz2 HROW
            go_upto_region 19 with fail
            refine name_w (f := Code.wp _ _ _ _) (fun Y2 hX => ?_)
            have hN2 : ∃ O, M24 l w Y2 pt bm 4 (blk [⟨p2, z24, 82⟩, ⟨p4, w24C pt bx sc (Value.slice a0' (i + 1) ca0') (Value.slice a1' (i + 1) ca1') (Value.slice aS i cS) (Value.slice ab i cb), 82⟩, ⟨p6, c24 (nd24 l i), 133⟩, ⟨p11, (boxP (nd24 l i).x (nd24 l i).y (nd24 l i).bd).toArray, 108⟩]) bx sc (i + 1) (i + 1) (i + 1) (i + 1) i i i i a0' ca0' a1' ca1' aS cS ab cb R1 g2 O := by
              obtain ⟨O, q⟩ := hM2.st (q := 1) (by omega) (w24C pt bx sc (Value.slice a0' (i + 1) ca0') (Value.slice a1' (i + 1) ca1') (Value.slice aS i cS) (Value.slice ab i cb)) (B' := blk [⟨p2, z24, 82⟩, ⟨p4, w24C pt bx sc (Value.slice a0' (i + 1) ca0') (Value.slice a1' (i + 1) ca1') (Value.slice aS i cS) (Value.slice ab i cb), 82⟩, ⟨p6, c24 (nd24 l i), 133⟩, ⟨p11, (boxP (nd24 l i).x (nd24 l i).y (nd24 l i).bd).toArray, 108⟩]) (fun r hr => by rcases r with _ | _ | _ | _ | r; rfl; rfl; rfl; rfl; omega)
              exact ⟨O, by rw [hX]; exact q⟩
            obtain ⟨On2, hN2⟩ := hN2
            have HN2 := Lib.hid hN2
            clear hN2 hM2 hX HN1 z4 hg2 hsz
            have H4 : Has Y2 p4 #[.pointer (some ⟨pt, 0, none⟩), .map (some bx), .map (some sc), Value.slice a0' (i + 1) ca0', .int .i64 0, .int .i64 0, Value.slice a1' (i + 1) ca1', Value.slice aS i cS, Value.slice ab i cb] 82 := HN2.out.wd.has 1 (by omega)
            have H6 : Has Y2 p6 #[.int .u8 (nd24 l i).p, .int .i32 (nd24 l i).x, .int .i32 (nd24 l i).y, .int .u8 (nd24 l i).bd, .bool (nd24 l i).sc, .int .i32 (nd24 l i).b0, .int .i32 (nd24 l i).b1, .bool (nd24 l i).hid] 133 := HN2.out.wd.has 2 (by omega)
            have e4 := H4.cells; have l4 := H4.lt; have o4 : Old Y2 p4 := l4
            have e6 := H6.cells; have l6 := H6.lt; have o6 : Old Y2 p6 := l6
            have H11 : Has Y2 p11 (boxP (nd24 l i).x (nd24 l i).y (nd24 l i).bd).toArray 108 := HN2.out.wd.has 3 (by omega)
            have e11 := boxP_cells H11; have l11 := H11.lt; have o11 : Old Y2 p11 := l11
            obtain ⟨e110, e111, e112⟩ := e11
            have hrow := HN2.out.wd.fam.row 3 (by omega)
            rw [HN2.out.f3] at hrow
            dsimp only at hrow
            have HROW := Lib.hid hrow
            have hsz : w.heap.size ≤ Y2.heap.size := HN2.out.wd.size
            obtain ⟨i0, hi, hz0, hz1, hz2⟩ := info_parts infoI2
            clear hrow H4 H6 H11
            go_wp2_with (at_builtin; refine wpList_append_id _ rfl _ _ 48 rfl w.heap.size 39 i0 (.agg #[.int .i64 0, .int .i64 0]) 2 16 Try.underlying48 hi hz0 hz1 hz2 rfl (by decide) _ _ _ rfl (HROW.out.alloc _) ⟨Y2.heap.size, 0, none⟩ 1 1 [.int .i64 (nd24 l i).b0, .int .i64 (nd24 l i).b1] rfl rfl ?p31 ?p32 ?p33 ?p34 ?p35 (by decide) ?_)
            case p31 => exact newi_at (by simp)
            case p32 => exact one_of rfl
            case p33 => unfold maxLen; omega
            case p34 => omega
            case p35 => simp; omega
            intro v' X3 hown hgrow hid
            obtain ⟨a3', ca3', rfl, _, _⟩ := row_reads hown
            replace hgrow : (Y2.alloc (.cells [.int .i64 (nd24 l i).b0, .int .i64 (nd24 l i).b1].toArray 39)).grownBy X3 (Value.slice ab i cb).ownBlock := hgrow
            replace hid : (Value.slice a3' (i + 1) ca3').ownBlock = (Value.slice ab i cb).ownBlock ∧ X3.heap.size = (Y2.alloc (.cells [.int .i64 (nd24 l i).b0, .int .i64 (nd24 l i).b1].toArray 39)).heap.size ∨ (Value.slice a3' (i + 1) ca3').ownBlock = some (Y2.alloc (.cells [.int .i64 (nd24 l i).b0, .int .i64 (nd24 l i).b1].toArray 39)).heap.size ∧ (Y2.alloc (.cells [.int .i64 (nd24 l i).b0, .int .i64 (nd24 l i).b1].toArray 39)).heap.size < X3.heap.size := by rw [World.size_alloc]; exact hid
            obtain ⟨g3, Og3, hg3, hM3⟩ := (HN2.out.below (w' := Y2.alloc (.cells [.int .i64 (nd24 l i).b0, .int .i64 (nd24 l i).b1].toArray 39)) ((Below.refl _ _).alloc (Nat.le_refl _) _)).app3 (a' := a3') (c' := ca3') (by exact hown) hgrow hid
            have h4 : Has X3 p4 #[.pointer (some ⟨pt, 0, none⟩), .map (some bx), .map (some sc), Value.slice a0' (i + 1) ca0', .int .i64 0, .int .i64 0, Value.slice a1' (i + 1) ca1', Value.slice aS i cS, Value.slice ab i cb] 82 := hM3.wd.has 1 (by omega)
            have z4 := h4.lt
            rw [← ov_self h4]
            clear e4 l4 o4 e6 l6 o6 e110 e111 e112 l11 o11 hown hgrow hid h4 i0 hi hz0 hz1 hz2 HROW
            go_upto_region 20 with fail
            refine name_w (f := Code.wp _ _ _ _) (fun Y3 hX => ?_)
            have hN3 : ∃ O, M24 l w Y3 pt bm 4 (blk [⟨p2, z24, 82⟩, ⟨p4, w24C pt bx sc (Value.slice a0' (i + 1) ca0') (Value.slice a1' (i + 1) ca1') (Value.slice aS i cS) (Value.slice a3' (i + 1) ca3'), 82⟩, ⟨p6, c24 (nd24 l i), 133⟩, ⟨p11, (boxP (nd24 l i).x (nd24 l i).y (nd24 l i).bd).toArray, 108⟩]) bx sc (i + 1) (i + 1) (i + 1) (i + 1) i (i + 1) i i a0' ca0' a1' ca1' aS cS a3' ca3' R1 g3 O := by
              obtain ⟨O, q⟩ := hM3.st (q := 1) (by omega) (w24C pt bx sc (Value.slice a0' (i + 1) ca0') (Value.slice a1' (i + 1) ca1') (Value.slice aS i cS) (Value.slice a3' (i + 1) ca3')) (B' := blk [⟨p2, z24, 82⟩, ⟨p4, w24C pt bx sc (Value.slice a0' (i + 1) ca0') (Value.slice a1' (i + 1) ca1') (Value.slice aS i cS) (Value.slice a3' (i + 1) ca3'), 82⟩, ⟨p6, c24 (nd24 l i), 133⟩, ⟨p11, (boxP (nd24 l i).x (nd24 l i).y (nd24 l i).bd).toArray, 108⟩]) (fun r hr => by rcases r with _ | _ | _ | _ | r; rfl; rfl; rfl; rfl; omega)
              exact ⟨O, by rw [hX]; exact q⟩
            obtain ⟨On3, hN3⟩ := hN3
            have HN3 := Lib.hid hN3
            clear hN3 hM3 hX HN2 z4 hg3 hsz
            have H4 : Has Y3 p4 #[.pointer (some ⟨pt, 0, none⟩), .map (some bx), .map (some sc), Value.slice a0' (i + 1) ca0', .int .i64 0, .int .i64 0, Value.slice a1' (i + 1) ca1', Value.slice aS i cS, Value.slice a3' (i + 1) ca3'] 82 := HN3.out.wd.has 1 (by omega)
            have H6 : Has Y3 p6 #[.int .u8 (nd24 l i).p, .int .i32 (nd24 l i).x, .int .i32 (nd24 l i).y, .int .u8 (nd24 l i).bd, .bool (nd24 l i).sc, .int .i32 (nd24 l i).b0, .int .i32 (nd24 l i).b1, .bool (nd24 l i).hid] 133 := HN3.out.wd.has 2 (by omega)
            have e4 := H4.cells; have l4 := H4.lt; have o4 : Old Y3 p4 := l4
            have e6 := H6.cells; have l6 := H6.lt; have o6 : Old Y3 p6 := l6
            have H11 : Has Y3 p11 (boxP (nd24 l i).x (nd24 l i).y (nd24 l i).bd).toArray 108 := HN3.out.wd.has 3 (by omega)
            have e11 := boxP_cells H11; have l11 := H11.lt; have o11 : Old Y3 p11 := l11
            obtain ⟨e110, e111, e112⟩ := e11
            have hrow := HN3.out.wd.fam.row 2 (by omega)
            rw [HN3.out.f2] at hrow
            dsimp only at hrow
            have HROW := Lib.hid hrow
            have hsz : w.heap.size ≤ Y3.heap.size := HN3.out.wd.size
            obtain ⟨i0, hi, hz0, hz1, hz2⟩ := info_parts infoBo
            clear hrow H4 H6 H11
            go_wp2_with (at_builtin; refine wpList_append_id _ rfl _ _ 80 rfl w.heap.size 4 i0 (.bool false) 1 1 Try.underlying80 hi hz0 hz1 hz2 rfl (by decide) _ _ _ rfl (HROW.out.alloc _) ⟨Y3.heap.size, 0, none⟩ 1 1 [.bool (nd24 l i).sc] rfl rfl ?p41 ?p42 ?p43 ?p44 ?p45 (by decide) ?_)
            case p41 => exact newi_at (by simp)
            case p42 => exact one_of rfl
            case p43 => unfold maxLen; omega
            case p44 => omega
            case p45 => simp; omega
            intro v' X4 hown hgrow hid
            obtain ⟨a2', ca2', rfl, _, _⟩ := row_reads hown
            replace hgrow : (Y3.alloc (.cells [.bool (nd24 l i).sc].toArray 4)).grownBy X4 (Value.slice aS i cS).ownBlock := hgrow
            replace hid : (Value.slice a2' (i + 1) ca2').ownBlock = (Value.slice aS i cS).ownBlock ∧ X4.heap.size = (Y3.alloc (.cells [.bool (nd24 l i).sc].toArray 4)).heap.size ∨ (Value.slice a2' (i + 1) ca2').ownBlock = some (Y3.alloc (.cells [.bool (nd24 l i).sc].toArray 4)).heap.size ∧ (Y3.alloc (.cells [.bool (nd24 l i).sc].toArray 4)).heap.size < X4.heap.size := by rw [World.size_alloc]; exact hid
            obtain ⟨g4, Og4, hg4, hM4⟩ := (HN3.out.below (w' := Y3.alloc (.cells [.bool (nd24 l i).sc].toArray 4)) ((Below.refl _ _).alloc (Nat.le_refl _) _)).app2 (a' := a2') (c' := ca2') (by exact hown) hgrow hid
            have h4 : Has X4 p4 #[.pointer (some ⟨pt, 0, none⟩), .map (some bx), .map (some sc), Value.slice a0' (i + 1) ca0', .int .i64 0, .int .i64 0, Value.slice a1' (i + 1) ca1', Value.slice aS i cS, Value.slice a3' (i + 1) ca3'] 82 := hM4.wd.has 1 (by omega)
            have z4 := h4.lt
            rw [← ov_self h4]
            clear e4 l4 o4 e6 l6 o6 e110 e111 e112 l11 o11 hown hgrow hid h4 i0 hi hz0 hz1 hz2 HROW
            go_upto_region 21 with fail
            refine name_w (f := Code.wp _ _ _ _) (fun Y4 hX => ?_)
            have hN4 : ∃ O, M24 l w Y4 pt bm 4 (blk [⟨p2, z24, 82⟩, ⟨p4, w24C pt bx sc (Value.slice a0' (i + 1) ca0') (Value.slice a1' (i + 1) ca1') (Value.slice a2' (i + 1) ca2') (Value.slice a3' (i + 1) ca3'), 82⟩, ⟨p6, c24 (nd24 l i), 133⟩, ⟨p11, (boxP (nd24 l i).x (nd24 l i).y (nd24 l i).bd).toArray, 108⟩]) bx sc (i + 1) (i + 1) (i + 1) (i + 1) (i + 1) (i + 1) i i a0' ca0' a1' ca1' a2' ca2' a3' ca3' R1 g4 O := by
              obtain ⟨O, q⟩ := hM4.st (q := 1) (by omega) (w24C pt bx sc (Value.slice a0' (i + 1) ca0') (Value.slice a1' (i + 1) ca1') (Value.slice a2' (i + 1) ca2') (Value.slice a3' (i + 1) ca3')) (B' := blk [⟨p2, z24, 82⟩, ⟨p4, w24C pt bx sc (Value.slice a0' (i + 1) ca0') (Value.slice a1' (i + 1) ca1') (Value.slice a2' (i + 1) ca2') (Value.slice a3' (i + 1) ca3'), 82⟩, ⟨p6, c24 (nd24 l i), 133⟩, ⟨p11, (boxP (nd24 l i).x (nd24 l i).y (nd24 l i).bd).toArray, 108⟩]) (fun r hr => by rcases r with _ | _ | _ | _ | r; rfl; rfl; rfl; rfl; omega)
              exact ⟨O, by rw [hX]; exact q⟩
            obtain ⟨On4, hN4⟩ := hN4
            have HN4 := Lib.hid hN4
            clear hN4 hM4 hX HN3 z4 hg4 hsz
            have H4 : Has Y4 p4 #[.pointer (some ⟨pt, 0, none⟩), .map (some bx), .map (some sc), Value.slice a0' (i + 1) ca0', .int .i64 0, .int .i64 0, Value.slice a1' (i + 1) ca1', Value.slice a2' (i + 1) ca2', Value.slice a3' (i + 1) ca3'] 82 := HN4.out.wd.has 1 (by omega)
            have H6 : Has Y4 p6 #[.int .u8 (nd24 l i).p, .int .i32 (nd24 l i).x, .int .i32 (nd24 l i).y, .int .u8 (nd24 l i).bd, .bool (nd24 l i).sc, .int .i32 (nd24 l i).b0, .int .i32 (nd24 l i).b1, .bool (nd24 l i).hid] 133 := HN4.out.wd.has 2 (by omega)
            have H11 : Has Y4 p11 #[.int .i64 (nd24 l i).x, .int .i64 (nd24 l i).y, .int .i64 0, .int .i64 0, .int .i64 (nd24 l i).bd, .int .i64 ((nd24 l i).bd + 1), .int .i64 ((nd24 l i).bd + 2), .int .i64 ((nd24 l i).bd + 3), .int .i64 0, .int .i64 0, .int .i64 0, .int .i64 0, .int .i64 0, .int .i64 0, .int .i64 0, .int .i64 0, .slice none 0 0] 108 := HN4.out.wd.has 3 (by omega)
            have e4 := H4.cells; have l4 := H4.lt; have o4 : Old Y4 p4 := l4
            have e6 := H6.cells; have l6 := H6.lt; have o6 : Old Y4 p6 := l6
            have e11 := H11.cells; have l11 := H11.lt; have o11 : Old Y4 p11 := l11
            have kbx : MapOk Y4 bx := HN4.out.wd.mok 0 (by omega)
            go_upto_if 149 with fail
            go_cut [] (fun wx => ∃ O, M24 l w wx pt bm 4 (blk [⟨p2, z24, 82⟩, ⟨p4, w24C pt bx sc (Value.slice a0' (i + 1) ca0') (Value.slice a1' (i + 1) ca1') (Value.slice a2' (i + 1) ca2') (Value.slice a3' (i + 1) ca3'), 82⟩, ⟨p6, c24 (nd24 l i), 133⟩, ⟨p11, (boxP (nd24 l i).x (nd24 l i).y (nd24 l i).bd).toArray, 108⟩]) bx sc (i + 1) (i + 1) (i + 1) (i + 1) (i + 1) (i + 1) (i + 1) i a0' ca0' a1' ca1' a2' ca2' a3' ca3' R1 g4 O)
            case first =>
              as_aux_lemma =>
                rcases hh : (nd24 l i).hid with _ | _
                · simp only [Bool.not_false, hh]
                  go_wp2_with fail
                  go_meet
                  exact HN4.out.put0 hh
                · simp only [Bool.not_true, hh]
                  go_wp2_with fail
                  go_meet
                  exact ⟨_, HN4.out.pass0 hh⟩
            case rest =>
              as_aux_lemma =>
                obtain ⟨O5, hM5⟩ := hcut
                have HM5 := Lib.hid hM5
                clear hM5 H4 H6 H11 e4 l4 o4 e6 l6 o6 e11 l11 o11 kbx HN4
                have H4 : Has wc p4 #[.pointer (some ⟨pt, 0, none⟩), .map (some bx), .map (some sc), Value.slice a0' (i + 1) ca0', .int .i64 0, .int .i64 0, Value.slice a1' (i + 1) ca1', Value.slice a2' (i + 1) ca2', Value.slice a3' (i + 1) ca3'] 82 := HM5.out.wd.has 1 (by omega)
                have H6 : Has wc p6 #[.int .u8 (nd24 l i).p, .int .i32 (nd24 l i).x, .int .i32 (nd24 l i).y, .int .u8 (nd24 l i).bd, .bool (nd24 l i).sc, .int .i32 (nd24 l i).b0, .int .i32 (nd24 l i).b1, .bool (nd24 l i).hid] 133 := HM5.out.wd.has 2 (by omega)
                have e4 := H4.cells; have l4 := H4.lt; have o4 : Old wc p4 := l4
                have e6 := H6.cells; have l6 := H6.lt; have o6 : Old wc p6 := l6
                have ksc : MapOk wc sc := HM5.out.wd.mok 1 (by omega)
                have hrow := HM5.out.wd.fam.row 3 (by omega)
                rw [HM5.out.f3] at hrow
                dsimp only at hrow
                obtain ⟨_, _, e3, _, _, r3⟩ := row_reads hrow
                cases e3
                obtain ⟨g3b, rfl, _, l3, c3⟩ := r3 (by omega)
                have k30 := c3 (i * 2 + 0) (.int .i64 (nd24 l i).b0) ((rng_get (s := 2) (fun k => rfl) (by omega) (by omega)).trans rfl)
                have k31 := c3 (i * 2 + 1) (.int .i64 (nd24 l i).b1) ((rng_get (s := 2) (fun k => rfl) (by omega) (by omega)).trans rfl)
                rw [Nat.add_zero] at k30
                have o3 : Old wc g3b := l3
                have hi1 : (i : Int) < (i : Int) + 1 := by omega
                have hi2 : (i : Int).toNat = i := by omega
                have hi0 : (0 : Int) ≤ (i : Int) := by omega
                clear hrow r3 c3 H4 H6
                rcases hh : (nd24 l i).sc with _ | _
                · rw [hh] at e6
                  have HM6 := Lib.hid (HM5.out.pass1 hh)
                  clear HM5
                  go_wp2_with fail
                  refine ⟨⟨i + 1, a0', ca0', a1', ca1', a2', ca2', some ⟨g3b, 0, none⟩, ca3', R1, g4, _, by push_cast; rfl, ci, HM6.out.blks (m' := 2) (B' := b24 p2 p4 pt bx sc (i + 1) a0' ca0' a1' ca1' a2' ca2' (some ⟨g3b, 0, none⟩) ca3') (fun q hq => by rcases q with _ | _ | q; rfl; rfl; omega) (by omega)⟩, by simp only [intOf]; omega⟩
                · rw [hh] at e6
                  obtain ⟨O7, hM6⟩ := (HM5.out.below ((Below.refl _ wc).drew)).put1 hh
                  have HM6 := Lib.hid hM6
                  clear hM6 HM5
                  have ksd : MapOk wc.drew sc := ksc
                  go_upto_region 24 with fail
                  refine region_ord [(0, 0), (1, 0), (2, 0), (3, 0), (4, 0), (5, 0), (6, 0), (7, 0), (8, 2)] (by kernel_rfl) (by kernel_rfl) (fun _ _ d _ _ h => by cases d <;> exact h) (fun hS => ?_)
                  (refine wpG_read (v := ?_) rfl (.inl ⟨by rfl, fun wx hbx => ?_⟩) ?_; rotate_left; (focus (obtain ⟨cx0, fx0, zx0⟩ := bk hbx (p4) (by first | omega | (simp; done) | (simp; omega)); obtain ⟨cx1, fx1, zx1⟩ := bk hbx (g3b) (by first | omega | (simp; done) | (simp; omega)); go_simp; (try go_bits); (try with_reducible rfl))); try simp only [Act.put, List.setIfInBounds_toArray, List.set_cons_zero, List.set_cons_succ])
                  (refine wpG_read (v := ?_) rfl (.inl ⟨by rfl, fun wx hbx => ?_⟩) ?_; rotate_left; (focus (obtain ⟨cx0, fx0, zx0⟩ := bk hbx (p4) (by first | omega | (simp; done) | (simp; omega)); obtain ⟨cx1, fx1, zx1⟩ := bk hbx (g3b) (by first | omega | (simp; done) | (simp; omega)); go_simp; (try go_bits); (try with_reducible rfl))); try simp only [Act.put, List.setIfInBounds_toArray, List.set_cons_zero, List.set_cons_succ])
                  (refine wpG_read (v := ?_) rfl (.inl ⟨by rfl, fun wx hbx => ?_⟩) ?_; rotate_left; (focus (obtain ⟨cx0, fx0, zx0⟩ := bk hbx (p4) (by first | omega | (simp; done) | (simp; omega)); obtain ⟨cx1, fx1, zx1⟩ := bk hbx (g3b) (by first | omega | (simp; done) | (simp; omega)); go_simp; (try go_bits); (try with_reducible rfl))); try simp only [Act.put, List.setIfInBounds_toArray, List.set_cons_zero, List.set_cons_succ])
                  (refine wpG_read (v := ?_) rfl (.inl ⟨by rfl, fun wx hbx => ?_⟩) ?_; rotate_left; (focus (obtain ⟨cx0, fx0, zx0⟩ := bk hbx (p4) (by first | omega | (simp; done) | (simp; omega)); obtain ⟨cx1, fx1, zx1⟩ := bk hbx (g3b) (by first | omega | (simp; done) | (simp; omega)); go_simp; (try go_bits); (try with_reducible rfl))); try simp only [Act.put, List.setIfInBounds_toArray, List.set_cons_zero, List.set_cons_succ])
                  (refine wpG_read (v := ?_) rfl (.inl ⟨by rfl, fun wx hbx => ?_⟩) ?_; rotate_left; (focus (obtain ⟨cx0, fx0, zx0⟩ := bk hbx (p4) (by first | omega | (simp; done) | (simp; omega)); obtain ⟨cx1, fx1, zx1⟩ := bk hbx (g3b) (by first | omega | (simp; done) | (simp; omega)); go_simp; (try go_bits); (try with_reducible rfl))); try simp only [Act.put, List.setIfInBounds_toArray, List.set_cons_zero, List.set_cons_succ])
                  (refine wpG_read (v := ?_) rfl (.inl ⟨by rfl, fun wx hbx => ?_⟩) ?_; rotate_left; (focus (obtain ⟨cx0, fx0, zx0⟩ := bk hbx (p4) (by first | omega | (simp; done) | (simp; omega)); obtain ⟨cx1, fx1, zx1⟩ := bk hbx (g3b) (by first | omega | (simp; done) | (simp; omega)); go_simp; (try go_bits); (try with_reducible rfl))); try simp only [Act.put, List.setIfInBounds_toArray, List.set_cons_zero, List.set_cons_succ])
                  (refine wpG_read (v := ?_) rfl (.inl ⟨by rfl, fun wx hbx => ?_⟩) ?_; rotate_left; (focus (obtain ⟨cx0, fx0, zx0⟩ := bk hbx (p4) (by first | omega | (simp; done) | (simp; omega)); obtain ⟨cx1, fx1, zx1⟩ := bk hbx (g3b) (by first | omega | (simp; done) | (simp; omega)); go_simp; (try go_bits); (try with_reducible rfl))); try simp only [Act.put, List.setIfInBounds_toArray, List.set_cons_zero, List.set_cons_succ])
                  (refine wpG_read (v := ?_) rfl (.inl ⟨by rfl, fun wx hbx => ?_⟩) ?_; rotate_left; (focus (obtain ⟨cx0, fx0, zx0⟩ := bk hbx (p4) (by first | omega | (simp; done) | (simp; omega)); obtain ⟨cx1, fx1, zx1⟩ := bk hbx (g3b) (by first | omega | (simp; done) | (simp; omega)); go_simp; (try go_bits); (try with_reducible rfl))); try simp only [Act.put, List.setIfInBounds_toArray, List.set_cons_zero, List.set_cons_succ])
                  (refine wpG_late rfl (fun K hK => ?_); go_simp; (try simp only []); (try simp only []); refine hK _ _ ?_; clear hK K; try simp only [Act.put, List.setIfInBounds_toArray, List.set_cons_zero, List.set_cons_succ])
                  refine wpG_nil ?_
                  go_wp2_with fail
                  refine ⟨⟨i + 1, a0', ca0', a1', ca1', a2', ca2', some ⟨g3b, 0, none⟩, ca3', R1, g4, _, by push_cast; rfl, ci, HM6.out.blks (m' := 2) (B' := b24 p2 p4 pt bx sc (i + 1) a0' ca0' a1' ca1' a2' ca2' (some ⟨g3b, 0, none⟩) ca3') (fun q hq => by rcases q with _ | _ | q; rfl; rfl; omega) (by omega)⟩, by simp only [intOf]; omega⟩
      · rw [show decide (i < cnt24 l) = false from by simpa using ci]
        have H4 : Has wr p4 #[.pointer (some ⟨pt, 0, none⟩), .map (some bx), .map (some sc), .slice aL i cL, .int .i64 0, .int .i64 0, .slice al i cl, .slice aS i cS, .slice ab i cb] 82 := HM.out.wd.has 1 (by omega)
        have H2 : Has wr p2 #[.pointer none, .map none, .map none, .slice none 0 0, .int .i64 0, .int .i64 0, .slice none 0 0, .slice none 0 0, .slice none 0 0] 82 := HM.out.wd.has 0 (by omega)
        have hne : p4 ≠ p2 := HM.out.wd.bne 1 0 (by omega) (by omega) (by omega)
        have e4 := H4.cells; have l4 := H4.lt; have o4 : Old wr p4 := l4; have z0 := H2.lt; have f4 := H4.frozen
        rw [← ov_self H2]
        clear H4
        go_wp2_with fail
        refine bodyPost_ret (by simp [results, Try.results25, go_sem, z0]; try rfl) rfl ?_
        obtain rfl : i = cnt24 l := by omega
        have W := (HM.out.wd.st (q := 0) (by omega) (w24C pt bx sc (.slice aL (cnt24 l) cL) (.slice al (cnt24 l) cl) (.slice aS (cnt24 l) cS) (.slice ab (cnt24 l) cb))).blks (m' := 0) (B' := blk []) (fun q hq => by omega) (by omega)
        exact ⟨pt, bm, bx, sc, aL, cL, al, cl, aS, cS, ab, cb, R, f, _, rfl, W, HM.out.pt, HM.out.f0, HM.out.f1, HM.out.f2, HM.out.f3, HM.out.fk⟩
end Go.Proofs.Ytjcbphhemmdnjaa
