/- law26 (stack): the world made, walked. -/
import Derived.Test.YtjcbphhemmdnjaaStkA
import Derived.Test.YtjcbphhemmdnjaaPh2
namespace Go.Proofs.Ytjcbphhemmdnjaa
open Go Go.RowKit
set_option linter.unusedSimpArgs false
set_option linter.unusedVariables false
-- below_from_drew
attribute [local go_sem] ov_cell_same ov_cell_other ov_frozen_same ov_frozen_other ov_size ov_setCell_same ov_setCell_other cell_alloc_old frozen_alloc_old setCell_alloc_old old_alloc old_ov old_drew old_drewN old_setCell
attribute [local go_sem ↓] run_max2 run_min2
theorem bign_xl {ρ : Operand → Value} {d : Option Tmp} {t : TypeId} {x : Operand} {po : String} {af : Array Edge} {g : Option (Nat × Bool)} (w : World) : (execOp ρ ⟨d, .load 68 x, t, po, af, g⟩).run Try.prog w = runLoad Try.prog 68 (ρ x) w := exec_load w
theorem bign_xs {ρ : Operand → Value} {d : Option Tmp} {t : TypeId} {x y : Operand} {po : String} {af : Array Edge} {g : Option (Nat × Bool)} (w : World) : (execOp ρ ⟨d, .store 68 x y, t, po, af, g⟩).run Try.prog w = runStore Try.prog 68 (ρ x) (ρ y) w := exec_store w
theorem bign_l (w : World) (b : Nat) (h : (blkCells w b).size = 65) : runLoad Try.prog 68 (.pointer (some ⟨b, 0, none⟩)) w = .ok (.value (.agg (blkCells w b))) w := runLoad_blk Try.underlying68 rfl (by kernel_rfl) (by omega) w b h
theorem bign_s (w : World) (b : Nat) (l : List Value) (h : (blkCells w b).size = 65) (hl : l.length = 65) (h1 : allOne l = true) : runStore Try.prog 68 (.pointer (some ⟨b, 0, none⟩)) (.agg l.toArray) w = .ok .skip (putBlk w b l.toArray) := runStore_blk (by kernel_rfl) (by omega) w b l h hl h1
theorem bigs_xl {ρ : Operand → Value} {d : Option Tmp} {t : TypeId} {x : Operand} {po : String} {af : Array Edge} {g : Option (Nat × Bool)} (w : World) : (execOp ρ ⟨d, .load 74 x, t, po, af, g⟩).run Try.prog w = runLoad Try.prog 74 (ρ x) w := exec_load w
theorem bigs_xs {ρ : Operand → Value} {d : Option Tmp} {t : TypeId} {x y : Operand} {po : String} {af : Array Edge} {g : Option (Nat × Bool)} (w : World) : (execOp ρ ⟨d, .store 74 x y, t, po, af, g⟩).run Try.prog w = runStore Try.prog 74 (ρ x) (ρ y) w := exec_store w
theorem bigs_l (w : World) (b : Nat) (h : (blkCells w b).size = 62) : runLoad Try.prog 74 (.pointer (some ⟨b, 0, none⟩)) w = .ok (.value (.agg (blkCells w b))) w := runLoad_blk Try.underlying74 rfl (by kernel_rfl) (by omega) w b h
theorem bigs_s (w : World) (b : Nat) (l : List Value) (h : (blkCells w b).size = 62) (hl : l.length = 62) (h1 : allOne l = true) : runStore Try.prog 74 (.pointer (some ⟨b, 0, none⟩)) (.agg l.toArray) w = .ok .skip (putBlk w b l.toArray) := runStore_blk (by kernel_rfl) (by omega) w b l h hl h1
attribute [local go_sem ↓] bign_xl bign_xs bigs_xl bigs_xs
attribute [local go_sem] bign_l bign_s bigs_l bigs_s blkCells_ov_same blkCells_ov_other blkCells_new blkCells_old blkCells_drew blkCells_drewN putBlk_ov_same putBlk_ov_other putBlk_new putBlk_old putBlk_drew putBlk_drewN putBlk_size allOne_nil allOne_int allOne_bool allOne_slice allOne_pointer allOne_map allOne_string
theorem exec_two {P : Program} {ρ : Operand → Value} {d : Option Tmp} {ty t : TypeId} {k j : Nat} {x y : Operand} {po : String} {af : Array Edge} {g : Option (Nat × Bool)} (w : World) : (execOp ρ ⟨d, .build ty #[(k, x), (j, y)], t, po, af, g⟩).run P w = runBuild P ty #[(k, ρ x), (j, ρ y)] w := by
  have e : (#[(k, x), (j, y)] : Array (Nat × Operand)).map (fun (i, x) => (i, ρ x)) = #[(k, ρ x), (j, ρ y)] := by simp
  unfold runBuild
  rw [← e]
  rfl
theorem exec_build26 {ρ : Operand → Value} {d : Option Tmp} {t : TypeId} {x : Operand} {po : String} {af : Array Edge} {g : Option (Nat × Bool)} (w : World) : (execOp ρ ⟨d, .build 68 #[(1, x)], t, po, af, g⟩).run Try.prog w = runBuild Try.prog 68 #[(1, ρ x)] w := exec_build1 w
set_option maxRecDepth 100000 in
theorem runBuild26 (x : Bool) (w : World) : runBuild Try.prog 68 #[(1, .bool x)] w = .ok (.value (.agg (nodeC 0 false 0 0 x (.slice none 0 0) 0).toArray)) w := by kernel_rfl
theorem exec_sl26 {ρ : Operand → Value} {d : Option Tmp} {t : TypeId} {x : Operand} {po : String} {af : Array Edge} {g : Option (Nat × Bool)} (w : World) : (execOp ρ ⟨d, .buildSlice 27 1 #[(0, x)], t, po, af, g⟩).run Try.prog w = runBuildSl Try.prog 27 1 #[(0, ρ x)] w := exec_buildSl1 w
set_option maxRecDepth 100000 in
theorem runSl26 (z : Int) (au : Bool) (p o : Int) (tx : Bool) (par : Int) (w : World) : runBuildSl Try.prog 27 1 #[(0, .agg (nodeC z au p o tx (.slice none 0 0) par).toArray)] w = .ok (.value (.slice (some ⟨w.heap.size, 0, none⟩) 1 1)) (w.alloc (.cells (nodeC z au p o tx (.slice none 0 0) par).toArray 68)) := by kernel_rfl
theorem exec_lay26 {ρ : Operand → Value} {d : Option Tmp} {t : TypeId} {x y : Operand} {po : String} {af : Array Edge} {g : Option (Nat × Bool)} (w : World) : (execOp ρ ⟨d, .build 77 #[(0, x), (1, y)], t, po, af, g⟩).run Try.prog w = runBuild Try.prog 77 #[(0, ρ x), (1, ρ y)] w := exec_two w
set_option maxRecDepth 100000 in
theorem runLay26 (z : Int) (au : Bool) (p o : Int) (tx : Bool) (w : World) : runBuild Try.prog 77 #[(0, .agg (styC z au p o).toArray), (1, .bool tx)] w = .ok (.value (.agg (layC z au p o tx).toArray)) w := by kernel_rfl
theorem put_lay26 {w : World} {b : Nat} {k : Int} {v : Value} (h : MapOk w b) : (Instr.mapUpdate 25 (.map (some b)) (.int .i64 k) v).run Try.prog w = .ok () (putM w b k v) := run_putM Try.underlying25 Try.underlying3 k v h
attribute [local go_sem ↓] exec_build26 exec_sl26 exec_lay26
attribute [local go_sem] runBuild26 runSl26 runLay26 mapOk_drew put_lay26 nodeC_s42 nodeC_s48 nodeC_s50 nodeC_s51 nodeC_s64 styC_s42 styC_s48 styC_s50 styC_s51 nodeC_g64 nodeC_g63 nodeC_g61 nodeC_t42 nodeC_t48 nodeC_t50 nodeC_t51 nodeC_t64 styC_t42 styC_t48 styC_t50 styC_t51 nodeC_h64 nodeC_h63 nodeC_h61
set_option maxRecDepth 100000 in
theorem bign_C (X : World) (b : Nat) (z : Int) (au : Bool) (p o : Int) (tx : Bool) (kv : Value) (par : Int) (h : (blkCells X b).size = 65) (hk : kv = .slice none 0 0) : runStore Try.prog 68 (.pointer (some ⟨b, 0, none⟩)) (.agg (nodeC z au p o tx kv par).toArray) X = .ok .skip (putBlk X b (nodeC z au p o tx kv par).toArray) := by
  subst hk; exact bign_s X b _ h rfl rfl
set_option maxRecDepth 100000 in
set_option maxHeartbeats 20000000 in
theorem made26_any (a : Option Addr) (n c most : Nat) (l : List N26) (w : World) (hn : l.length = n) (hn1 : n ≤ c) (hc : c ≤ 9223372036854775807) (hmost : most ≤ 60) (h : N26sAt w a l) :
    Calls Try.prog 17 #[.slice a n c, .int .i64 most] w (Made26 l most w) := by
  have HN := Lib.hid hn; have HA := Lib.hid h
  clear hn h
  have hmm := @run_makeMap Try.prog
  go_enter Try.func17, Try.ntmps17
  go_wp2_with ((go_at_call 32); (with_reducible refine (tnew_any _).mono ?_); rintro e u ⟨pt, bm, rfl, ht, hpt, hbm, hb⟩)
  refine name_w (f := Code.wp _ _ _ _) (fun X hX => ?_)
  have hM0 : ∃ p10 bn f O, u.heap.size + 1 = p10 ∧ u.heap.size = bn ∧ M26 l w X pt bm 2 (b26 w.heap.size p10 none 0 0) bn 0 0 0 0 none 0 [(0, 0)] f O := by
    obtain ⟨f, O, q⟩ := m26_start (l := l) ht hpt hbm hb
    exact ⟨_, _, f, O, rfl, rfl, by rw [hX]; exact q⟩
  obtain ⟨p10, bn, f0, O0, hp10, hbn, hM⟩ := hM0
  obtain ⟨p6, hp6⟩ : ∃ k, w.heap.size = k := ⟨_, rfl⟩
  rw [hp10, hbn, hp6]
  rw [hp6] at hM
  have HP6 := Lib.hid hp6
  clear hp6
  have HM := Lib.hid hM
  clear hM hX hp10 hbn ht hpt hbm hb
  go_loopw [11] (fun iv wr => ∃ i aL cL R f O, iv = .int .i64 ((i : Nat) : Int) ∧ i ≤ cnt26 l most ∧ M26 l w wr pt bm 2 (b26 p6 p10 aL i cL) bn i i i i aL cL R f O) (fun iv _ => 100 - (intOf iv).toNat)
  case atStart => exact ⟨0, _, _, _, _, _, rfl, Nat.zero_le _, HM.out⟩
  case round =>
    clear HM
    obtain ⟨i, aL, cL, R, f, O, rfl, hic, hM⟩ := hrel
    have HM := Lib.hid hM
    clear hM
    go_upto_region 5 with fail
    go_cut [31] (fun s wx => s = .bool (decide (i < cnt26 l most)) ∧ wx = wr)
    case first =>
      as_aux_lemma =>
        have hln := HN.out
        have c1 : (i < n ∧ i < most) ∨ (i < n ∧ most ≤ i) ∨ (n ≤ i ∧ i = 0) ∨ (n ≤ i ∧ 0 < i) := by omega
        rcases c1 with ⟨c1, c2⟩ | ⟨c1, c2⟩ | ⟨c1, c2⟩ | ⟨c1, c2⟩
        · have e1 : (i : Int) < n := by omega
          have e2 : (i : Int) < most := by omega
          go_wp2_with fail
          go_meet
          exact ⟨by rw [show decide (i < cnt26 l most) = true from by unfold cnt26; simp; omega], rfl⟩
        · have e1 : (i : Int) < n := by omega
          have e2 : (most : Int) ≤ i := by omega
          rcases Nat.eq_zero_or_pos i with i0 | i0
          · subst i0
            go_wp2_with fail
            go_meet
            exact ⟨by rw [show decide (0 < cnt26 l most) = true from by unfold cnt26; simp; omega] <;> first | rfl | (congr 1; simp; omega), rfl⟩
          · have e3 : ¬ (i : Int) = 0 := by omega
            go_wp2_with fail
            go_meet
            exact ⟨by rw [show decide (i < cnt26 l most) = false from by unfold cnt26; simp; omega] <;> first | rfl | (congr 1; simp; omega), rfl⟩
        · subst c2
          have e1 : (n : Int) ≤ 0 := by omega
          go_wp2_with fail
          go_meet
          exact ⟨by rw [show decide (0 < cnt26 l most) = true from by unfold cnt26; simp; omega] <;> first | rfl | (congr 1; simp; omega), rfl⟩
        · have e1 : (n : Int) ≤ i := by omega
          have e3 : ¬ (i : Int) = 0 := by omega
          go_wp2_with fail
          go_meet
          exact ⟨by rw [show decide (i < cnt26 l most) = false from by unfold cnt26; simp; omega] <;> first | rfl | (congr 1; simp; omega), rfl⟩
    case rest =>
      obtain ⟨rfl, hwc⟩ := hcut
      obtain rfl : wr = wc := hwc.symm
      by_cases ci : i < cnt26 l most
      · rw [show decide (i < cnt26 l most) = true from by simpa using ci]
        go_upto_if 37 with fail
        go_cut [37] (fun _ wx => wx = wr.alloc (.cells (c26 (nd26 l i) (nd26 l i).tx) 121))
        case first =>
          as_aux_lemma =>
            have hln := HN.out
            rcases Nat.lt_or_ge i n with c1 | c1
            · rw [show decide (i < n) = true from by simpa using c1]
              obtain ⟨bq, off, rfl, hbl, hcl⟩ := HA.out (by omega)
              obtain ⟨hok, k0, k1, k2, k3, k4, k5⟩ := hcl i (by omega)
              have hbw := HM.out.wd.bel
              have k0 := (hbw.cell (p := ⟨bq, _, none⟩) hbl).trans k0; have k1 := (hbw.cell (p := ⟨bq, _, none⟩) hbl).trans k1; have k2 := (hbw.cell (p := ⟨bq, _, none⟩) hbl).trans k2; have k3 := (hbw.cell (p := ⟨bq, _, none⟩) hbl).trans k3; have k4 := (hbw.cell (p := ⟨bq, _, none⟩) hbl).trans k4; have k5 := (hbw.cell (p := ⟨bq, _, none⟩) hbl).trans k5
              have obq : Old wr bq := Nat.lt_of_lt_of_le hbl hbw.size
              have c2 : (i : Int) < n := by omega
              clear hcl hbw
              obtain ⟨q, hq⟩ : ∃ q, nd26 l i = q := ⟨_, rfl⟩
              have hq' : l.getD i n26Z = q := hq
              rw [hq'] at k0 k1 k2 k3 k4 k5
              clear hq' hok
              obtain ⟨q1, q2, q3, q4, q5, q6⟩ := q
              simp only at k0 k1 k2 k3 k4 k5
              go_wp2_with fail
              go_meet
              rw [hq]
              rfl
            · rw [show decide (i < n) = false from by simpa using c1]
              go_wp2_with fail
              go_meet
              rw [show nd26 l i = n26Z from by unfold nd26; simp [List.getD_eq_getElem?_getD, show l.length ≤ i by omega]]
              rfl
        case rest =>
          subst hcut
          obtain ⟨O6, hM6⟩ := Mt.alloc HM.out (c26 (nd26 l i) (nd26 l i).tx) 121 (B' := blkL [⟨p6, W26 none 0 0, 29⟩, ⟨p10, W26 aL i cL, 29⟩, ⟨wr.heap.size, c26 (nd26 l i) (nd26 l i).tx, 121⟩]) (fun q hq => by rcases q with _ | _ | _ | q; rfl; rfl; rfl; omega)
          go_upto_region 10 with fail
          refine name_w (f := Code.wp _ _ _ _) (fun X6 hX6 => ?_)
          rw [← hX6] at hM6
          obtain ⟨p12, hp12⟩ : ∃ k, wr.heap.size = k := ⟨_, rfl⟩
          rw [hp12] at hM6 ⊢
          have HM6 := Lib.hid hM6
          clear hM6 hX6 HM hwc hp12
          have hit : (0 < i ∨ i = 0) := by omega
          go_cut [] (fun wx => ∃ O, M26 l w wx pt bm 3 (blkL [⟨p6, W26 none 0 0, 29⟩, ⟨p10, W26 aL i cL, 29⟩, ⟨p12, c26 (nd26 l i) (tx26 l i), 121⟩]) bn i i i i aL cL R f O)
          case first =>
            as_aux_lemma =>
              have H6 : Has X6 p12 (c26 (nd26 l i) (nd26 l i).tx) 121 := Wd.has HM6.out.wd 2 (by omega)
              obtain ⟨O7, hM7⟩ := Mt.st HM6.out (q := 2) (by omega) (c26 (nd26 l i) (tx26 l i)) (B' := blkL [⟨p6, W26 none 0 0, 29⟩, ⟨p10, W26 aL i cL, 29⟩, ⟨p12, c26 (nd26 l i) (tx26 l i), 121⟩]) (fun r hr => by rcases r with _ | _ | _ | r; rfl; rfl; rfl; omega)
              have hM7 : M26 l w (ov X6 p12 (c26 (nd26 l i) (tx26 l i)) 121) pt bm 3 _ bn i i i i aL cL R f O7 := hM7
              have HM7 := Lib.hid hM7
              have z6 := H6.lt
              have h7 : tx26 l i = ((nd26 l i).tx && decide (0 < i)) := rfl
              clear hM7
              unfold c26 at H6
              rw [← ov_self H6]
              rcases ht : (nd26 l i).tx with _ | _
              · rw [ht] at h7
                go_wp2_with fail
                go_meet
                have q := HM7.out
                rw [show tx26 l i = false from h7] at q ⊢
                exact ⟨_, q⟩
              · rcases hit with h0 | h0
                · have e0 : (0 : Int) < i := by omega
                  rw [ht] at h7
                  go_wp2_with fail
                  go_meet
                  have q := HM7.out
                  rw [show tx26 l i = true from by rw [h7]; simp [h0]] at q ⊢
                  exact ⟨_, q⟩
                · subst h0
                  rw [ht] at h7
                  go_wp2_with fail
                  go_meet
                  have q := HM7.out
                  rw [show tx26 l 0 = false from h7] at q ⊢
                  exact ⟨_, q⟩
          case rest =>
            obtain ⟨O7, hM7⟩ := hcut
            have HM7 := Lib.hid hM7
            clear hM7 HM6
            have H12 : Has wc p12 #[.int .u8 (nd26 l i).p, .int .u8 (nd26 l i).pos, .int .u8 (nd26 l i).ov, .int .i8 (nd26 l i).z, .bool (nd26 l i).au, .bool (tx26 l i)] 121 := Wd.has HM7.out.wd 2 (by omega)
            have e12 := H12.cells; have l12 := H12.lt; have o12 : Old wc p12 := l12
            have hz68 : Try.zeroCells68.size = 65 := by kernel_rfl
            go_upto_region 12 with fail
            rw [bign_C _ _ _ _ _ _ _ _ _ (by rw [blkCells_new rfl]; exact hz68) rfl, putBlk_new rfl]
            go_upto_if 53 with fail
            clear H12 e12 l12 o12 hz68
            obtain ⟨O8, hM8⟩ := Mt.alloc HM7.out (nodeC 0 false 0 0 (tx26 l i) (.slice none 0 0) 0).toArray 68 (B' := blkL [⟨p6, W26 none 0 0, 29⟩, ⟨p10, W26 aL i cL, 29⟩, ⟨p12, c26 (nd26 l i) (tx26 l i), 121⟩, ⟨wc.heap.size, (nodeC 0 false 0 0 (tx26 l i) (.slice none 0 0) 0).toArray, 68⟩]) (fun q hq => by rcases q with _ | _ | _ | _ | q; rfl; rfl; rfl; rfl; omega)
            refine name_w (f := Code.wp _ _ _ _) (fun X8 hX8 => ?_)
            rw [← hX8] at hM8
            obtain ⟨p13, hp13⟩ : ∃ k, wc.heap.size = k := ⟨_, rfl⟩
            rw [hp13] at hM8 ⊢
            have hM8 : M26 l w X8 pt bm 4 (blkL [⟨p6, W26 none 0 0, 29⟩, ⟨p10, W26 aL i cL, 29⟩, ⟨p12, c26 (nd26 l i) (tx26 l i), 121⟩, ⟨p13, (nodeC 0 false 0 0 (tx26 l i) (.slice none 0 0) 0).toArray, 68⟩]) bn i i i i aL cL R f O8 := hM8
            have HM8 := Lib.hid hM8
            clear hM8 hX8 HM7 hp13
            have ok := ok26_nd HA.out i
            go_cut [14, 15] (fun _ _ wx => ∃ R f O, M26 l w wx pt bm 4 (blkL [⟨p6, W26 none 0 0, 29⟩, ⟨p10, W26 aL i cL, 29⟩, ⟨p12, c26 (nd26 l i) (tx26 l i), 121⟩, ⟨p13, (nodeC 0 false 0 0 (tx26 l i) (.slice none 0 0) (pa26 l i)).toArray, 68⟩]) bn i i (i + 1) i aL cL R f O)
            case first =>
              as_aux_lemma =>
                rcases Nat.eq_zero_or_pos i with c0 | c0
                · subst c0
                  go_wp2_with fail
                  go_meet
                  exact ⟨_, _, _, HM8.out.wd, HM8.out.told, HM8.out.k1, HM8.out.vl, HM8.out.f0, fun k hk => by omega⟩
                · have e0 : (0 : Int) < i := by omega
                  have H12 : Has X8 p12 #[.int .u8 (nd26 l i).p, .int .u8 (nd26 l i).pos, .int .u8 (nd26 l i).ov, .int .i8 (nd26 l i).z, .bool (nd26 l i).au, .bool (tx26 l i)] 121 := Wd.has HM8.out.wd 2 (by omega)
                  have H13 : Has X8 p13 (nodeC 0 false 0 0 (tx26 l i) (.slice none 0 0) 0).toArray 68 := Wd.has HM8.out.wd 3 (by omega)
                  have e12 := H12.cells; have l12 := H12.lt; have o12 : Old X8 p12 := l12
                  have l13 := H13.lt
                  have n123 : p12 ≠ p13 := Wd.bne HM8.out.wd 2 3 (by omega) (by omega) (by omega)
                  have hi0 : ¬ (i : Int) = 0 := by omega
                  have hrem := rem26 (l := l) c0 ok.p.1
                  have hwp : wrap64 (nd26 l i).p = (nd26 l i).p := by have := ok.p; unfold wrap64; omega
                  obtain ⟨q0, hq0⟩ : ∃ q, ((nd26 l i).p % i).toNat = q := ⟨_, rfl⟩
                  have hq0i : q0 < i := by rw [← hq0]; exact rem_lt c0
                  have hup0 : up26 l q0 = pa26 l i := by unfold pa26; rw [if_neg (by omega), hq0]
                  rw [hq0] at hrem
                  obtain ⟨O9, hM9⟩ := Mt.st HM8.out (q := 3) (by omega) (nodeC 0 false 0 0 (tx26 l i) (.slice none 0 0) q0).toArray (B' := blkL [⟨p6, W26 none 0 0, 29⟩, ⟨p10, W26 aL i cL, 29⟩, ⟨p12, c26 (nd26 l i) (tx26 l i), 121⟩, ⟨p13, (nodeC 0 false 0 0 (tx26 l i) (.slice none 0 0) q0).toArray, 68⟩]) (fun r hr => by rcases r with _ | _ | _ | _ | r; rfl; rfl; rfl; rfl; omega)
                  have hM9 : M26 l w (ov X8 p13 (nodeC 0 false 0 0 (tx26 l i) (.slice none 0 0) q0).toArray 68) pt bm 4 _ bn i i i i aL cL R f O9 := hM9
                  have HM9 := Lib.hid hM9
                  clear hM9 hq0 ok
                  rw [← ov_self H13]
                  go_wp2_with fail
                  go_loopw [] (fun wr => ∃ q O, M26 l w wr pt bm 4 (blkL [⟨p6, W26 none 0 0, 29⟩, ⟨p10, W26 aL i cL, 29⟩, ⟨p12, c26 (nd26 l i) (tx26 l i), 121⟩, ⟨p13, (nodeC 0 false 0 0 (tx26 l i) (.slice none 0 0) ((q : Nat) : Int)).toArray, 68⟩]) bn i i i i aL cL R f O ∧ q < i ∧ up26 l q = pa26 l i) (fun wr => (intOf ((wr.cell? ⟨p13, 64, none⟩).getD undef)).toNat)
                  case atStart => exact ⟨q0, O9, HM9.out, hq0i, hup0⟩
                  case round =>
                    obtain ⟨q, O10, hM, hq, hup⟩ := hrel
                    have HM := Lib.hid hM; have HUP := Lib.hid hup
                    clear hM hup
                    have H10 : Has wr p10 #[.slice aL i cL, .int .i64 0, .int .i64 0] 29 := Wd.has HM.out.wd 1 (by omega)
                    have H13 : Has wr p13 (nodeC 0 false 0 0 (tx26 l i) (.slice none 0 0) q).toArray 68 := Wd.has HM.out.wd 3 (by omega)
                    have n103 : p10 ≠ p13 := Wd.bne HM.out.wd 1 3 (by omega) (by omega) (by omega)
                    have hLr := HM.out.wd.fam.row 0 (by omega)
                    rw [HM.out.f0] at hLr
                    obtain ⟨_, _, eL, nL, _, rL⟩ := row_reads hLr
                    cases eL
                    obtain ⟨gL, rfl, _, lgL, cLr⟩ := rL c0
                    have kt := cLr (q * 65 + 61) (.bool (tx26 l q)) ((rng_get (fun k => nodeC_len _ _ _ _ _ _ _) (by omega) hq).trans rfl)
                    have kp := cLr (q * 65 + 64) (.int .i64 (pa26 l q)) ((rng_get (fun k => nodeC_len _ _ _ _ _ _ _) (by omega) hq).trans rfl)
                    have e10 := H10.cells; have l10 := H10.lt; have o10 : Old wr p10 := l10
                    have l13 := H13.lt
                    have ogL : Old wr gL := lgL
                    have hL13 : gL ≠ p13 := fun e => Wd.bap HM.out.wd 3 0 (by omega) (by omega) (by rw [HM.out.f0]; show some gL = some p13; rw [e])
                    have hqI : (q : Int) < i := by omega
                    have hq00 : (0 : Int) ≤ q := by omega
                    have hms : (wr.cell? ⟨p13, 64, none⟩).getD undef = .int .i64 q := by rw [H13.cells]; rfl
                    clear hLr rL cLr nL
                    rcases ht : tx26 l q with _ | _
                    · rw [ht] at kt
                      have HQ := Lib.hid (show q = pa26 l i by rw [← HUP.out, up26_no ht])
                      clear hms
                      have e13 := H13.cells; have o13 : Old wr p13 := l13
                      go_upto_region 16 with fail
                      obtain ⟨kv, ek⟩ := HM.out.fk q hq
                      have hKr := HM.out.wd.fam.row (1 + q) (by omega)
                      rw [ek] at hKr
                      obtain ⟨ak, ck, eK, nK, _, _⟩ := row_reads hKr
                      simp only at eK
                      subst eK
                      have hLr := HM.out.wd.fam.row 0 (by omega)
                      rw [HM.out.f0] at hLr
                      dsimp only at hLr hKr nK
                      obtain ⟨_, _, eL, nL, _, rL⟩ := row_reads hLr
                      cases eL
                      obtain ⟨gL', egL, _, lgL', cLr⟩ := rL c0
                      cases egL
                      have kc := cLr (q * 65 + 63) (.slice ak (kidsZ (pa26 l) i q).length ck) ((rng_get (fun k => nodeC_len _ _ _ _ _ _ _) (by omega) hq).trans (by rw [ek]; rfl))
                      obtain ⟨nk, hnk⟩ : ∃ x, (kidsZ (pa26 l) i q).length = x := ⟨_, rfl⟩
                      rw [hnk] at kc
                      have HKR := Lib.hid hKr; have HEK := Lib.hid ek; have HLR := Lib.hid hLr; have HNK := Lib.hid hnk
                      clear hKr ek hLr cLr hnk nK nL rL kt kp lgL' hup0
                      have np : ¬ O10 pt := HM.out.wd.tk.np
                      have nbm : ¬ O10 bm := HM.out.wd.tk.nbm
                      have hS0 : ¬ (p10 = pt ∨ p10 = bm) := fun e => by
                        have := Wd.bo HM.out.wd 1 (by omega)
                        rcases e with e | e
                        · exact np (e ▸ this)
                        · exact nbm (e ▸ this)
                      have hS1 : ¬ (p13 = pt ∨ p13 = bm) := fun e => by
                        have := Wd.bo HM.out.wd 3 (by omega)
                        rcases e with e | e
                        · exact np (e ▸ this)
                        · exact nbm (e ▸ this)
                      have hS2 : ¬ (gL = pt ∨ gL = bm) := fun e => by
                        have hg := HM.out.wd.fo 0 gL (by omega) (by rw [HM.out.f0]; rfl)
                        rcases e with e | e
                        · exact np (e ▸ hg)
                        · exact nbm (e ▸ hg)
                      clear np nbm
                      refine region_ordS (S := fun wx => ButS (fun b => b = pt ∨ b = bm) wr.heap.size wr wx) (ButS.refl _ _ _).drew [(0, 0), (1, 0), (2, 0), (3, 0), (4, 0), (5, 0), (6, 0), (7, 0), (8, 0), (9, 0), (10, 0), (11, 1), (12, 0), (13, 0), (14, 0), (15, 0), (16, 0)] (by kernel_rfl) (by kernel_rfl) (fun _ _ d _ _ h => by cases d <;> exact h) (fun hS => ?_)
                      iterate 11
                        (refine wpG_read (v := ?_) rfl (.inl ⟨by rfl, fun wx hbx => ?_⟩) ?_; rotate_left; (focus (obtain ⟨cx0, fx0⟩ := buts_bk hbx l10 hS0; obtain ⟨cx1, fx1⟩ := buts_bk hbx l13 hS1; obtain ⟨cx2, fx2⟩ := buts_bk hbx lgL hS2; go_simp; (try go_bits); (try with_reducible rfl))); try simp only [Act.put, List.setIfInBounds_toArray, List.set_cons_zero, List.set_cons_succ])
                      refine wpG_make rfl (fun K hK => ?_)
                      go_simp
                      have hmx : max i 1 = i := by omega
                      have HT : TreeAt wr pt bm (fun b => w.heap.size ≤ b ∧ ¬ O10 b) R i := by have := HM.out.wd.tk.tree; rw [hmx] at this; exact this
                      have hPt : Pt (pa26 l) i R := by have := HM.out.told; rw [hmx] at this; exact this
                      have hi60 : i < 60 := by have := ci; unfold cnt26 at this; omega
                      obtain ⟨R', hF, hPt'⟩ := hPt.add c0 (by omega) (by rw [← HQ.out]; exact hq)
                      rw [← HQ.out, HNK.out] at hF
                      have hRl := hPt.len
                      refine (tadd_any pt bm (fun b => w.heap.size ≤ b ∧ ¬ O10 b) R i q nk wr.drew (HT.below (Below.refl _ _).drew) (by omega) (by omega) (by omega)).mono ?_
                      unfold AddPost
                      rw [hF]
                      rintro e X7 ⟨rfl, ht7, hb7⟩
                      have hb7' : ButS (fun b => b = pt ∨ b = bm) wr.heap.size wr X7 := (ButS.refl _ _ _).drew.trans hb7
                      refine hK _ _ hb7' (fun hS2 => ?_)
                      clear hK K hS hS2
                      try simp only [Act.put, List.setIfInBounds_toArray, List.set_cons_zero, List.set_cons_succ]
                      iterate 5
                        (refine wpG_read (v := ?_) rfl (.inl ⟨by rfl, fun wx hbx => ?_⟩) ?_; rotate_left; (focus (go_simp; (try go_bits); (try with_reducible rfl))); try simp only [Act.put, List.setIfInBounds_toArray, List.set_cons_zero, List.set_cons_succ])
                      refine wpG_nil ?_
                      have W7 : Wd w X7 pt bm R' ((i + 1 : Nat) : Int) (1 + i) f 4 _ 1 (fun _ => ⟨bn, m26 l i⟩) O10 := HM.out.wd.add (by rw [show ((i + 1 : Nat) : Int) = nextT i 0 from rfl]; exact ht7) hb7'
                      have HW7 := Lib.hid W7; have HPT := Lib.hid hPt'
                      clear W7 ht7 hb7 hb7' hPt hPt' hF HT hRl
                      have h10 : Has X7 p10 #[.slice (some ⟨gL, 0, none⟩) i cL, .int .i64 0, .int .i64 0] 29 := Wd.has HW7.out 1 (by omega)
                      have h13 : Has X7 p13 (nodeC 0 false 0 0 (tx26 l i) (.slice none 0 0) q).toArray 68 := Wd.has HW7.out 3 (by omega)
                      have hKr := HW7.out.fam.row (1 + q) (by omega)
                      rw [HEK.out] at hKr
                      dsimp only at hKr
                      rw [HNK.out] at hKr
                      have hLr := HW7.out.fam.row 0 (by omega)
                      rw [HM.out.f0] at hLr
                      dsimp only at hLr
                      obtain ⟨_, _, eL, _, _, rL⟩ := row_reads hLr
                      cases eL
                      obtain ⟨gL', egL, _, lgL7, cLr⟩ := rL c0
                      cases egL
                      have kc7 := cLr (q * 65 + 63) (.slice ak nk ck) ((rng_get (fun k => nodeC_len _ _ _ _ _ _ _) (by omega) hq).trans (by rw [HEK.out, HNK.out]; rfl))
                      have e107 := h10.cells; have l107 := h10.lt
                      have e137 := h13.cells; have l137 := h13.lt
                      have hvk : (f (1 + q)).v = .slice ak nk ck := by rw [HEK.out, HNK.out]
                      have hT0 : ¬ ((Value.slice ak nk ck).ownBlock = some p10) := fun e => Wd.bap HW7.out 1 (1 + q) (by omega) (by omega) (by rw [hvk]; exact e)
                      have hT1 : ¬ ((Value.slice ak nk ck).ownBlock = some p13) := fun e => Wd.bap HW7.out 3 (1 + q) (by omega) (by omega) (by rw [hvk]; exact e)
                      have hT2 : ¬ ((Value.slice ak nk ck).ownBlock = some gL) := fun e => by
                        obtain ⟨c1, k1⟩ := own_has hKr e
                        obtain ⟨c2, k2⟩ := own_has hLr (show _ = some gL from rfl)
                        have := has_ty k1 k2
                        exact absurd this (by decide)
                      have HK7 := Lib.hid hKr
                      have hsz7 : w.heap.size ≤ X7.heap.size := HW7.out.size
                      clear e10 l10 o10 e13 l13 o13 H10 H13 kc cLr rL hKr hLr ogL lgL h10 h13 hvk
                      obtain ⟨i0, hi, hz0, hz1, hz2⟩ := info_parts (show (Try.prog.info? 3).map (fun i => (i.zero, i.size, i.bytes)) = some (some (.int .i64 0), 1, 8) by kernel_rfl)
                      have hkl : nk ≤ 60 := by have := kidsZ_len (pa26 l) q i; have := HNK.out; omega
                      go_upto_region 19 with fail
                      refine region_ordS (S := fun wx => ButS (fun b => (Value.slice ak nk ck).ownBlock = some b) X7.heap.size X7 wx) (ButS.refl _ _ _).drew [(0, 0), (1, 0), (2, 0), (3, 0), (4, 0), (5, 0), (6, 0), (7, 0), (8, 0), (9, 0), (10, 0), (11, 0), (12, 1), (13, 1), (14, 0), (15, 0), (16, 2)] (by kernel_rfl) (by kernel_rfl) (fun _ _ d _ _ h => by cases d <;> exact h) (fun hS => ?_)
                      iterate 12
                        (refine wpG_read (v := ?_) rfl (.inl ⟨by rfl, fun wx hbx => ?_⟩) ?_; rotate_left; (focus (obtain ⟨cx0, fx0⟩ := buts_bk hbx l107 hT0; obtain ⟨cx1, fx1⟩ := buts_bk hbx l137 hT1; obtain ⟨cx2, fx2⟩ := buts_bk hbx lgL7 hT2; go_simp; (try go_bits); (try with_reducible rfl))); try simp only [Act.put, List.setIfInBounds_toArray, List.set_cons_zero, List.set_cons_succ])
                      refine wpG_make rfl (fun K hK => ?_)
                      go_simp
                      refine hK _ _ ?_ (fun hS2 => ?_)
                      focus (exact (ButS.refl _ _ _).drew.alloc (Nat.le_refl _) _)
                      clear hK K hS hS2
                      try simp only [Act.put, List.setIfInBounds_toArray, List.set_cons_zero, List.set_cons_succ]
                      refine wpG_make rfl (fun K hK => ?_)
                      refine wp_append_id (P := Try.prog) _ _ _ _ rfl w.heap.size 3 i0 (.int .i64 0) 1 8 Try.underlying54 hi hz0 hz1 hz2 rfl (by decide) _ _ _ rfl (HK7.out.drew.alloc _) ⟨X7.heap.size, 0, none⟩ 1 1 [.int .i64 i] rfl rfl (newi_at (by simp)) (one_of rfl) (by unfold maxLen; omega) (by omega) (by simp; omega) (by decide) ?_
                      intro v8 X8' hown hgrow hid
                      obtain ⟨a8, c8, rfl, _, _⟩ := row_reads hown
                      replace hgrow : (X7.alloc (.cells #[.int .i64 i] 3)).drew.grownBy X8' (Value.slice ak nk ck).ownBlock := hgrow
                      replace hid : (Value.slice a8 (nk + 1) c8).ownBlock = (Value.slice ak nk ck).ownBlock ∧ X8'.heap.size = (X7.alloc (.cells #[.int .i64 i] 3)).drew.heap.size ∨ (Value.slice a8 (nk + 1) c8).ownBlock = some (X7.alloc (.cells #[.int .i64 i] 3)).drew.heap.size ∧ (X7.alloc (.cells #[.int .i64 i] 3)).drew.heap.size < X8'.heap.size := hid
                      have hS8 : ButS (fun b => (Value.slice ak nk ck).ownBlock = some b) X7.heap.size X7 X8' := (((ButS.refl _ _ _).alloc (Nat.le_refl _) _).drew).trans ((buts_grown hgrow).less (by simp))
                      have ek : f (1 + q) = ⟨3, 1, .slice ak nk ck, nk, intVals (kidsZ (pa26 l) i q)⟩ := by rw [HEK.out, HNK.out]
                      have W8 := (HW7.out.below (w' := (X7.alloc (.cells #[.int .i64 i] 3)).drew) (((Below.refl _ _).alloc (Nat.le_refl _) _).drew)).app (q := 1 + q) (by omega) (by rw [ek]; exact hown) (by rw [ek]; exact hgrow) (by rw [ek]; exact hid)
                      rw [ek] at W8
                      dsimp only at W8
                      have hu0 : upd f (1 + q) ⟨3, 1, .slice a8 (nk + 1) c8, nk + 1, intVals (kidsZ (pa26 l) i q) ++ [.int .i64 i]⟩ 0 = ⟨68, 65, .slice (some ⟨gL, 0, none⟩) i cL, i, rng (fun k => V26 l k (f (1 + k)).v) i⟩ := by rw [upd_other _ _ (by omega)]; exact HM.out.f0
                      have hlt65 : q * 65 + 63 < i * 65 := by omega
                      have W9 := W8.set (q := 0) (g := gL) (c := cL) (j := q * 65 + 63) (by omega) (by rw [hu0]) (by rw [hu0]; exact hlt65) (.slice a8 (nk + 1) c8)
                      rw [hu0] at W9
                      dsimp only at W9
                      have HW9 := Lib.hid W9
                      have hL8 := W8.fam.row 0 (by omega)
                      obtain ⟨cs8, hs8⟩ := own_has hL8 (g := gL) (by rw [hu0]; rfl)
                      have f8 := hs8.frozen
                      have k8 := ((buts_bk hS8 lgL7 hT2).1 (q * 65 + 63)).trans kc7
                      refine hK _ _ hS8 (fun hS2 => ?_)
                      clear hK K hS2 hown hgrow hid hS8 W8 W9 hL8 hs8 hu0
                      try simp only [Act.put, List.setIfInBounds_toArray, List.set_cons_zero, List.set_cons_succ]
                      iterate 2
                        (refine wpG_read (v := ?_) rfl (.inl ⟨by rfl, fun wx hbx => ?_⟩) ?_; rotate_left; (focus (go_simp; (try go_bits); (try with_reducible rfl))); try simp only [Act.put, List.setIfInBounds_toArray, List.set_cons_zero, List.set_cons_succ])
                      refine wpG_late rfl (fun K hK => ?_)
                      go_simp
                      refine hK _ _ ?_
                      clear hK K
                      try simp only [Act.put, List.setIfInBounds_toArray, List.set_cons_zero, List.set_cons_succ]
                      refine wpG_nil ?_
                      go_wp2_with fail
                      go_meet
                      have hk := Mt.kid HM.out c0 HQ.out.symm hq (fun r v => nodeC_kid _ _ _ _ _ _ _ _) HW9.out HNK.out HPT.out
                      rw [← HQ.out]
                      exact ⟨R', _, _, hk⟩
                    · rw [ht] at kt
                      obtain ⟨O11, hM11⟩ := Mt.st HM.out (q := 3) (by omega) (nodeC 0 false 0 0 (tx26 l i) (.slice none 0 0) (pa26 l q)).toArray (B' := blkL [⟨p6, W26 none 0 0, 29⟩, ⟨p10, W26 (some ⟨gL, 0, none⟩) i cL, 29⟩, ⟨p12, c26 (nd26 l i) (tx26 l i), 121⟩, ⟨p13, (nodeC 0 false 0 0 (tx26 l i) (.slice none 0 0) (pa26 l q : Nat)).toArray, 68⟩]) (fun r hr => by rcases r with _ | _ | _ | _ | r; rfl; rfl; rfl; rfl; omega)
                      have hM11 : M26 l w (ov wr p13 (nodeC 0 false 0 0 (tx26 l i) (.slice none 0 0) (pa26 l q)).toArray 68) pt bm 4 _ bn i i i i _ cL R f O11 := hM11
                      have HM11 := Lib.hid hM11
                      have hup2 : up26 l (pa26 l q) = pa26 l i := by rw [up26_no (pa26_tx l q), ← up26_yes ht]; exact HUP.out
                      have hlt2 := pa26_lt l (tx26_pos ht)
                      clear hM11
                      rw [← ov_self H13]
                      go_wp2_with fail
                      refine ⟨⟨pa26 l q, O11, HM11.out, by omega, hup2⟩, ?_⟩
                      rw [ov_cell_same l13, ov_cell_same l13]
                      show (intOf (.int .i64 ((pa26 l q : Nat) : Int))).toNat < (intOf (.int .i64 ((q : Nat) : Int))).toNat
                      simp only [intOf]; omega
            case rest =>
              obtain ⟨R1, f1, O1, hM⟩ := hcut
              obtain ⟨f2, hf2, hfo, hM2⟩ := Mt.more hM (fun k h1 h2 => pa26_lt l h1) (Nat.le_refl i)
              have HM2 := Lib.hid hM2; have HF2 := Lib.hid hf2
              clear hM hM2 hf2 hfo HM8
              go_upto_region 21 with fail
              obtain ⟨O3, hM3⟩ := Mt.alloc HM2.out (styC 0 false 0 0).toArray 74 (B' := blkL [⟨p6, W26 none 0 0, 29⟩, ⟨p10, W26 aL i cL, 29⟩, ⟨p12, c26 (nd26 l i) (tx26 l i), 121⟩, ⟨p13, (nodeC 0 false 0 0 (tx26 l i) (.slice none 0 0) (pa26 l i)).toArray, 68⟩, ⟨wc.heap.size, (styC 0 false 0 0).toArray, 74⟩]) (fun q hq => by rcases q with _ | _ | _ | _ | _ | q; rfl; rfl; rfl; rfl; rfl; omega)
              refine name_w (f := Code.wp _ _ _ _) (fun X hX => ?_)
              have hM3 : M26 l w X pt bm 5 (blkL [⟨p6, W26 none 0 0, 29⟩, ⟨p10, W26 aL i cL, 29⟩, ⟨p12, c26 (nd26 l i) (tx26 l i), 121⟩, ⟨p13, (nodeC 0 false 0 0 (tx26 l i) (.slice none 0 0) (pa26 l i)).toArray, 68⟩, ⟨wc.heap.size, (styC 0 false 0 0).toArray, 74⟩]) bn i (i + 1) (i + 1) i aL cL R1 f2 O3 := by rw [hX]; exact hM3
              obtain ⟨p16, hp16⟩ : ∃ k, wc.heap.size = k := ⟨_, rfl⟩
              rw [hp16] at hM3 ⊢
              have HM3 := Lib.hid hM3
              clear hM3 hX HM2 hp16
              have H12 : Has X p12 #[.int .u8 (nd26 l i).p, .int .u8 (nd26 l i).pos, .int .u8 (nd26 l i).ov, .int .i8 (nd26 l i).z, .bool (nd26 l i).au, .bool (tx26 l i)] 121 := Wd.has HM3.out.wd 2 (by omega)
              have H13 : Has X p13 (nodeC 0 false 0 0 (tx26 l i) (.slice none 0 0) (pa26 l i)).toArray 68 := Wd.has HM3.out.wd 3 (by omega)
              have H16 : Has X p16 (styC 0 false 0 0).toArray 74 := Wd.has HM3.out.wd 4 (by omega)
              have e12 := H12.cells; have l12 := H12.lt; have o12 : Old X p12 := l12
              have l13 := H13.lt; have l16 := H16.lt
              have n1 : ¬ p12 = p13 := Wd.bne HM3.out.wd 2 3 (by omega) (by omega) (by omega)
              have n2 : ¬ p12 = p16 := Wd.bne HM3.out.wd 2 4 (by omega) (by omega) (by omega)
              have n3 : ¬ p13 = p16 := Wd.bne HM3.out.wd 3 4 (by omega) (by omega) (by omega)
              have ok := ok26_nd HA.out i
              have hpos := ok.pos; have hov := ok.ov; have hz := ok.z
              have t1 : (nd26 l i).pos.tmod 3 = (nd26 l i).pos % 3 := Int.tmod_eq_emod_of_nonneg hpos.1
              have t2 : (nd26 l i).ov.tmod 3 = (nd26 l i).ov % 3 := Int.tmod_eq_emod_of_nonneg hov.1
              have w1 : wrap64 (nd26 l i).pos = (nd26 l i).pos := by unfold wrap64; omega
              have w2 : wrap64 (nd26 l i).ov = (nd26 l i).ov := by unfold wrap64; omega
              have w3 : wrap64 (nd26 l i).z = (nd26 l i).z := by unfold wrap64; omega
              have w4 : wrap64 (1 + (nd26 l i).pos % 3) = 1 + (nd26 l i).pos % 3 := by unfold wrap64; omega
              have w5 : wrap64 (1 + (nd26 l i).ov % 3) = 1 + (nd26 l i).ov % 3 := by unfold wrap64; omega
              clear ok hpos hov hz H12
              rw [← ov_self H16]
              go_upto_region 22 with fail
              refine region_phases (ph2 (p16) _) [(0, 0, 0), (1, 0, 0), (2, 0, 0), (3, 0, 0), (4, 0, 0), (5, 0, 1), (6, 0, 1), (7, 0, 1), (8, 0, 1), (9, 0, 1), (10, 0, 0), (11, 0, 0), (13, 0, 1), (12, 1, 1), (14, 0, 1), (15, 1, 2)] (ph2_first _ _) (by kernel_rfl) (by kernel_rfl) (fun _ _ d _ _ h => by cases d <;> exact h) ?_
              (refine wpP_read (v := ?_) rfl (.inl ⟨by rfl, fun wx hbx => ?_⟩) ?_; rotate_left; (focus (obtain ⟨cx0, fx0, zx0⟩ := bk (show Below _ _ _ from hbx) (p12) (by first | omega | (simp; done) | (simp; omega)); go_simp; (try go_bits); (try with_reducible rfl))); try simp only [Act.put, List.setIfInBounds_toArray, List.set_cons_zero, List.set_cons_succ])
              (refine wpP_read (v := ?_) rfl (.inl ⟨by rfl, fun wx hbx => ?_⟩) ?_; rotate_left; (focus (obtain ⟨cx0, fx0, zx0⟩ := bk (show Below _ _ _ from hbx) (p12) (by first | omega | (simp; done) | (simp; omega)); go_simp; (try go_bits); (try with_reducible rfl))); try simp only [Act.put, List.setIfInBounds_toArray, List.set_cons_zero, List.set_cons_succ])
              (refine wpP_read (v := ?_) rfl (.inl ⟨by rfl, fun wx hbx => ?_⟩) ?_; rotate_left; (focus (obtain ⟨cx0, fx0, zx0⟩ := bk (show Below _ _ _ from hbx) (p12) (by first | omega | (simp; done) | (simp; omega)); go_simp; (try go_bits); (try with_reducible rfl))); try simp only [Act.put, List.setIfInBounds_toArray, List.set_cons_zero, List.set_cons_succ])
              (refine wpP_read (v := ?_) rfl (.inl ⟨by rfl, fun wx hbx => ?_⟩) ?_; rotate_left; (focus (obtain ⟨cx0, fx0, zx0⟩ := bk (show Below _ _ _ from hbx) (p12) (by first | omega | (simp; done) | (simp; omega)); go_simp; (try go_bits); (try with_reducible rfl))); try simp only [Act.put, List.setIfInBounds_toArray, List.set_cons_zero, List.set_cons_succ])
              (refine wpP_read (v := ?_) rfl (.inl ⟨by rfl, fun wx hbx => ?_⟩) ?_; rotate_left; (focus (obtain ⟨cx0, fx0, zx0⟩ := bk (show Below _ _ _ from hbx) (p12) (by first | omega | (simp; done) | (simp; omega)); go_simp; (try go_bits); (try with_reducible rfl))); try simp only [Act.put, List.setIfInBounds_toArray, List.set_cons_zero, List.set_cons_succ])
              (refine wpP_read (v := ?_) rfl (.inl ⟨by rfl, fun wx hbx => ?_⟩) ?_; rotate_left; (focus (obtain ⟨cx0, fx0⟩ := buts_bk (show ButS _ _ _ _ from hbx) (b := p12) (by first | omega | (simp; done) | (simp; omega)) (by first | assumption | omega | (simp; done) | (simp; omega)); go_simp; (try go_bits); (try with_reducible rfl))); try simp only [Act.put, List.setIfInBounds_toArray, List.set_cons_zero, List.set_cons_succ])
              (refine wpP_read (v := ?_) rfl (.inl ⟨by rfl, fun wx hbx => ?_⟩) ?_; rotate_left; (focus (obtain ⟨cx0, fx0⟩ := buts_bk (show ButS _ _ _ _ from hbx) (b := p12) (by first | omega | (simp; done) | (simp; omega)) (by first | assumption | omega | (simp; done) | (simp; omega)); go_simp; (try go_bits); (try with_reducible rfl))); try simp only [Act.put, List.setIfInBounds_toArray, List.set_cons_zero, List.set_cons_succ])
              (refine wpP_read (v := ?_) rfl (.inl ⟨by rfl, fun wx hbx => ?_⟩) ?_; rotate_left; (focus (obtain ⟨cx0, fx0⟩ := buts_bk (show ButS _ _ _ _ from hbx) (b := p12) (by first | omega | (simp; done) | (simp; omega)) (by first | assumption | omega | (simp; done) | (simp; omega)); go_simp; (try go_bits); (try with_reducible rfl))); try simp only [Act.put, List.setIfInBounds_toArray, List.set_cons_zero, List.set_cons_succ])
              (refine wpP_read (v := ?_) rfl (.inl ⟨by rfl, fun wx hbx => ?_⟩) ?_; rotate_left; (focus (obtain ⟨cx0, fx0⟩ := buts_bk (show ButS _ _ _ _ from hbx) (b := p12) (by first | omega | (simp; done) | (simp; omega)) (by first | assumption | omega | (simp; done) | (simp; omega)); go_simp; (try go_bits); (try with_reducible rfl))); try simp only [Act.put, List.setIfInBounds_toArray, List.set_cons_zero, List.set_cons_succ])
              (refine wpP_read (v := ?_) rfl (.inl ⟨by rfl, fun wx hbx => ?_⟩) ?_; rotate_left; (focus (obtain ⟨cx0, fx0⟩ := buts_bk (show ButS _ _ _ _ from hbx) (b := p12) (by first | omega | (simp; done) | (simp; omega)) (by first | assumption | omega | (simp; done) | (simp; omega)); go_simp; (try go_bits); (try with_reducible rfl))); try simp only [Act.put, List.setIfInBounds_toArray, List.set_cons_zero, List.set_cons_succ])
              (refine wpP_read (v := ?_) rfl (.inl ⟨by rfl, fun wx hbx => ?_⟩) ?_; rotate_left; (focus (obtain ⟨cx0, fx0, zx0⟩ := bk (show Below _ _ _ from hbx) (p12) (by first | omega | (simp; done) | (simp; omega)); go_simp; (try go_bits); (try with_reducible rfl))); try simp only [Act.put, List.setIfInBounds_toArray, List.set_cons_zero, List.set_cons_succ])
              (refine wpP_read (v := ?_) rfl (.inl ⟨by rfl, fun wx hbx => ?_⟩) ?_; rotate_left; (focus (obtain ⟨cx0, fx0, zx0⟩ := bk (show Below _ _ _ from hbx) (p12) (by first | omega | (simp; done) | (simp; omega)); go_simp; (try go_bits); (try with_reducible rfl))); try simp only [Act.put, List.setIfInBounds_toArray, List.set_cons_zero, List.set_cons_succ])
              (refine wpP_read (v := ?_) rfl (.inl ⟨by rfl, fun wx hbx => ?_⟩) ?_; rotate_left; (focus (obtain ⟨cx0, fx0⟩ := buts_bk (show ButS _ _ _ _ from hbx) (b := p12) (by first | omega | (simp; done) | (simp; omega)) (by first | assumption | omega | (simp; done) | (simp; omega)); go_simp; (try go_bits); (try with_reducible rfl))); try simp only [Act.put, List.setIfInBounds_toArray, List.set_cons_zero, List.set_cons_succ])
              (refine wpP_make rfl (fun K hK => ?_); go_simp; refine hK _ _ (ph2_next ?_) ?_; (focus (first | exact ph2_ov _ _ _ _ _ _ | exact ph2_ovd _ _ _ _ _ _ | exact ph2_ovdd _ _ _ _ _ _ | exact ph2_ovddd _ _ _ _ _ _)); clear hK K; try simp only [Act.put, List.setIfInBounds_toArray, List.set_cons_zero, List.set_cons_succ])
              (refine wpP_read (v := ?_) rfl (.inl ⟨by rfl, fun wx hbx => ?_⟩) ?_; rotate_left; (focus (obtain ⟨cx0, fx0⟩ := buts_bk (show ButS _ _ _ _ from hbx) (b := p12) (by first | omega | (simp; done) | (simp; omega)) (by first | assumption | omega | (simp; done) | (simp; omega)); go_simp; (try go_bits); (try with_reducible rfl))); try simp only [Act.put, List.setIfInBounds_toArray, List.set_cons_zero, List.set_cons_succ])
              (refine wpP_make rfl (fun K hK => ?_); go_simp; refine hK _ _ (ph2_last) ?_; clear hK K; try simp only [Act.put, List.setIfInBounds_toArray, List.set_cons_zero, List.set_cons_succ])
              refine wpP_nil ?_
              go_upto_region 24 with fail
              refine name_w (f := Code.wp _ _ _ _) (fun Y hY => ?_)
              have hM5 : ∃ O, M26 l w Y pt bm 5 (blkL [⟨p6, W26 none 0 0, 29⟩, ⟨p10, W26 aL i cL, 29⟩, ⟨p12, c26 (nd26 l i) (tx26 l i), 121⟩, ⟨p13, (nodeC 0 false 0 0 (tx26 l i) (.slice none 0 0) (pa26 l i)).toArray, 68⟩, ⟨p16, (styC (nd26 l i).z (nd26 l i).au (1 + (nd26 l i).pos % 3) (1 + (nd26 l i).ov % 3)).toArray, 74⟩]) bn i (i + 1) (i + 1) i aL cL R1 f2 O := by
                obtain ⟨O4, hM4⟩ := Mt.st HM3.out (q := 4) (by omega) (styC (nd26 l i).z (nd26 l i).au (1 + (nd26 l i).pos % 3) (1 + (nd26 l i).ov % 3)).toArray (B' := blkL [⟨p6, W26 none 0 0, 29⟩, ⟨p10, W26 aL i cL, 29⟩, ⟨p12, c26 (nd26 l i) (tx26 l i), 121⟩, ⟨p13, (nodeC 0 false 0 0 (tx26 l i) (.slice none 0 0) (pa26 l i)).toArray, 68⟩, ⟨p16, (styC (nd26 l i).z (nd26 l i).au (1 + (nd26 l i).pos % 3) (1 + (nd26 l i).ov % 3)).toArray, 74⟩]) (fun r hr => by rcases r with _ | _ | _ | _ | _ | r; rfl; rfl; rfl; rfl; rfl; omega)
                exact ⟨_, by rw [hY]; exact Mt.below hM4 (Below.refl _ _).drew⟩
              obtain ⟨O5, hM5⟩ := hM5
              have HM5 := Lib.hid hM5
              clear hM5 hY HM3 e12 l12 o12 l13 l16 H13 H16 n1 n2 n3
              have H12 : Has Y p12 #[.int .u8 (nd26 l i).p, .int .u8 (nd26 l i).pos, .int .u8 (nd26 l i).ov, .int .i8 (nd26 l i).z, .bool (nd26 l i).au, .bool (tx26 l i)] 121 := Wd.has HM5.out.wd 2 (by omega)
              have H13 : Has Y p13 (nodeC 0 false 0 0 (tx26 l i) (.slice none 0 0) (pa26 l i)).toArray 68 := Wd.has HM5.out.wd 3 (by omega)
              have e12 := H12.cells; have l12 := H12.lt; have o12 : Old Y p12 := l12
              have l13 := H13.lt
              have n1 : ¬ p12 = p13 := Wd.bne HM5.out.wd 2 3 (by omega) (by omega) (by omega)
              rw [← ov_self H13]
              refine region_phases (ph2 (p13) _) [(0, 0, 0), (1, 0, 0), (2, 0, 1), (3, 0, 1), (4, 0, 1), (5, 0, 0), (6, 0, 0), (8, 0, 1), (9, 0, 1), (7, 1, 1), (10, 0, 1), (11, 1, 2)] (ph2_first _ _) (by kernel_rfl) (by kernel_rfl) (fun _ _ d _ _ h => by cases d <;> exact h) ?_
              (refine wpP_read (v := ?_) rfl (.inl ⟨by rfl, fun wx hbx => ?_⟩) ?_; rotate_left; (focus (obtain ⟨cx0, fx0, zx0⟩ := bk (show Below _ _ _ from hbx) (p12) (by first | omega | (simp; done) | (simp; omega)); go_simp; (try go_bits); (try with_reducible rfl))); try simp only [Act.put, List.setIfInBounds_toArray, List.set_cons_zero, List.set_cons_succ])
              (refine wpP_read (v := ?_) rfl (.inl ⟨by rfl, fun wx hbx => ?_⟩) ?_; rotate_left; (focus (obtain ⟨cx0, fx0, zx0⟩ := bk (show Below _ _ _ from hbx) (p12) (by first | omega | (simp; done) | (simp; omega)); go_simp; (try go_bits); (try with_reducible rfl))); try simp only [Act.put, List.setIfInBounds_toArray, List.set_cons_zero, List.set_cons_succ])
              (refine wpP_read (v := ?_) rfl (.inl ⟨by rfl, fun wx hbx => ?_⟩) ?_; rotate_left; (focus (obtain ⟨cx0, fx0⟩ := buts_bk (show ButS _ _ _ _ from hbx) (b := p12) (by first | omega | (simp; done) | (simp; omega)) (by first | assumption | omega | (simp; done) | (simp; omega)); go_simp; (try go_bits); (try with_reducible rfl))); try simp only [Act.put, List.setIfInBounds_toArray, List.set_cons_zero, List.set_cons_succ])
              (refine wpP_read (v := ?_) rfl (.inl ⟨by rfl, fun wx hbx => ?_⟩) ?_; rotate_left; (focus (obtain ⟨cx0, fx0⟩ := buts_bk (show ButS _ _ _ _ from hbx) (b := p12) (by first | omega | (simp; done) | (simp; omega)) (by first | assumption | omega | (simp; done) | (simp; omega)); go_simp; (try go_bits); (try with_reducible rfl))); try simp only [Act.put, List.setIfInBounds_toArray, List.set_cons_zero, List.set_cons_succ])
              (refine wpP_read (v := ?_) rfl (.inl ⟨by rfl, fun wx hbx => ?_⟩) ?_; rotate_left; (focus (obtain ⟨cx0, fx0⟩ := buts_bk (show ButS _ _ _ _ from hbx) (b := p12) (by first | omega | (simp; done) | (simp; omega)) (by first | assumption | omega | (simp; done) | (simp; omega)); go_simp; (try go_bits); (try with_reducible rfl))); try simp only [Act.put, List.setIfInBounds_toArray, List.set_cons_zero, List.set_cons_succ])
              (refine wpP_read (v := ?_) rfl (.inl ⟨by rfl, fun wx hbx => ?_⟩) ?_; rotate_left; (focus (obtain ⟨cx0, fx0, zx0⟩ := bk (show Below _ _ _ from hbx) (p12) (by first | omega | (simp; done) | (simp; omega)); go_simp; (try go_bits); (try with_reducible rfl))); try simp only [Act.put, List.setIfInBounds_toArray, List.set_cons_zero, List.set_cons_succ])
              (refine wpP_read (v := ?_) rfl (.inl ⟨by rfl, fun wx hbx => ?_⟩) ?_; rotate_left; (focus (obtain ⟨cx0, fx0, zx0⟩ := bk (show Below _ _ _ from hbx) (p12) (by first | omega | (simp; done) | (simp; omega)); go_simp; (try go_bits); (try with_reducible rfl))); try simp only [Act.put, List.setIfInBounds_toArray, List.set_cons_zero, List.set_cons_succ])
              (refine wpP_read (v := ?_) rfl (.inl ⟨by rfl, fun wx hbx => ?_⟩) ?_; rotate_left; (focus (obtain ⟨cx0, fx0⟩ := buts_bk (show ButS _ _ _ _ from hbx) (b := p12) (by first | omega | (simp; done) | (simp; omega)) (by first | assumption | omega | (simp; done) | (simp; omega)); go_simp; (try go_bits); (try with_reducible rfl))); try simp only [Act.put, List.setIfInBounds_toArray, List.set_cons_zero, List.set_cons_succ])
              (refine wpP_read (v := ?_) rfl (.inl ⟨by rfl, fun wx hbx => ?_⟩) ?_; rotate_left; (focus (obtain ⟨cx0, fx0⟩ := buts_bk (show ButS _ _ _ _ from hbx) (b := p12) (by first | omega | (simp; done) | (simp; omega)) (by first | assumption | omega | (simp; done) | (simp; omega)); go_simp; (try go_bits); (try with_reducible rfl))); try simp only [Act.put, List.setIfInBounds_toArray, List.set_cons_zero, List.set_cons_succ])
              (refine wpP_make rfl (fun K hK => ?_); go_simp; refine hK _ _ (ph2_next ?_) ?_; (focus (first | exact ph2_ov _ _ _ _ _ _ | exact ph2_ovd _ _ _ _ _ _ | exact ph2_ovdd _ _ _ _ _ _ | exact ph2_ovddd _ _ _ _ _ _)); clear hK K; try simp only [Act.put, List.setIfInBounds_toArray, List.set_cons_zero, List.set_cons_succ])
              (refine wpP_read (v := ?_) rfl (.inl ⟨by rfl, fun wx hbx => ?_⟩) ?_; rotate_left; (focus (obtain ⟨cx0, fx0⟩ := buts_bk (show ButS _ _ _ _ from hbx) (b := p12) (by first | omega | (simp; done) | (simp; omega)) (by first | assumption | omega | (simp; done) | (simp; omega)); go_simp; (try go_bits); (try with_reducible rfl))); try simp only [Act.put, List.setIfInBounds_toArray, List.set_cons_zero, List.set_cons_succ])
              (refine wpP_make rfl (fun K hK => ?_); go_simp; refine hK _ _ (ph2_last) ?_; clear hK K; try simp only [Act.put, List.setIfInBounds_toArray, List.set_cons_zero, List.set_cons_succ])
              refine wpP_nil ?_
              go_upto_region 25 with fail
              refine region_phases (ph2 (p13) _) [(0, 0, 0), (1, 0, 0), (2, 0, 0), (3, 0, 0), (4, 0, 0), (5, 0, 1), (6, 0, 1), (7, 0, 1), (8, 0, 1), (9, 0, 1), (10, 0, 0), (11, 0, 0), (12, 0, 0), (14, 0, 1), (15, 0, 1), (13, 1, 1), (16, 0, 1), (17, 1, 2)] (ph2_first _ _) (by kernel_rfl) (by kernel_rfl) (fun _ _ d _ _ h => by cases d <;> exact h) ?_
              (refine wpP_read (v := ?_) rfl (.inl ⟨by rfl, fun wx hbx => ?_⟩) ?_; rotate_left; (focus (obtain ⟨cx0, fx0, zx0⟩ := bk (show Below _ _ _ from hbx) (p12) (by first | omega | (simp; done) | (simp; omega)); go_simp; (try go_bits); (try with_reducible rfl))); try simp only [Act.put, List.setIfInBounds_toArray, List.set_cons_zero, List.set_cons_succ])
              (refine wpP_read (v := ?_) rfl (.inl ⟨by rfl, fun wx hbx => ?_⟩) ?_; rotate_left; (focus (obtain ⟨cx0, fx0, zx0⟩ := bk (show Below _ _ _ from hbx) (p12) (by first | omega | (simp; done) | (simp; omega)); go_simp; (try go_bits); (try with_reducible rfl))); try simp only [Act.put, List.setIfInBounds_toArray, List.set_cons_zero, List.set_cons_succ])
              (refine wpP_read (v := ?_) rfl (.inl ⟨by rfl, fun wx hbx => ?_⟩) ?_; rotate_left; (focus (obtain ⟨cx0, fx0, zx0⟩ := bk (show Below _ _ _ from hbx) (p12) (by first | omega | (simp; done) | (simp; omega)); go_simp; (try go_bits); (try with_reducible rfl))); try simp only [Act.put, List.setIfInBounds_toArray, List.set_cons_zero, List.set_cons_succ])
              (refine wpP_read (v := ?_) rfl (.inl ⟨by rfl, fun wx hbx => ?_⟩) ?_; rotate_left; (focus (obtain ⟨cx0, fx0, zx0⟩ := bk (show Below _ _ _ from hbx) (p12) (by first | omega | (simp; done) | (simp; omega)); go_simp; (try go_bits); (try with_reducible rfl))); try simp only [Act.put, List.setIfInBounds_toArray, List.set_cons_zero, List.set_cons_succ])
              (refine wpP_read (v := ?_) rfl (.inl ⟨by rfl, fun wx hbx => ?_⟩) ?_; rotate_left; (focus (obtain ⟨cx0, fx0, zx0⟩ := bk (show Below _ _ _ from hbx) (p12) (by first | omega | (simp; done) | (simp; omega)); go_simp; (try go_bits); (try with_reducible rfl))); try simp only [Act.put, List.setIfInBounds_toArray, List.set_cons_zero, List.set_cons_succ])
              (refine wpP_read (v := ?_) rfl (.inl ⟨by rfl, fun wx hbx => ?_⟩) ?_; rotate_left; (focus (obtain ⟨cx0, fx0⟩ := buts_bk (show ButS _ _ _ _ from hbx) (b := p12) (by first | omega | (simp; done) | (simp; omega)) (by first | assumption | omega | (simp; done) | (simp; omega)); go_simp; (try go_bits); (try with_reducible rfl))); try simp only [Act.put, List.setIfInBounds_toArray, List.set_cons_zero, List.set_cons_succ])
              (refine wpP_read (v := ?_) rfl (.inl ⟨by rfl, fun wx hbx => ?_⟩) ?_; rotate_left; (focus (obtain ⟨cx0, fx0⟩ := buts_bk (show ButS _ _ _ _ from hbx) (b := p12) (by first | omega | (simp; done) | (simp; omega)) (by first | assumption | omega | (simp; done) | (simp; omega)); go_simp; (try go_bits); (try with_reducible rfl))); try simp only [Act.put, List.setIfInBounds_toArray, List.set_cons_zero, List.set_cons_succ])
              (refine wpP_read (v := ?_) rfl (.inl ⟨by rfl, fun wx hbx => ?_⟩) ?_; rotate_left; (focus (obtain ⟨cx0, fx0⟩ := buts_bk (show ButS _ _ _ _ from hbx) (b := p12) (by first | omega | (simp; done) | (simp; omega)) (by first | assumption | omega | (simp; done) | (simp; omega)); go_simp; (try go_bits); (try with_reducible rfl))); try simp only [Act.put, List.setIfInBounds_toArray, List.set_cons_zero, List.set_cons_succ])
              (refine wpP_read (v := ?_) rfl (.inl ⟨by rfl, fun wx hbx => ?_⟩) ?_; rotate_left; (focus (obtain ⟨cx0, fx0⟩ := buts_bk (show ButS _ _ _ _ from hbx) (b := p12) (by first | omega | (simp; done) | (simp; omega)) (by first | assumption | omega | (simp; done) | (simp; omega)); go_simp; (try go_bits); (try with_reducible rfl))); try simp only [Act.put, List.setIfInBounds_toArray, List.set_cons_zero, List.set_cons_succ])
              (refine wpP_read (v := ?_) rfl (.inl ⟨by rfl, fun wx hbx => ?_⟩) ?_; rotate_left; (focus (obtain ⟨cx0, fx0⟩ := buts_bk (show ButS _ _ _ _ from hbx) (b := p12) (by first | omega | (simp; done) | (simp; omega)) (by first | assumption | omega | (simp; done) | (simp; omega)); go_simp; (try go_bits); (try with_reducible rfl))); try simp only [Act.put, List.setIfInBounds_toArray, List.set_cons_zero, List.set_cons_succ])
              (refine wpP_read (v := ?_) rfl (.inl ⟨by rfl, fun wx hbx => ?_⟩) ?_; rotate_left; (focus (obtain ⟨cx0, fx0, zx0⟩ := bk (show Below _ _ _ from hbx) (p12) (by first | omega | (simp; done) | (simp; omega)); go_simp; (try go_bits); (try with_reducible rfl))); try simp only [Act.put, List.setIfInBounds_toArray, List.set_cons_zero, List.set_cons_succ])
              (refine wpP_read (v := ?_) rfl (.inl ⟨by rfl, fun wx hbx => ?_⟩) ?_; rotate_left; (focus (obtain ⟨cx0, fx0, zx0⟩ := bk (show Below _ _ _ from hbx) (p12) (by first | omega | (simp; done) | (simp; omega)); go_simp; (try go_bits); (try with_reducible rfl))); try simp only [Act.put, List.setIfInBounds_toArray, List.set_cons_zero, List.set_cons_succ])
              (refine wpP_read (v := ?_) rfl (.inl ⟨by rfl, fun wx hbx => ?_⟩) ?_; rotate_left; (focus (obtain ⟨cx0, fx0, zx0⟩ := bk (show Below _ _ _ from hbx) (p12) (by first | omega | (simp; done) | (simp; omega)); go_simp; (try go_bits); (try with_reducible rfl))); try simp only [Act.put, List.setIfInBounds_toArray, List.set_cons_zero, List.set_cons_succ])
              (refine wpP_read (v := ?_) rfl (.inl ⟨by rfl, fun wx hbx => ?_⟩) ?_; rotate_left; (focus (obtain ⟨cx0, fx0⟩ := buts_bk (show ButS _ _ _ _ from hbx) (b := p12) (by first | omega | (simp; done) | (simp; omega)) (by first | assumption | omega | (simp; done) | (simp; omega)); go_simp; (try go_bits); (try with_reducible rfl))); try simp only [Act.put, List.setIfInBounds_toArray, List.set_cons_zero, List.set_cons_succ])
              (refine wpP_read (v := ?_) rfl (.inl ⟨by rfl, fun wx hbx => ?_⟩) ?_; rotate_left; (focus (obtain ⟨cx0, fx0⟩ := buts_bk (show ButS _ _ _ _ from hbx) (b := p12) (by first | omega | (simp; done) | (simp; omega)) (by first | assumption | omega | (simp; done) | (simp; omega)); go_simp; (try go_bits); (try with_reducible rfl))); try simp only [Act.put, List.setIfInBounds_toArray, List.set_cons_zero, List.set_cons_succ])
              (refine wpP_make rfl (fun K hK => ?_); go_simp; refine hK _ _ (ph2_next ?_) ?_; (focus (first | exact ph2_ov _ _ _ _ _ _ | exact ph2_ovd _ _ _ _ _ _ | exact ph2_ovdd _ _ _ _ _ _ | exact ph2_ovddd _ _ _ _ _ _)); clear hK K; try simp only [Act.put, List.setIfInBounds_toArray, List.set_cons_zero, List.set_cons_succ])
              (refine wpP_read (v := ?_) rfl (.inl ⟨by rfl, fun wx hbx => ?_⟩) ?_; rotate_left; (focus (obtain ⟨cx0, fx0⟩ := buts_bk (show ButS _ _ _ _ from hbx) (b := p12) (by first | omega | (simp; done) | (simp; omega)) (by first | assumption | omega | (simp; done) | (simp; omega)); go_simp; (try go_bits); (try with_reducible rfl))); try simp only [Act.put, List.setIfInBounds_toArray, List.set_cons_zero, List.set_cons_succ])
              (refine wpP_make rfl (fun K hK => ?_); go_simp; refine hK _ _ (ph2_last) ?_; clear hK K; try simp only [Act.put, List.setIfInBounds_toArray, List.set_cons_zero, List.set_cons_succ])
              refine wpP_nil ?_
              go_upto_region 26 with fail
              refine name_w (f := Code.wp _ _ _ _) (fun Z hZ => ?_)
              have hM6 : ∃ O, M26 l w Z pt bm 5 (blkL [⟨p6, W26 none 0 0, 29⟩, ⟨p10, W26 aL i cL, 29⟩, ⟨p12, c26 (nd26 l i) (tx26 l i), 121⟩, ⟨p13, (nodeC (nd26 l i).z (nd26 l i).au (1 + (nd26 l i).pos % 3) (1 + (nd26 l i).ov % 3) (tx26 l i) (.slice none 0 0) (pa26 l i)).toArray, 68⟩, ⟨p16, (styC (nd26 l i).z (nd26 l i).au (1 + (nd26 l i).pos % 3) (1 + (nd26 l i).ov % 3)).toArray, 74⟩]) bn i (i + 1) (i + 1) i aL cL R1 f2 O := by
                obtain ⟨O4, hM4⟩ := Mt.st HM5.out (q := 3) (by omega) (nodeC (nd26 l i).z (nd26 l i).au (1 + (nd26 l i).pos % 3) (1 + (nd26 l i).ov % 3) (tx26 l i) (.slice none 0 0) (pa26 l i)).toArray (B' := blkL [⟨p6, W26 none 0 0, 29⟩, ⟨p10, W26 aL i cL, 29⟩, ⟨p12, c26 (nd26 l i) (tx26 l i), 121⟩, ⟨p13, (nodeC (nd26 l i).z (nd26 l i).au (1 + (nd26 l i).pos % 3) (1 + (nd26 l i).ov % 3) (tx26 l i) (.slice none 0 0) (pa26 l i)).toArray, 68⟩, ⟨p16, (styC (nd26 l i).z (nd26 l i).au (1 + (nd26 l i).pos % 3) (1 + (nd26 l i).ov % 3)).toArray, 74⟩]) (fun r hr => by rcases r with _ | _ | _ | _ | _ | r; rfl; rfl; rfl; rfl; rfl; omega)
                exact ⟨_, by rw [hZ]; exact Mt.below hM4 (Below.refl _ _).drew.drew⟩
              obtain ⟨O6', hM6⟩ := hM6
              have HM6 := Lib.hid hM6
              clear hM6 hZ HM5 e12 l12 o12 l13 H13 H12 n1
              have H10 : Has Z p10 #[.slice aL i cL, .int .i64 0, .int .i64 0] 29 := Wd.has HM6.out.wd 1 (by omega)
              have H13 : Has Z p13 (nodeC (nd26 l i).z (nd26 l i).au (1 + (nd26 l i).pos % 3) (1 + (nd26 l i).ov % 3) (tx26 l i) (.slice none 0 0) (pa26 l i)).toArray 68 := Wd.has HM6.out.wd 3 (by omega)
              have e10 := H10.cells; have l10 := H10.lt; have o10 : Old Z p10 := l10
              have hbk : blkCells Z p13 = (nodeC (nd26 l i).z (nd26 l i).au (1 + (nd26 l i).pos % 3) (1 + (nd26 l i).ov % 3) (tx26 l i) (.slice none 0 0) (pa26 l i)).toArray := blkCells_has H13
              have hbs : (blkCells Z p13).size = 65 := by rw [hbk]; rfl
              have hld := bign_l Z p13 hbs
              rw [hbk] at hld
              have hrow := HM6.out.wd.fam.row 0 (by omega)
              rw [HM6.out.f0] at hrow
              dsimp only at hrow
              have HROW := Lib.hid hrow
              have hsz : w.heap.size ≤ Z.heap.size := HM6.out.wd.size
              have hi60 : i < 60 := by have := ci; unfold cnt26 at this; omega
              have hVi : V26 l i (f2 (1 + i)).v = (nodeC (nd26 l i).z (nd26 l i).au (1 + (nd26 l i).pos % 3) (1 + (nd26 l i).ov % 3) (tx26 l i) (.slice none 0 0) (pa26 l i)) := by rw [HF2.out]; rfl
              have HVI := Lib.hid hVi
              obtain ⟨i0, hi, hz0, hz1, hz2⟩ := info_parts (show (Try.prog.info? 68).map (fun i => (i.zero, i.size, i.bytes)) = some (some (.agg (nodeC 0 false 0 0 false (.slice none 0 0) 0).toArray), 65, 552) by kernel_rfl)
              clear hrow H10 H13 hbk hbs hVi
              go_wp2_with (at_builtin; refine wpList_append_id _ rfl _ _ 27 rfl w.heap.size 68 i0 (.agg (nodeC 0 false 0 0 false (.slice none 0 0) 0).toArray) 65 552 Try.underlying27 hi hz0 hz1 hz2 rfl (by decide) _ _ _ rfl (HROW.out.alloc _) ⟨Z.heap.size, 0, none⟩ 1 1 (nodeC (nd26 l i).z (nd26 l i).au (1 + (nd26 l i).pos % 3) (1 + (nd26 l i).ov % 3) (tx26 l i) (.slice none 0 0) (pa26 l i)) rfl rfl ?p11 ?p12 ?p13 ?p14 ?p15 (by decide) ?_)
              case p11 => exact newi_at (by simp)
              case p12 => exact one_of rfl
              case p13 => unfold maxLen; omega
              case p14 => omega
              case p15 => simp; omega
              intro v' X1 hown hgrow hid
              obtain ⟨a0', ca0', rfl, _, _⟩ := row_reads hown
              replace hgrow : (Z.alloc (.cells (nodeC (nd26 l i).z (nd26 l i).au (1 + (nd26 l i).pos % 3) (1 + (nd26 l i).ov % 3) (tx26 l i) (.slice none 0 0) (pa26 l i)).toArray 68)).grownBy X1 (Value.slice aL i cL).ownBlock := hgrow
              replace hid : (Value.slice a0' (i + 1) ca0').ownBlock = (Value.slice aL i cL).ownBlock ∧ X1.heap.size = (Z.alloc (.cells (nodeC (nd26 l i).z (nd26 l i).au (1 + (nd26 l i).pos % 3) (1 + (nd26 l i).ov % 3) (tx26 l i) (.slice none 0 0) (pa26 l i)).toArray 68)).heap.size ∨ (Value.slice a0' (i + 1) ca0').ownBlock = some (Z.alloc (.cells (nodeC (nd26 l i).z (nd26 l i).au (1 + (nd26 l i).pos % 3) (1 + (nd26 l i).ov % 3) (tx26 l i) (.slice none 0 0) (pa26 l i)).toArray 68)).heap.size ∧ (Z.alloc (.cells (nodeC (nd26 l i).z (nd26 l i).au (1 + (nd26 l i).pos % 3) (1 + (nd26 l i).ov % 3) (tx26 l i) (.slice none 0 0) (pa26 l i)).toArray 68)).heap.size < X1.heap.size := by rw [World.size_alloc]; exact hid
              obtain ⟨g1, Og1, hg1, hM1⟩ := (Mt.below (w' := Z.alloc (.cells (nodeC (nd26 l i).z (nd26 l i).au (1 + (nd26 l i).pos % 3) (1 + (nd26 l i).ov % 3) (tx26 l i) (.slice none 0 0) (pa26 l i)).toArray 68)) HM6.out ((Below.refl _ _).alloc (Nat.le_refl _) _)).app0 (by omega) (a' := a0') (c' := ca0') (by rw [HVI.out]; exact hown) hgrow hid
              have h10 : Has X1 p10 #[.slice aL i cL, .int .i64 0, .int .i64 0] 29 := Wd.has hM1.wd 1 (by omega)
              have z10 := h10.lt
              rw [← ov_self h10]
              clear e10 l10 o10 hown hgrow hid h10 i0 hi hz0 hz1 hz2 HROW hld
              go_upto_region 27 with fail
              refine name_w (f := Code.wp _ _ _ _) (fun Y1 hX => ?_)
              have hN1 : ∃ O, M26 l w Y1 pt bm 5 (blkL [⟨p6, W26 none 0 0, 29⟩, ⟨p10, W26 a0' (i + 1) ca0', 29⟩, ⟨p12, c26 (nd26 l i) (tx26 l i), 121⟩, ⟨p13, (nodeC (nd26 l i).z (nd26 l i).au (1 + (nd26 l i).pos % 3) (1 + (nd26 l i).ov % 3) (tx26 l i) (.slice none 0 0) (pa26 l i)).toArray, 68⟩, ⟨p16, (styC (nd26 l i).z (nd26 l i).au (1 + (nd26 l i).pos % 3) (1 + (nd26 l i).ov % 3)).toArray, 74⟩]) bn i (i + 1) (i + 1) (i + 1) a0' ca0' R1 g1 O := by
                obtain ⟨O, q⟩ := hM1.st (q := 1) (by omega) (W26 a0' (i + 1) ca0') (B' := blkL [⟨p6, W26 none 0 0, 29⟩, ⟨p10, W26 a0' (i + 1) ca0', 29⟩, ⟨p12, c26 (nd26 l i) (tx26 l i), 121⟩, ⟨p13, (nodeC (nd26 l i).z (nd26 l i).au (1 + (nd26 l i).pos % 3) (1 + (nd26 l i).ov % 3) (tx26 l i) (.slice none 0 0) (pa26 l i)).toArray, 68⟩, ⟨p16, (styC (nd26 l i).z (nd26 l i).au (1 + (nd26 l i).pos % 3) (1 + (nd26 l i).ov % 3)).toArray, 74⟩]) (fun r hr => by rcases r with _ | _ | _ | _ | _ | r; rfl; rfl; rfl; rfl; rfl; omega)
                exact ⟨O, by rw [hX]; exact q⟩
              obtain ⟨On1, hN1⟩ := hN1
              have HN1 := Lib.hid hN1
              clear hN1 hM1 hX HM6 z10 hg1 hsz
              have H12 : Has Y1 p12 #[.int .u8 (nd26 l i).p, .int .u8 (nd26 l i).pos, .int .u8 (nd26 l i).ov, .int .i8 (nd26 l i).z, .bool (nd26 l i).au, .bool (tx26 l i)] 121 := Wd.has HN1.out.wd 2 (by omega)
              have H16 : Has Y1 p16 (styC (nd26 l i).z (nd26 l i).au (1 + (nd26 l i).pos % 3) (1 + (nd26 l i).ov % 3)).toArray 74 := Wd.has HN1.out.wd 4 (by omega)
              have e12 := H12.cells; have l12 := H12.lt; have o12 : Old Y1 p12 := l12
              have hbk : blkCells Y1 p16 = (styC (nd26 l i).z (nd26 l i).au (1 + (nd26 l i).pos % 3) (1 + (nd26 l i).ov % 3)).toArray := blkCells_has H16
              have hld := bigs_l Y1 p16 (by rw [hbk]; rfl)
              rw [hbk] at hld
              have kbn : MapOk Y1 bn := HN1.out.wd.mok 0 (by omega)
              clear H12 H16 hbk
              obtain ⟨O12, hM12⟩ := HN1.out.put (q := 0) (by omega) i (lay26 l i) (M' := fun _ => ⟨bn, m26 l (i + 1)⟩) (fun r hr => ⟨rfl, fun y => by
                have : r = 0 := by omega
                subst this
                rw [if_pos rfl]
                show m26 l (i + 1) y = if y = i then some (lay26 l i) else m26 l i y
                unfold m26
                by_cases c : y = i
                · subst c; rw [if_pos ⟨by omega, by omega⟩, if_pos rfl, Int.toNat_natCast]
                · rw [if_neg c]
                  by_cases c2 : 0 ≤ y ∧ y < i
                  · rw [if_pos c2, if_pos ⟨c2.1, by omega⟩]
                  · rw [if_neg c2, if_neg (fun q => c2 ⟨q.1, by omega⟩)]⟩)
              have HM12 := Lib.hid hM12
              clear hM12
              go_wp2_with fail
              refine ⟨⟨i + 1, a0', ca0', R1, g1, O12, by push_cast; rfl, ci, Mt.blks HM12.out (fun q hq => by rcases q with _ | _ | q; rfl; rfl; omega) (by omega)⟩, by simp only [intOf]; omega⟩
      · rw [show decide (i < cnt26 l most) = false from by simpa using ci]
        have H10 : Has wr p10 #[.slice aL i cL, .int .i64 0, .int .i64 0] 29 := Wd.has HM.out.wd 1 (by omega)
        have H6 : Has wr p6 #[.slice none 0 0, .int .i64 0, .int .i64 0] 29 := Wd.has HM.out.wd 0 (by omega)
        have hne : ¬ p10 = p6 := Wd.bne HM.out.wd 1 0 (by omega) (by omega) (by omega)
        have e10 := H10.cells; have l10 := H10.lt; have o10 : Old wr p10 := l10; have z0 := H6.lt; have f10 := H10.frozen
        rw [← ov_self H6]
        clear H10
        go_upto_region 28 with fail
        refine region_ord [(0, 0), (1, 0), (2, 0), (3, 0), (4, 0), (5, 2), (6, 2)] (by kernel_rfl) (by kernel_rfl) (fun _ _ d _ _ h => by cases d <;> exact h) (fun hS => ?_)
        (refine wpG_read (v := ?_) rfl (.inl ⟨by rfl, fun wx hbx => ?_⟩) ?_; rotate_left; (focus (obtain ⟨cx0, fx0, zx0⟩ := bk hbx (p10) (by first | omega | (simp; done) | (simp; omega)); have bx0 := bkB hbx (p10) (by first | omega | (simp; done) | (simp; omega)); go_simp; (try go_bits); (try with_reducible rfl))); try simp only [Act.put, List.setIfInBounds_toArray, List.set_cons_zero, List.set_cons_succ])
        (refine wpG_read (v := ?_) rfl (.inl ⟨by rfl, fun wx hbx => ?_⟩) ?_; rotate_left; (focus (obtain ⟨cx0, fx0, zx0⟩ := bk hbx (p10) (by first | omega | (simp; done) | (simp; omega)); have bx0 := bkB hbx (p10) (by first | omega | (simp; done) | (simp; omega)); go_simp; (try go_bits); (try with_reducible rfl))); try simp only [Act.put, List.setIfInBounds_toArray, List.set_cons_zero, List.set_cons_succ])
        (refine wpG_read (v := ?_) rfl (.inl ⟨by rfl, fun wx hbx => ?_⟩) ?_; rotate_left; (focus (obtain ⟨cx0, fx0, zx0⟩ := bk hbx (p10) (by first | omega | (simp; done) | (simp; omega)); have bx0 := bkB hbx (p10) (by first | omega | (simp; done) | (simp; omega)); go_simp; (try go_bits); (try with_reducible rfl))); try simp only [Act.put, List.setIfInBounds_toArray, List.set_cons_zero, List.set_cons_succ])
        (refine wpG_read (v := ?_) rfl (.inl ⟨by rfl, fun wx hbx => ?_⟩) ?_; rotate_left; (focus (obtain ⟨cx0, fx0, zx0⟩ := bk hbx (p10) (by first | omega | (simp; done) | (simp; omega)); have bx0 := bkB hbx (p10) (by first | omega | (simp; done) | (simp; omega)); go_simp; (try go_bits); (try with_reducible rfl))); try simp only [Act.put, List.setIfInBounds_toArray, List.set_cons_zero, List.set_cons_succ])
        (refine wpG_read (v := ?_) rfl (.inl ⟨by rfl, fun wx hbx => ?_⟩) ?_; rotate_left; (focus (obtain ⟨cx0, fx0, zx0⟩ := bk hbx (p10) (by first | omega | (simp; done) | (simp; omega)); have bx0 := bkB hbx (p10) (by first | omega | (simp; done) | (simp; omega)); go_simp; (try go_bits); (try with_reducible rfl))); try simp only [Act.put, List.setIfInBounds_toArray, List.set_cons_zero, List.set_cons_succ])
        (refine wpG_late rfl (fun K hK => ?_); go_simp; (try simp only []); (try simp only []); refine hK _ _ ?_; clear hK K; try simp only [Act.put, List.setIfInBounds_toArray, List.set_cons_zero, List.set_cons_succ])
        (refine wpG_late rfl (fun K hK => ?_); go_simp; (try simp only []); (try simp only []); refine hK _ _ ?_; clear hK K; try simp only [Act.put, List.setIfInBounds_toArray, List.set_cons_zero, List.set_cons_succ])
        refine wpG_nil ?_
        go_wp2_with fail
        refine bodyPost_ret (by simp [results, Try.results17, go_sem, z0]; try rfl) rfl ?_
        obtain rfl : i = cnt26 l most := by omega
        obtain ⟨OE, hME⟩ := HM.out.st (q := 0) (by omega) (W26 aL (cnt26 l most) cL) (B' := blkL [⟨p6, W26 aL (cnt26 l most) cL, 29⟩, ⟨p10, W26 aL (cnt26 l most) cL, 29⟩]) (fun r hr => by rcases r with _ | _ | r; rfl; rfl; omega)
        exact ⟨pt, bm, bn, aL, cL, R, f, _, rfl, Mt.below (Mt.blks hME (m' := 0) (B' := blkL []) (fun q hq => by omega) (by omega)) ((Below.refl _ _).drew)⟩
end Go.Proofs.Ytjcbphhemmdnjaa
