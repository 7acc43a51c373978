/- law23 (scroll): the world made, walked. -/
import Derived.Test.YtjcbphhemmdnjaaScrC
import Derived.Deep.MidRow
namespace Go.Proofs.Ytjcbphhemmdnjaa
open Go Go.RowKit
set_option linter.unusedSimpArgs false
set_option linter.unusedVariables false
-- below_from_drew
attribute [local go_sem] ov_cell_same ov_cell_other ov_frozen_same ov_frozen_other ov_size ov_setCell_same ov_setCell_other cell_alloc_old frozen_alloc_old setCell_alloc_old old_alloc old_ov old_drew old_drewN old_setCell
attribute [local go_sem ↓] run_max2 run_min2
theorem bign_xl {ρ : Operand → Value} {d : Option Tmp} {t : TypeId} {x : Operand} {po : String} {af : Array Edge} {g : Option (Nat × Bool)} (w : World) : (execOp ρ ⟨d, .load 68 x, t, po, af, g⟩).run Try.prog w = runLoad Try.prog 68 (ρ x) w := exec_load w
theorem bign_xs {ρ : Operand → Value} {d : Option Tmp} {t : TypeId} {x y : Operand} {po : String} {af : Array Edge} {g : Option (Nat × Bool)} (w : World) : (execOp ρ ⟨d, .store 68 x y, t, po, af, g⟩).run Try.prog w = runStore Try.prog 68 (ρ x) (ρ y) w := exec_store w
theorem bign_l (w : World) (b : Nat) (h : (blkCells w b).size = 65) : runLoad Try.prog 68 (.pointer (some ⟨b, 0, none⟩)) w = .ok (.value (.agg (blkCells w b))) w := runLoad_blk Try.underlying68 rfl (by kernel_rfl) (by omega) w b h
theorem bign_s (w : World) (b : Nat) (l : List Value) (h : (blkCells w b).size = 65) (hl : l.length = 65) (h1 : allOne l = true) : runStore Try.prog 68 (.pointer (some ⟨b, 0, none⟩)) (.agg l.toArray) w = .ok .skip (putBlk w b l.toArray) := runStore_blk (by kernel_rfl) (by omega) w b l h hl h1
theorem bigs_xl {ρ : Operand → Value} {d : Option Tmp} {t : TypeId} {x : Operand} {po : String} {af : Array Edge} {g : Option (Nat × Bool)} (w : World) : (execOp ρ ⟨d, .load 74 x, t, po, af, g⟩).run Try.prog w = runLoad Try.prog 74 (ρ x) w := exec_load w
theorem bigs_xs {ρ : Operand → Value} {d : Option Tmp} {t : TypeId} {x y : Operand} {po : String} {af : Array Edge} {g : Option (Nat × Bool)} (w : World) : (execOp ρ ⟨d, .store 74 x y, t, po, af, g⟩).run Try.prog w = runStore Try.prog 74 (ρ x) (ρ y) w := exec_store w
theorem bigs_l (w : World) (b : Nat) (h : (blkCells w b).size = 62) : runLoad Try.prog 74 (.pointer (some ⟨b, 0, none⟩)) w = .ok (.value (.agg (blkCells w b))) w := runLoad_blk Try.underlying74 rfl (by kernel_rfl) (by omega) w b h
theorem bigs_s (w : World) (b : Nat) (l : List Value) (h : (blkCells w b).size = 62) (hl : l.length = 62) (h1 : allOne l = true) : runStore Try.prog 74 (.pointer (some ⟨b, 0, none⟩)) (.agg l.toArray) w = .ok .skip (putBlk w b l.toArray) := runStore_blk (by kernel_rfl) (by omega) w b l h hl h1
theorem bigb_xl {ρ : Operand → Value} {d : Option Tmp} {t : TypeId} {x : Operand} {po : String} {af : Array Edge} {g : Option (Nat × Bool)} (w : World) : (execOp ρ ⟨d, .load 108 x, t, po, af, g⟩).run Try.prog w = runLoad Try.prog 108 (ρ x) w := exec_load w
theorem bigb_xs {ρ : Operand → Value} {d : Option Tmp} {t : TypeId} {x y : Operand} {po : String} {af : Array Edge} {g : Option (Nat × Bool)} (w : World) : (execOp ρ ⟨d, .store 108 x y, t, po, af, g⟩).run Try.prog w = runStore Try.prog 108 (ρ x) (ρ y) w := exec_store w
theorem bigb_l (w : World) (b : Nat) (h : (blkCells w b).size = 17) : runLoad Try.prog 108 (.pointer (some ⟨b, 0, none⟩)) w = .ok (.value (.agg (blkCells w b))) w := runLoad_blk Try.underlying108 rfl (by kernel_rfl) (by omega) w b h
theorem bigb_s (w : World) (b : Nat) (l : List Value) (h : (blkCells w b).size = 17) (hl : l.length = 17) (h1 : allOne l = true) : runStore Try.prog 108 (.pointer (some ⟨b, 0, none⟩)) (.agg l.toArray) w = .ok .skip (putBlk w b l.toArray) := runStore_blk (by kernel_rfl) (by omega) w b l h hl h1
theorem bigy_xl {ρ : Operand → Value} {d : Option Tmp} {t : TypeId} {x : Operand} {po : String} {af : Array Edge} {g : Option (Nat × Bool)} (w : World) : (execOp ρ ⟨d, .load 44 x, t, po, af, g⟩).run Try.prog w = runLoad Try.prog 44 (ρ x) w := exec_load w
theorem bigy_xs {ρ : Operand → Value} {d : Option Tmp} {t : TypeId} {x y : Operand} {po : String} {af : Array Edge} {g : Option (Nat × Bool)} (w : World) : (execOp ρ ⟨d, .store 44 x y, t, po, af, g⟩).run Try.prog w = runStore Try.prog 44 (ρ x) (ρ y) w := exec_store w
theorem bigy_l (w : World) (b : Nat) (h : (blkCells w b).size = 18) : runLoad Try.prog 44 (.pointer (some ⟨b, 0, none⟩)) w = .ok (.value (.agg (blkCells w b))) w := runLoad_blk Try.underlying44 rfl (by kernel_rfl) (by omega) w b h
theorem bigy_s (w : World) (b : Nat) (l : List Value) (h : (blkCells w b).size = 18) (hl : l.length = 18) (h1 : allOne l = true) : runStore Try.prog 44 (.pointer (some ⟨b, 0, none⟩)) (.agg l.toArray) w = .ok .skip (putBlk w b l.toArray) := runStore_blk (by kernel_rfl) (by omega) w b l h hl h1
attribute [local go_sem ↓] bign_xl bign_xs bigs_xl bigs_xs bigb_xl bigb_xs bigy_xl bigy_xs
attribute [local go_sem] bign_l bign_s bigs_l bigs_s bigb_l bigb_s bigy_l bigy_s blkCells_ov_same blkCells_ov_other blkCells_new blkCells_old blkCells_drew blkCells_drewN putBlk_ov_same putBlk_ov_other putBlk_new putBlk_old putBlk_drew putBlk_drewN putBlk_size allOne_nil allOne_int allOne_bool allOne_slice allOne_pointer allOne_map allOne_string
theorem loadN_has {W : World} {b : Nat} {cs : Array Value} {T : TypeId} (h : Has W b cs T) (hs : cs.size = 65) : runLoad Try.prog 68 (.pointer (some ⟨b, 0, none⟩)) W = .ok (.value (.agg cs)) W := by
  have := bign_l W b (by rw [blkCells_has h]; exact hs)
  rw [blkCells_has h] at this
  exact this
theorem loadY_has {W : World} {b : Nat} {cs : Array Value} {T : TypeId} (h : Has W b cs T) (hs : cs.size = 18) : runLoad Try.prog 44 (.pointer (some ⟨b, 0, none⟩)) W = .ok (.value (.agg cs)) W := by
  have := bigy_l W b (by rw [blkCells_has h]; exact hs)
  rw [blkCells_has h] at this
  exact this
theorem loadB_has {W : World} {b : Nat} {cs : Array Value} {T : TypeId} (h : Has W b cs T) (hs : cs.size = 17) : runLoad Try.prog 108 (.pointer (some ⟨b, 0, none⟩)) W = .ok (.value (.agg cs)) W := by
  have := bigb_l W b (by rw [blkCells_has h]; exact hs)
  rw [blkCells_has h] at this
  exact this
theorem loadS_has {W : World} {b : Nat} {cs : Array Value} {T : TypeId} (h : Has W b cs T) (hs : cs.size = 62) : runLoad Try.prog 74 (.pointer (some ⟨b, 0, none⟩)) W = .ok (.value (.agg cs)) W := by
  have := bigs_l W b (by rw [blkCells_has h]; exact hs)
  rw [blkCells_has h] at this
  exact this
theorem b22V_there (l : List N23) (i b : Nat) : (b22V l i b)[0]? = some (.bool (there23 l i)) := by
  unfold b22V byV
  rcases h : there23 l i with _ | _
  · rfl
  · rw [if_pos rfl]; split <;> rfl
theorem put_lay23 {w : World} {b : Nat} {k : Int} {v : Value} (h : MapOk w b) : (Instr.mapUpdate 25 (.map (some b)) (.int .i64 k) v).run Try.prog w = .ok () (putM w b k v) := run_putM Try.underlying25 Try.underlying3 k v h
theorem put_box23 {w : World} {b : Nat} {k : Int} {v : Value} (h : MapOk w b) : (Instr.mapUpdate 26 (.map (some b)) (.int .i64 k) v).run Try.prog w = .ok () (putM w b k v) := run_putM Try.underlying26 Try.underlying3 k v h
theorem exec_two23 {P : Program} {ρ : Operand → Value} {d : Option Tmp} {ty t : TypeId} {k j : Nat} {x y : Operand} {po : String} {af : Array Edge} {g : Option (Nat × Bool)} (w : World) : (execOp ρ ⟨d, .build ty #[(k, x), (j, y)], t, po, af, g⟩).run P w = runBuild P ty #[(k, ρ x), (j, ρ y)] w := by
  have e : (#[(k, x), (j, y)] : Array (Nat × Operand)).map (fun (i, x) => (i, ρ x)) = #[(k, ρ x), (j, ρ y)] := by simp
  unfold runBuild
  rw [← e]
  rfl
theorem exec_build23 {ρ : Operand → Value} {d : Option Tmp} {t : TypeId} {x y : Operand} {po : String} {af : Array Edge} {g : Option (Nat × Bool)} (w : World) : (execOp ρ ⟨d, .build 68 #[(1, x), (4, y)], t, po, af, g⟩).run Try.prog w = runBuild Try.prog 68 #[(1, ρ x), (4, ρ y)] w := exec_two23 w
set_option maxRecDepth 100000 in
theorem runBuild23 (x : Bool) (p : Int) (w : World) : runBuild Try.prog 68 #[(1, .bool x), (4, .int .i64 p)] w = .ok (.value (.agg (nodeC 0 false 0 0 x (.slice none 0 0) p).toArray)) w := by kernel_rfl
theorem exec_lay23 {ρ : Operand → Value} {d : Option Tmp} {t : TypeId} {x y : Operand} {po : String} {af : Array Edge} {g : Option (Nat × Bool)} (w : World) : (execOp ρ ⟨d, .build 77 #[(0, x), (1, y)], t, po, af, g⟩).run Try.prog w = runBuild Try.prog 77 #[(0, ρ x), (1, ρ y)] w := exec_two23 w
set_option maxRecDepth 100000 in
theorem runLay23 (z : Int) (au : Bool) (p o : Int) (tx : Bool) (w : World) : runBuild Try.prog 77 #[(0, .agg (styC z au p o).toArray), (1, .bool tx)] w = .ok (.value (.agg (layC z au p o tx).toArray)) w := by kernel_rfl
theorem exec_sl23 {ρ : Operand → Value} {d : Option Tmp} {t : TypeId} {x : Operand} {po : String} {af : Array Edge} {g : Option (Nat × Bool)} (w : World) : (execOp ρ ⟨d, .buildSlice 27 1 #[(0, x)], t, po, af, g⟩).run Try.prog w = runBuildSl Try.prog 27 1 #[(0, ρ x)] w := exec_buildSl1 w
set_option maxRecDepth 100000 in
theorem runSl23 (z : Int) (au : Bool) (p o : Int) (tx : Bool) (par : Int) (w : World) : runBuildSl Try.prog 27 1 #[(0, .agg (nodeC z au p o tx (.slice none 0 0) par).toArray)] w = .ok (.value (.slice (some ⟨w.heap.size, 0, none⟩) 1 1)) (w.alloc (.cells (nodeC z au p o tx (.slice none 0 0) par).toArray 68)) := by kernel_rfl
set_option maxRecDepth 100000 in
theorem bign_C (X : World) (b : Nat) (z : Int) (au : Bool) (p o : Int) (tx : Bool) (kv : Value) (par : Int) (h : (blkCells X b).size = 65) (hk : kv = .slice none 0 0) : runStore Try.prog 68 (.pointer (some ⟨b, 0, none⟩)) (.agg (nodeC z au p o tx kv par).toArray) X = .ok .skip (putBlk X b (nodeC z au p o tx kv par).toArray) := by
  subst hk; exact bign_s X b _ h rfl rfl
attribute [local go_sem ↓] exec_build23 exec_lay23 exec_sl23 exec_slY exec_buildY0
attribute [local go_sem] storeY_mid del_box mapOk_drew put_lay23 put_box23 runBuild23 runLay23 runSl23 runSlY byV_len bxV_len nodeC_s51 nodeC_t51 styC_s51 styC_t51
theorem m23_start {l : List N23} {w u : World} {pt bm : Nat} (ht : TreeAt u pt bm (fun b => (w.alloc (.cells z23 32)).heap.size ≤ b) [(0, 0)] 1) (h1 : (w.alloc (.cells z23 32)).heap.size ≤ pt) (h2 : (w.alloc (.cells z23 32)).heap.size ≤ bm) (hb : Below (w.alloc (.cells z23 32)).heap.size (w.alloc (.cells z23 32)) u) :
    ∃ B f O, B 0 = ⟨w.heap.size, z23, 32⟩ ∧ B 1 = ⟨u.heap.size + 1 + 1, w23C pt u.heap.size (u.heap.size + 1) (.slice none 0 0) (.slice none 0 0), 32⟩ ∧
      M23 l w (((u.alloc (.map #[] 0)).alloc (.map #[] 0)).alloc (.cells (w23C pt u.heap.size (u.heap.size + 1) (.slice none 0 0) (.slice none 0 0)) 32)) pt bm 2 B u.heap.size (u.heap.size + 1) (fun _ => (0, 0)) 0 0 0 0 0 0 0 0 none 0 none 0 [(0, 0)] f O := by
  rw [World.size_alloc] at h1 h2
  have hs : w.heap.size + 1 ≤ u.heap.size := by have := hb.size; rw [World.size_alloc] at this; exact this
  have hp : Has u w.heap.size z23 32 := has_below hb (has_new rfl)
  have H0 := Wd.begin2 (w0 := w) (T := 32) (cs := z23) ht (by simp) hp h1 h2 (((Below.refl w.heap.size w).alloc (Nat.le_refl _) _).trans (hb.mono (by simp))) (fun _ => ⟨0, 0, .slice none 0 0, 0, []⟩) (fun _ => ⟨0, fun _ => none⟩)
  have H3 := (H0.newMap.newMap).alloc (w23C pt u.heap.size (u.heap.size + 1) (.slice none 0 0) (.slice none 0 0)) 32
  have H5 := H3.maps (M' := M23m l u.heap.size (u.heap.size + 1) (fun _ => (0, 0)) 0 0) (fun q hq => by
    rcases q with _ | _ | q
    · refine ⟨rfl, fun x => ?_⟩
      show m23n l 0 x = none
      unfold m23n; rw [if_neg (by omega)]
    · refine ⟨?_, fun x => ?_⟩
      · show u.heap.size + 1 = (u.alloc (.map #[] 0)).heap.size
        rw [World.size_alloc]
      · show m23b l (fun _ => (0, 0)) 0 x = none
        unfold m23b; rw [if_neg (by omega)]
    · omega)
  have H6 := (H5.row 68 65).row 44 18
  refine ⟨_, _, _, rfl, ?_, ⟨⟨H6, Pt.one _, by omega, fun i v => nodeC_len _ _ _ _ _ _ _, rfl, fun k hk => by omega⟩, rfl, Nat.le_refl _, fun k hk => by omega⟩⟩
  show (⟨((u.alloc (.map #[] 0)).alloc (.map #[] 0)).heap.size, _, _⟩ : BlkT) = _
  rw [World.size_alloc, World.size_alloc]
set_option maxRecDepth 100000 in
set_option maxHeartbeats 20000000 in
theorem made23_any (a : Option Addr) (n c : Nat) (l : List N23) (w : World) (hn : l.length = n) (hn1 : n ≤ c) (hc : c ≤ 9223372036854775807) (h : N23sAt w a l) :
    Calls Try.prog 11 #[.slice a n c] w (Made23 l w) := by
  have HN := Lib.hid hn; have HA := Lib.hid h
  clear hn h
  have hmm := @run_makeMap Try.prog
  go_enter Try.func11, Try.ntmps11
  go_wp2_with ((go_at_call 32); (with_reducible refine (tnew_any _).mono ?_); rintro e u ⟨pt, bm, rfl, ht, hpt, hbm, hb⟩)
  refine name_w (f := Code.wp _ _ _ _) (fun X hX => ?_)
  have hM0 : ∃ p4 bn bx B f O, u.heap.size + 1 + 1 = p4 ∧ u.heap.size = bn ∧ u.heap.size + 1 = bx ∧ B 0 = ⟨w.heap.size, z23, 32⟩ ∧ B 1 = ⟨p4, w23C pt bn bx (.slice none 0 0) (.slice none 0 0), 32⟩ ∧ M23 l w X pt bm 2 B bn bx (fun _ => (0, 0)) 0 0 0 0 0 0 0 0 none 0 none 0 [(0, 0)] f O := by
    obtain ⟨B, f, O, q1, q2, q⟩ := m23_start (l := l) ht hpt hbm hb
    exact ⟨_, _, _, B, f, O, rfl, rfl, rfl, q1, q2, by rw [hX]; exact q⟩
  obtain ⟨p4, bn, bx, B0, f0, O0, hp4, hbn, hbx, hB0, hB1, hM⟩ := hM0
  obtain ⟨p2, hp2⟩ : ∃ k, w.heap.size = k := ⟨_, rfl⟩
  rw [hp4, hbx, hbn, hp2]
  rw [hp2] at hB0
  have HP2 := Lib.hid hp2
  clear hp2
  have HM := Lib.hid hM; have HB0 := Lib.hid hB0; have HB1 := Lib.hid hB1
  clear hM hX hp4 hbn hbx ht hpt hbm hb hB0 hB1
  go_loopw [5] (fun iv wr => ∃ i m B g aL cL a1 c1 R f O, iv = .int .i64 ((i : Nat) : Int) ∧ i ≤ cnt23 l ∧ M23 l w wr pt bm m B bn bx g i i i i i i i i aL cL a1 c1 R f O ∧ b23 p2 p4 pt bn bx i aL cL a1 c1 B) (fun iv _ => 20 - (intOf iv).toNat)
  case atStart => exact ⟨0, _, _, _, _, _, _, _, _, _, _, rfl, Nat.zero_le _, HM.out, HB0.out, HB1.out⟩
  case round =>
    clear HM HB0 HB1
    obtain ⟨i, m, B, g, aL, cL, a1, c1, R, f, O, rfl, hic, hM, hB⟩ := hrel
    have HM := Lib.hid hM; have HB := Lib.hid hB
    clear hM hB
    go_upto_region 3 with fail
    go_cut [30] (fun s wx => s = .bool (decide (i < cnt23 l)) ∧ wx = wr)
    case first =>
      as_aux_lemma =>
        have hln := HN.out
        have c1 : (i < n ∧ i < 14) ∨ (i < n ∧ 14 ≤ i) ∨ (n ≤ i ∧ i = 0) ∨ (n ≤ i ∧ 0 < i) := by omega
        rcases c1 with ⟨c1, c2⟩ | ⟨c1, c2⟩ | ⟨c1, c2⟩ | ⟨c1, c2⟩
        · have e1 : (i : Int) < n := by omega
          have e2 : (i : Int) < 14 := by omega
          go_wp2_with fail
          go_meet
          exact ⟨by rw [show decide (i < cnt23 l) = true from by unfold cnt23; simp; omega], rfl⟩
        · have e1 : (i : Int) < n := by omega
          have e2 : (14 : Int) ≤ i := by omega
          have e3 : ¬ (i : Int) = 0 := by omega
          go_wp2_with fail
          go_meet
          exact ⟨by rw [show decide (i < cnt23 l) = false from by unfold cnt23; simp; omega] <;> first | rfl | (congr 1; simp; omega), rfl⟩
        · subst c2
          have e1 : (n : Int) ≤ 0 := by omega
          go_wp2_with fail
          go_meet
          exact ⟨by rw [show decide (0 < cnt23 l) = true from by unfold cnt23; simp; omega] <;> first | rfl | (congr 1; simp; omega), rfl⟩
        · have e1 : (n : Int) ≤ i := by omega
          have e3 : ¬ (i : Int) = 0 := by omega
          go_wp2_with fail
          go_meet
          exact ⟨by rw [show decide (i < cnt23 l) = false from by unfold cnt23; simp; omega] <;> first | rfl | (congr 1; simp; omega), rfl⟩
    case rest =>
      obtain ⟨rfl, hwc⟩ := hcut
      obtain rfl : wr = wc := hwc.symm
      by_cases ci : i < cnt23 l
      · rw [show decide (i < cnt23 l) = true from by simpa using ci]
        go_upto_if 36 with fail
        go_cut [36] (fun _ wx => wx = wr.alloc (.cells (c23 (nd23 l i) (nd23 l i).tx (nd23 l i).hid) 102))
        case first =>
          as_aux_lemma =>
            have hln := HN.out
            rcases Nat.lt_or_ge i n with c1 | c1
            · rw [show decide (i < n) = true from by simpa using c1]
              obtain ⟨bq, off, rfl, hbl, hcl⟩ := HA.out (by omega)
              obtain ⟨hok, k0, k1, k2, k3, k4, k5, k6, k7, k8⟩ := hcl i (by omega)
              have hbw := HM.out.mt.wd.bel
              have k0 := (hbw.cell (p := ⟨bq, _, none⟩) hbl).trans k0; have k1 := (hbw.cell (p := ⟨bq, _, none⟩) hbl).trans k1; have k2 := (hbw.cell (p := ⟨bq, _, none⟩) hbl).trans k2; have k3 := (hbw.cell (p := ⟨bq, _, none⟩) hbl).trans k3; have k4 := (hbw.cell (p := ⟨bq, _, none⟩) hbl).trans k4; have k5 := (hbw.cell (p := ⟨bq, _, none⟩) hbl).trans k5; have k6 := (hbw.cell (p := ⟨bq, _, none⟩) hbl).trans k6; have k7 := (hbw.cell (p := ⟨bq, _, none⟩) hbl).trans k7; have k8 := (hbw.cell (p := ⟨bq, _, none⟩) hbl).trans k8
              have obq : Old wr bq := Nat.lt_of_lt_of_le hbl hbw.size
              have c2 : (i : Int) < n := by omega
              clear hcl hbw
              obtain ⟨q, hq⟩ : ∃ q, nd23 l i = q := ⟨_, rfl⟩
              have hq' : l.getD i n23Z = q := hq
              rw [hq'] at k0 k1 k2 k3 k4 k5 k6 k7 k8
              clear hq' hok
              obtain ⟨q1, q2, q3, q4, q5, q6, q7, q8, q9⟩ := q
              simp only at k0 k1 k2 k3 k4 k5 k6 k7 k8
              go_wp2_with fail
              go_meet
              rw [hq]
              rfl
            · rw [show decide (i < n) = false from by simpa using c1]
              go_wp2_with fail
              go_meet
              rw [show nd23 l i = n23Z from by unfold nd23; simp [List.getD_eq_getElem?_getD, show l.length ≤ i by omega]]
              rfl
        case rest =>
          subst hcut
          obtain ⟨O6, hM6⟩ := HM.out.alloc (c23 (nd23 l i) (nd23 l i).tx (nd23 l i).hid) 102
          go_upto_region 8 with fail
          refine name_w (f := Code.wp _ _ _ _) (fun X6 hX6 => ?_)
          rw [← hX6] at hM6
          obtain ⟨p6, hp6⟩ : ∃ k, wr.heap.size = k := ⟨_, rfl⟩
          rw [hp6] at hM6 ⊢
          have HM6 := Lib.hid hM6
          have h2 := HM.out.m2
          have HB6 : Hid (b23 p2 p4 pt bn bx i aL cL a1 c1 (upd B m ⟨p6, c23 (nd23 l i) (nd23 l i).tx (nd23 l i).hid, 102⟩)) := Lib.hid ⟨by rw [upd_other _ _ (by omega)]; exact HB.out.1, by rw [upd_other _ _ (by omega)]; exact HB.out.2⟩
          clear hM6 hX6 HM hwc hp6 HB
          have hit : (0 < i ∨ i = 0) := by omega
          go_cut [] (fun wx => ∃ O B', M23 l w wx pt bm (m + 1) B' bn bx g i i i i i i i i aL cL a1 c1 R f O ∧ b23 p2 p4 pt bn bx i aL cL a1 c1 B' ∧ B' m = ⟨p6, c23 (nd23 l i) (tx23 l i) (hid23 l i), 102⟩)
          case first =>
            as_aux_lemma =>
              have H6 : Has X6 p6 (c23 (nd23 l i) (nd23 l i).tx (nd23 l i).hid) 102 := by have := HM6.out.mt.wd.has m (by omega); rw [upd_same] at this; exact this
              obtain ⟨O7, hM7⟩ := HM6.out.st (q := m) (by omega) (c23 (nd23 l i) (tx23 l i) (hid23 l i)) (by rw [upd_same]; show ¬ (102 = 110); decide) (by rw [upd_same]; show ¬ (102 = 41); decide)
              rw [upd_same] at hM7
              have HM7 := Lib.hid hM7
              have HB7 : Hid (b23 p2 p4 pt bn bx i aL cL a1 c1 (upd (upd B m ⟨p6, c23 (nd23 l i) (nd23 l i).tx (nd23 l i).hid, 102⟩) m ⟨p6, c23 (nd23 l i) (tx23 l i) (hid23 l i), 102⟩)) := Lib.hid ⟨by rw [upd_other _ _ (by omega)]; exact HB6.out.1, by rw [upd_other _ _ (by omega)]; exact HB6.out.2⟩
              have z6 := H6.lt
              have h7 : tx23 l i = ((nd23 l i).tx && decide (0 < i)) := tx23_eq l i
              have h8 : hid23 l i = ((nd23 l i).hid && decide (0 < i)) := rfl
              clear hM7 HM6 HB6
              unfold c23 at H6
              rw [← ov_self H6]
              rcases ht : (nd23 l i).tx with _ | _ <;> rcases hh : (nd23 l i).hid with _ | _
              · rw [ht] at h7; rw [hh] at h8
                go_wp2_with fail
                go_meet
                have q := HM7.out; have q2 := HB7.out
                rw [ht, hh, show tx23 l i = false from h7, show hid23 l i = false from h8] at q q2
                exact ⟨_, _, q, q2, by rw [upd_same, show tx23 l i = false from h7, show hid23 l i = false from h8]⟩
              · rcases hit with h0 | h0
                · have e0 : (0 : Int) < i := by omega
                  rw [ht] at h7; rw [hh, decide_eq_true h0] at h8
                  go_wp2_with fail
                  go_meet
                  have q := HM7.out; have q2 := HB7.out
                  rw [ht, hh, show tx23 l i = false from h7, show hid23 l i = true from h8] at q q2
                  exact ⟨_, _, q, q2, by rw [upd_same, show tx23 l i = false from h7, show hid23 l i = true from h8]⟩
                · subst h0
                  rw [ht] at h7; rw [hh] at h8
                  go_wp2_with fail
                  go_meet
                  have q := HM7.out; have q2 := HB7.out
                  rw [ht, hh, show tx23 l 0 = false from h7, show hid23 l 0 = false from h8] at q q2
                  exact ⟨_, _, q, q2, by rw [upd_same, show tx23 l 0 = false from h7, show hid23 l 0 = false from h8]⟩
              · rcases hit with h0 | h0
                · have e0 : (0 : Int) < i := by omega
                  rw [ht, decide_eq_true h0] at h7; rw [hh] at h8
                  go_wp2_with fail
                  go_meet
                  have q := HM7.out; have q2 := HB7.out
                  rw [ht, hh, show tx23 l i = true from h7, show hid23 l i = false from h8] at q q2
                  exact ⟨_, _, q, q2, by rw [upd_same, show tx23 l i = true from h7, show hid23 l i = false from h8]⟩
                · subst h0
                  rw [ht] at h7; rw [hh] at h8
                  go_wp2_with fail
                  go_meet
                  have q := HM7.out; have q2 := HB7.out
                  rw [ht, hh, show tx23 l 0 = false from h7, show hid23 l 0 = false from h8] at q q2
                  exact ⟨_, _, q, q2, by rw [upd_same, show tx23 l 0 = false from h7, show hid23 l 0 = false from h8]⟩
              · rcases hit with h0 | h0
                · have e0 : (0 : Int) < i := by omega
                  rw [ht, decide_eq_true h0] at h7; rw [hh, decide_eq_true h0] at h8
                  go_wp2_with fail
                  go_meet
                  have q := HM7.out; have q2 := HB7.out
                  rw [ht, hh, show tx23 l i = true from h7, show hid23 l i = true from h8] at q q2
                  exact ⟨_, _, q, q2, by rw [upd_same, show tx23 l i = true from h7, show hid23 l i = true from h8]⟩
                · subst h0
                  rw [ht] at h7; rw [hh] at h8
                  go_wp2_with fail
                  go_meet
                  have q := HM7.out; have q2 := HB7.out
                  rw [ht, hh, show tx23 l 0 = false from h7, show hid23 l 0 = false from h8] at q q2
                  exact ⟨_, _, q, q2, by rw [upd_same, show tx23 l 0 = false from h7, show hid23 l 0 = false from h8]⟩
          case rest =>
            obtain ⟨O7, B7, hM7, hB7, h6⟩ := hcut
            have HM7 := Lib.hid hM7; have HB7 := Lib.hid hB7; have H6B := Lib.hid h6
            clear hM7 hB7 h6 HM6 HB6
            obtain ⟨X8, rfl⟩ : ∃ X8 : World, X8 = wc := ⟨_, rfl⟩
            go_upto_if 56 with fail
            go_cut [7, 8, 9] (fun s _ _ wx => s = .int .i64 ((pa23 l i : Nat) : Int) ∧ ∃ R f O, M23 l w wx pt bm (m + 1) B7 bn bx g i i i (i + 1) i i i i aL cL a1 c1 R f O)
            case first =>
              as_aux_lemma =>
                rcases Nat.eq_zero_or_pos i with c0 | c0
                · subst c0
                  go_wp2_with fail
                  go_meet
                  have q := HM7.out
                  exact ⟨rfl, R, f, O7, ⟨q.mt.wd, q.mt.told, q.mt.k1, q.mt.vl, q.mt.f0, fun k hk => by omega⟩, q.f1, q.m2, q.pc⟩
                · have e0 : (0 : Int) < i := by omega
                  have H4 : Has X8 p4 #[.pointer (some ⟨pt, 0, none⟩), .map (some bn), .map (some bx), .slice aL i cL, .int .i64 0, .int .i64 0, .slice a1 i c1] 32 := by have := HM7.out.mt.wd.has 1 (by omega); rw [HB7.out.2] at this; exact this
                  have H6 : Has X8 p6 #[.int .u8 (nd23 l i).p, .int .i16 (nd23 l i).x, .int .i16 (nd23 l i).y, .int .u16 (nd23 l i).w, .int .u16 (nd23 l i).h, .int .u16 (nd23 l i).bd, .int .u8 (nd23 l i).ov, .bool (tx23 l i), .bool (hid23 l i)] 102 := by have := HM7.out.mt.wd.has m (by omega); rw [H6B.out] at this; exact this
                  have e4 := H4.cells; have l4 := H4.lt; have o4 : Old X8 p4 := l4
                  have e6 := H6.cells; have l6 := H6.lt; have o6 : Old X8 p6 := l6
                  have ok := ok23_nd HA.out i
                  have hi0 : ¬ (i : Int) = 0 := by omega
                  have hrem : (nd23 l i).p.tmod (i : Int) = ((((nd23 l i).p % i).toNat : Nat) : Int) := by
                    have := rem26 (l := to26 l) c0 (by rw [nd_to26]; exact ok.p.1)
                    rw [nd_to26] at this; exact this
                  have hwp : wrap64 (nd23 l i).p = (nd23 l i).p := by have := ok.p; unfold wrap64; omega
                  obtain ⟨q0, hq0⟩ : ∃ q, ((nd23 l i).p % i).toNat = q := ⟨_, rfl⟩
                  have hq0i : q0 < i := by
                    have := rem_lt (l := to26 l) c0
                    rw [nd_to26] at this; rw [← hq0]; exact this
                  have hup0 : up23 l q0 = pa23 l i := by unfold up23 pa23 pa26; rw [if_neg (by omega), nd_to26]; show up26 (to26 l) q0 = up26 (to26 l) (((nd23 l i).p % i).toNat); rw [hq0]
                  rw [hq0] at hrem
                  have HQ0 := Lib.hid (show q0 < i ∧ up23 l q0 = pa23 l i from ⟨hq0i, hup0⟩)
                  have hLr := HM7.out.mt.wd.fam.row 0 (by omega)
                  rw [HM7.out.mt.f0] at hLr
                  dsimp only at hLr
                  obtain ⟨_, _, eL, nL, _, rL⟩ := row_reads hLr
                  cases eL
                  obtain ⟨gL, rfl, _, lgL, cLr⟩ := rL c0
                  have ogL : Old X8 gL := lgL
                  have HCL := Lib.hid cLr
                  have HLR0 := Lib.hid hLr
                  clear ok hq0 hup0 hq0i cLr rL nL hLr
                  go_wp2_with fail
                  go_loopw [7] (fun s wx => ∃ q : Nat, s = .int .i64 q ∧ q < i ∧ up23 l q = pa23 l i ∧ wx = X8) (fun s _ => (intOf s).toNat)
                  case atStart => exact ⟨q0, rfl, HQ0.out.1, HQ0.out.2, rfl⟩
                  case round =>
                    obtain ⟨q, rfl, hq, hup, hwr⟩ := hrel
                    obtain rfl : X8 = wr := hwr.symm
                    have HUP := Lib.hid hup
                    clear hup hwr HQ0
                    have kt := HCL.out (q * 65 + 61) (.bool (tx23 l q)) ((rng_get (fun k => nodeC_len _ _ _ _ _ _ _) (by omega) hq).trans rfl)
                    have kp := HCL.out (q * 65 + 64) (.int .i64 (pa23 l q)) ((rng_get (fun k => nodeC_len _ _ _ _ _ _ _) (by omega) hq).trans rfl)
                    have hqI : (q : Int) < i := by omega
                    have hq00 : (0 : Int) ≤ q := by omega
                    rcases ht : tx23 l q with _ | _
                    · rw [ht] at kt
                      have HQ := Lib.hid (show q = pa23 l i by rw [← HUP.out]; exact (up26_no ht).symm)
                      go_upto_region 14 with fail
                      obtain ⟨kv, ek⟩ := HM7.out.mt.fk q hq
                      have hKr := HM7.out.mt.wd.fam.row (2 + q) (by omega)
                      rw [ek] at hKr
                      obtain ⟨ak, ck, eK, nK, _, _⟩ := row_reads hKr
                      simp only at eK
                      subst eK
                      dsimp only at hKr nK
                      have kc := HCL.out (q * 65 + 63) (.slice ak (kidsZ (pa23 l) i q).length ck) ((rng_get (fun k => nodeC_len _ _ _ _ _ _ _) (by omega) hq).trans (by rw [ek]; rfl))
                      obtain ⟨nk, hnk⟩ : ∃ x, (kidsZ (pa23 l) i q).length = x := ⟨_, rfl⟩
                      rw [hnk] at kc
                      have HKR := Lib.hid hKr; have HEK := Lib.hid ek; have HNK := Lib.hid hnk
                      clear hKr ek hnk nK kt kp
                      have np : ¬ O7 pt := HM7.out.mt.wd.tk.np
                      have nbm : ¬ O7 bm := HM7.out.mt.wd.tk.nbm
                      have hS0 : ¬ (p4 = pt ∨ p4 = bm) := fun e => by
                        have h := HM7.out.mt.wd.bo 1 (by omega)
                        rw [HB7.out.2] at h
                        rcases e with e | e
                        · exact np (e ▸ h)
                        · exact nbm (e ▸ h)
                      have hS2 : ¬ (gL = pt ∨ gL = bm) := fun e => by
                        have hg := HM7.out.mt.wd.fo 0 gL (by omega) (by rw [HM7.out.mt.f0]; rfl)
                        rcases e with e | e
                        · exact np (e ▸ hg)
                        · exact nbm (e ▸ hg)
                      clear np nbm
                      refine region_ordS (S := fun wx => ButS (fun b => b = pt ∨ b = bm) X8.heap.size X8 wx) (ButS.refl _ _ _).drew [(0, 0), (1, 0), (2, 0), (3, 0), (4, 0), (5, 0), (6, 0), (7, 0), (8, 0), (9, 0), (10, 0), (11, 1), (12, 0), (13, 0), (14, 0), (15, 0), (16, 0)] (by kernel_rfl) (by kernel_rfl) (fun _ _ d _ _ h => by cases d <;> exact h) (fun hS => ?_)
                      iterate 11
                        (refine wpG_read (v := ?_) rfl (.inl ⟨by rfl, fun wx hbx => ?_⟩) ?_; rotate_left; (focus (obtain ⟨cx0, fx0⟩ := buts_bk hbx l4 hS0; obtain ⟨cx2, fx2⟩ := buts_bk hbx lgL hS2; go_simp; (try go_bits); (try with_reducible rfl))); try simp only [Act.put, List.setIfInBounds_toArray, List.set_cons_zero, List.set_cons_succ])
                      refine wpG_make rfl (fun K hK => ?_)
                      go_simp
                      have hmx : max i 1 = i := by omega
                      have HT : TreeAt X8 pt bm (fun b => w.heap.size ≤ b ∧ ¬ O7 b) R i := by have := HM7.out.mt.wd.tk.tree; rw [hmx] at this; exact this
                      have hPt : Pt (pa23 l) i R := by have := HM7.out.mt.told; rw [hmx] at this; exact this
                      have hi60 : i < 14 := by have := ci; unfold cnt23 at this; omega
                      obtain ⟨R', hF, hPt'⟩ := hPt.add c0 (by omega) (by rw [← HQ.out]; exact hq)
                      rw [← HQ.out, HNK.out] at hF
                      have hRl := hPt.len
                      refine (tadd_any pt bm (fun b => w.heap.size ≤ b ∧ ¬ O7 b) R i q nk X8.drew (HT.below (Below.refl _ _).drew) (by omega) (by omega) (by omega)).mono ?_
                      unfold AddPost
                      rw [hF]
                      rintro e X7 ⟨rfl, ht7, hb7⟩
                      have hb7' : ButS (fun b => b = pt ∨ b = bm) X8.heap.size X8 X7 := (ButS.refl _ _ _).drew.trans hb7
                      refine hK _ _ hb7' (fun hS2 => ?_)
                      clear hK K hS hS2
                      try simp only [Act.put, List.setIfInBounds_toArray, List.set_cons_zero, List.set_cons_succ]
                      iterate 5
                        (refine wpG_read (v := ?_) rfl (.inl ⟨by rfl, fun wx hbx => ?_⟩) ?_; rotate_left; (focus (go_simp; (try go_bits); (try with_reducible rfl))); try simp only [Act.put, List.setIfInBounds_toArray, List.set_cons_zero, List.set_cons_succ])
                      refine wpG_nil ?_
                      have W7 : Wd w X7 pt bm R' ((i + 1 : Nat) : Int) (2 + i) f (m + 1) B7 2 (M23m l bn bx g i i) O7 := HM7.out.mt.wd.add (by rw [show ((i + 1 : Nat) : Int) = nextT i 0 from rfl]; exact ht7) hb7'
                      have HW7 := Lib.hid W7; have HPT := Lib.hid hPt'
                      clear W7 ht7 hb7 hb7' hPt hPt' hF HT hRl hS0 hS2
                      have h4 : Has X7 p4 #[.pointer (some ⟨pt, 0, none⟩), .map (some bn), .map (some bx), .slice (some ⟨gL, 0, none⟩) i cL, .int .i64 0, .int .i64 0, .slice a1 i c1] 32 := by have := HW7.out.has 1 (by omega); rw [HB7.out.2] at this; exact this
                      have hKr := HW7.out.fam.row (2 + q) (by omega)
                      rw [HEK.out] at hKr
                      dsimp only at hKr
                      rw [HNK.out] at hKr
                      have hLr := HW7.out.fam.row 0 (by omega)
                      rw [HM7.out.mt.f0] at hLr
                      dsimp only at hLr
                      obtain ⟨_, _, eL, _, _, rL⟩ := row_reads hLr
                      cases eL
                      obtain ⟨gL', egL, _, lgL7, cLr⟩ := rL c0
                      cases egL
                      have kc7 := cLr (q * 65 + 63) (.slice ak nk ck) ((rng_get (fun k => nodeC_len _ _ _ _ _ _ _) (by omega) hq).trans (by rw [HEK.out, HNK.out]; rfl))
                      have e47 := h4.cells; have l47 := h4.lt
                      have hvk : (f (2 + q)).v = .slice ak nk ck := by rw [HEK.out, HNK.out]
                      have hT0 : ¬ ((Value.slice ak nk ck).ownBlock = some p4) := fun e => by
                        have h := HW7.out.bap 1 (2 + q) (by omega) (by omega)
                        rw [HB7.out.2, hvk] at h
                        exact h e
                      have hT2 : ¬ ((Value.slice ak nk ck).ownBlock = some gL) := fun e => by
                        obtain ⟨d1, k1⟩ := own_has hKr e
                        obtain ⟨d2, k2⟩ := own_has hLr (show _ = some gL from rfl)
                        have := has_ty k1 k2
                        exact absurd this (by decide)
                      have HK7 := Lib.hid hKr
                      have hsz7 : w.heap.size ≤ X7.heap.size := HW7.out.size
                      clear e4 l4 o4 e6 l6 o6 H4 H6 kc cLr rL hKr hLr ogL lgL h4 hvk
                      obtain ⟨i0, hi, hz0, hz1, hz2⟩ := info_parts (show (Try.prog.info? 3).map (fun i => (i.zero, i.size, i.bytes)) = some (some (.int .i64 0), 1, 8) by kernel_rfl)
                      have hkl : nk ≤ 14 := by have := kidsZ_len (pa23 l) q i; have := HNK.out; omega
                      go_upto_region 17 with fail
                      refine region_ordS (S := fun wx => ButS (fun b => (Value.slice ak nk ck).ownBlock = some b) X7.heap.size X7 wx) (ButS.refl _ _ _).drew [(0, 0), (1, 0), (2, 0), (3, 0), (4, 0), (5, 0), (6, 0), (7, 0), (8, 0), (9, 0), (10, 0), (11, 0), (12, 1), (13, 1), (14, 0), (15, 0), (16, 2)] (by kernel_rfl) (by kernel_rfl) (fun _ _ d _ _ h => by cases d <;> exact h) (fun hS => ?_)
                      iterate 12
                        (refine wpG_read (v := ?_) rfl (.inl ⟨by rfl, fun wx hbx => ?_⟩) ?_; rotate_left; (focus (obtain ⟨cx0, fx0⟩ := buts_bk hbx l47 hT0; obtain ⟨cx2, fx2⟩ := buts_bk hbx lgL7 hT2; go_simp; (try go_bits); (try with_reducible rfl))); try simp only [Act.put, List.setIfInBounds_toArray, List.set_cons_zero, List.set_cons_succ])
                      refine wpG_make rfl (fun K hK => ?_)
                      go_simp
                      refine hK _ _ ?_ (fun hS2 => ?_)
                      focus (exact (ButS.refl _ _ _).drew.alloc (Nat.le_refl _) _)
                      clear hK K hS hS2
                      try simp only [Act.put, List.setIfInBounds_toArray, List.set_cons_zero, List.set_cons_succ]
                      refine wpG_make rfl (fun K hK => ?_)
                      refine wp_append_id (P := Try.prog) _ _ _ _ rfl w.heap.size 3 i0 (.int .i64 0) 1 8 Try.underlying54 hi hz0 hz1 hz2 rfl (by decide) _ _ _ rfl (HK7.out.drew.alloc _) ⟨X7.heap.size, 0, none⟩ 1 1 [.int .i64 i] rfl rfl (newi_at (by simp)) (one_of rfl) (by unfold maxLen; omega) (by omega) (by simp; omega) (by decide) ?_
                      intro v8 X9 hown hgrow hid
                      obtain ⟨a8, c8, rfl, _, _⟩ := row_reads hown
                      replace hgrow : (X7.alloc (.cells #[.int .i64 i] 3)).drew.grownBy X9 (Value.slice ak nk ck).ownBlock := hgrow
                      replace hid : (Value.slice a8 (nk + 1) c8).ownBlock = (Value.slice ak nk ck).ownBlock ∧ X9.heap.size = (X7.alloc (.cells #[.int .i64 i] 3)).drew.heap.size ∨ (Value.slice a8 (nk + 1) c8).ownBlock = some (X7.alloc (.cells #[.int .i64 i] 3)).drew.heap.size ∧ (X7.alloc (.cells #[.int .i64 i] 3)).drew.heap.size < X9.heap.size := hid
                      have hS8 : ButS (fun b => (Value.slice ak nk ck).ownBlock = some b) X7.heap.size X7 X9 := (((ButS.refl _ _ _).alloc (Nat.le_refl _) _).drew).trans ((buts_grown hgrow).less (by simp))
                      have ek : f (2 + q) = ⟨3, 1, .slice ak nk ck, nk, intVals (kidsZ (pa23 l) i q)⟩ := by rw [HEK.out, HNK.out]
                      have W8 := (HW7.out.below (w' := (X7.alloc (.cells #[.int .i64 i] 3)).drew) (((Below.refl _ _).alloc (Nat.le_refl _) _).drew)).app (q := 2 + q) (by omega) (by rw [ek]; exact hown) (by rw [ek]; exact hgrow) (by rw [ek]; exact hid)
                      rw [ek] at W8
                      dsimp only at W8
                      have hu0 : upd f (2 + q) ⟨3, 1, .slice a8 (nk + 1) c8, nk + 1, intVals (kidsZ (pa23 l) i q) ++ [.int .i64 i]⟩ 0 = ⟨68, 65, .slice (some ⟨gL, 0, none⟩) i cL, i, rng (fun k => V23 l k (f (2 + k)).v) i⟩ := by rw [upd_other _ _ (by omega)]; exact HM7.out.mt.f0
                      have hlt65 : q * 65 + 63 < i * 65 := by omega
                      have W9 := W8.set (q := 0) (g := gL) (c := cL) (j := q * 65 + 63) (by omega) (by rw [hu0]) (by rw [hu0]; exact hlt65) (.slice a8 (nk + 1) c8)
                      rw [hu0] at W9
                      dsimp only at W9
                      have HW9 := Lib.hid W9
                      have hL8 := W8.fam.row 0 (by omega)
                      obtain ⟨cs8, hs8⟩ := own_has hL8 (g := gL) (by rw [hu0]; rfl)
                      have f8 := hs8.frozen
                      have k8 := ((buts_bk hS8 lgL7 hT2).1 (q * 65 + 63)).trans kc7
                      refine hK _ _ hS8 (fun hS2 => ?_)
                      clear hK K hS2 hown hgrow hid hS8 W8 W9 hL8 hs8 hu0
                      try simp only [Act.put, List.setIfInBounds_toArray, List.set_cons_zero, List.set_cons_succ]
                      iterate 2
                        (refine wpG_read (v := ?_) rfl (.inl ⟨by rfl, fun wx hbx => ?_⟩) ?_; rotate_left; (focus (go_simp; (try go_bits); (try with_reducible rfl))); try simp only [Act.put, List.setIfInBounds_toArray, List.set_cons_zero, List.set_cons_succ])
                      refine wpG_late rfl (fun K hK => ?_)
                      go_simp
                      refine hK _ _ ?_
                      clear hK K
                      try simp only [Act.put, List.setIfInBounds_toArray, List.set_cons_zero, List.set_cons_succ]
                      refine wpG_nil ?_
                      go_wp2_with fail
                      go_meet
                      have hk := Mt.kid HM7.out.mt c0 HQ.out.symm hq (fun r v => nodeC_kid _ _ _ _ _ _ _ _) HW9.out HNK.out HPT.out
                      refine ⟨by rw [HQ.out], R', _, _, hk, ?_, HM7.out.m2, HM7.out.pc⟩
                      rw [upd_other _ _ (by omega), upd_other _ _ (by omega)]
                      exact HM7.out.f1
                    · rw [ht] at kt
                      have hup2 : up23 l (pa23 l q) = pa23 l i := by
                        rw [← HUP.out]
                        show up26 (to26 l) (pa26 (to26 l) q) = up26 (to26 l) q
                        rw [up26_no (pa26_tx (to26 l) q), ← up26_yes ht]
                      have HU2 := Lib.hid hup2
                      have hlt2 := pa23_lt l (tx26_pos ht)
                      clear hup2
                      go_wp2_with fail
                      exact ⟨⟨pa23 l q, rfl, by omega, HU2.out, trivial⟩, by simp only [intOf]; omega⟩
            case rest =>
              obtain ⟨rfl, R1, f1, O1, hM⟩ := hcut
              obtain ⟨f2, hf2, hM2⟩ := hM.more (Nat.le_refl i)
              have HM2 := Lib.hid hM2; have HF2 := Lib.hid hf2
              clear hM hM2 hf2 HM7
              have H6 : Has wc p6 #[.int .u8 (nd23 l i).p, .int .i16 (nd23 l i).x, .int .i16 (nd23 l i).y, .int .u16 (nd23 l i).w, .int .u16 (nd23 l i).h, .int .u16 (nd23 l i).bd, .int .u8 (nd23 l i).ov, .bool (tx23 l i), .bool (hid23 l i)] 102 := by have := HM2.out.mt.wd.has m (by omega); rw [H6B.out] at this; exact this
              have e6 := H6.cells; have l6 := H6.lt; have o6 : Old wc p6 := l6
              have hz68 : Try.zeroCells68.size = 65 := by kernel_rfl
              go_upto_region 20 with fail
              rw [bign_C _ _ _ _ _ _ _ _ _ (by rw [blkCells_new (by rw [World.size_alloc])]; exact hz68) rfl, putBlk_new (by rw [World.size_alloc])]
              go_upto_region 20 with fail
              clear hz68 H6 e6 l6 o6
              obtain ⟨O3, hM3⟩ := HM2.out.alloc (styC 0 false 0 0).toArray 74
              obtain ⟨O4, hM4⟩ := hM3.alloc (nodeC 0 false 0 0 (tx23 l i) (.slice none 0 0) (pa23 l i)).toArray 68
              rw [World.size_alloc] at hM4
              refine name_w (f := Code.wp _ _ _ _) (fun X hX => ?_)
              obtain ⟨p10, hp10⟩ : ∃ k, wc.heap.size = k := ⟨_, rfl⟩
              have hM4 : M23 l w X pt bm (m + 1 + 1 + 1) (upd (upd B7 (m + 1) ⟨wc.heap.size, (styC 0 false 0 0).toArray, 74⟩) (m + 1 + 1) ⟨wc.heap.size + 1, (nodeC 0 false 0 0 (tx23 l i) (.slice none 0 0) (pa23 l i)).toArray, 68⟩) bn bx g i i (i + 1) (i + 1) i i i i aL cL a1 c1 R1 f2 O4 := by rw [hX]; exact hM4
              rw [hp10] at hM4 ⊢
              have HM4 := Lib.hid hM4
              clear hM3 hM4 hX HM2
              have H6 : Has X p6 #[.int .u8 (nd23 l i).p, .int .i16 (nd23 l i).x, .int .i16 (nd23 l i).y, .int .u16 (nd23 l i).w, .int .u16 (nd23 l i).h, .int .u16 (nd23 l i).bd, .int .u8 (nd23 l i).ov, .bool (tx23 l i), .bool (hid23 l i)] 102 := by have := HM4.out.mt.wd.has m (by omega); rw [upd_other _ _ (by omega), upd_other _ _ (by omega), H6B.out] at this; exact this
              have H10 : Has X p10 (styC 0 false 0 0).toArray 74 := by have := HM4.out.mt.wd.has (m + 1) (by omega); rw [upd_other _ _ (by omega), upd_same] at this; exact this
              have H11 : Has X (p10 + 1) (nodeC 0 false 0 0 (tx23 l i) (.slice none 0 0) (pa23 l i)).toArray 68 := by have := HM4.out.mt.wd.has (m + 1 + 1) (by omega); rw [upd_same] at this; exact this
              have n1 : ¬ p6 = p10 := fun e => by subst e; exact absurd (show 102 = 74 from has_ty H6 H10) (by decide)
              have n2 : ¬ p6 = p10 + 1 := fun e => by rw [e] at H6; exact absurd (show 102 = 68 from has_ty H6 H11) (by decide)
              have e6 := H6.cells; have l6 := H6.lt; have o6 : Old X p6 := l6
              have l10 := H10.lt; have l11 := H11.lt
              have ok := ok23_nd HA.out i
              have hov := ok.ov; have hbd := ok.bd
              have t2 : (nd23 l i).ov.tmod 3 = (nd23 l i).ov % 3 := Int.tmod_eq_emod_of_nonneg hov.1
              have t3 : (nd23 l i).bd.tmod 100 = bw23 l i := Int.tmod_eq_emod_of_nonneg hbd.1
              have w2 : wrap64 (nd23 l i).ov = (nd23 l i).ov := by unfold wrap64; omega
              have w5 : wrap64 (1 + (nd23 l i).ov % 3) = 1 + (nd23 l i).ov % 3 := by unfold wrap64; omega
              have hbw : 0 ≤ bw23 l i ∧ bw23 l i ≤ 99 := by unfold bw23; omega
              have w6 : wrap64 (bw23 l i) = bw23 l i := by unfold wrap64; omega
              rw [← ov_self H11]
              rw [← ov_self H10]
              clear H6 hov hbd ok
              go_upto_region 23 with fail
              refine name_w (f := Code.wp _ _ _ _) (fun Z hZ => ?_)
              have hM5 : ∃ O B8, M23 l w Z pt bm (m + 1 + 1 + 1) B8 bn bx g i i (i + 1) (i + 1) i i i i aL cL a1 c1 R1 f2 O ∧ b23 p2 p4 pt bn bx i aL cL a1 c1 B8 ∧ B8 m = ⟨p6, c23 (nd23 l i) (tx23 l i) (hid23 l i), 102⟩ ∧ B8 (m + 1) = ⟨p10, (styC 0 false 0 (1 + (nd23 l i).ov % 3)).toArray, 74⟩ ∧ B8 (m + 1 + 1) = ⟨p10 + 1, (nodeC 0 false 0 (1 + (nd23 l i).ov % 3) (tx23 l i) (.slice none 0 0) (pa23 l i)).toArray, 68⟩ := by
                obtain ⟨Oa, ha⟩ := HM4.out.st (q := m + 1) (by omega) (styC 0 false 0 (1 + (nd23 l i).ov % 3)).toArray (by rw [upd_other _ _ (by omega), upd_same]; show ¬ (74 = 110); decide) (by rw [upd_other _ _ (by omega), upd_same]; show ¬ (74 = 41); decide)
                rw [upd_other (upd B7 (m + 1) _) _ (show m + 1 ≠ m + 1 + 1 by omega), upd_same] at ha
                dsimp only at ha
                obtain ⟨Ob, hb⟩ := ha.st (q := m + 1 + 1) (by omega) (nodeC 0 false 0 (1 + (nd23 l i).ov % 3) (tx23 l i) (.slice none 0 0) (pa23 l i)).toArray (by rw [upd_other _ _ (by omega), upd_same]; show ¬ (68 = 110); decide) (by rw [upd_other _ _ (by omega), upd_same]; show ¬ (68 = 41); decide)
                rw [upd_other (upd _ (m + 1 + 1) _) _ (show m + 1 + 1 ≠ m + 1 by omega), upd_same] at hb
                dsimp only at hb
                have h2' := h2
                refine ⟨Ob, _, by rw [hZ]; exact hb, ⟨?_, ?_⟩, ?_, ?_, ?_⟩
                · rw [upd_other _ _ (by omega), upd_other _ _ (by omega), upd_other _ _ (by omega), upd_other _ _ (by omega)]; exact HB7.out.1
                · rw [upd_other _ _ (by omega), upd_other _ _ (by omega), upd_other _ _ (by omega), upd_other _ _ (by omega)]; exact HB7.out.2
                · rw [upd_other _ _ (by omega), upd_other _ _ (by omega), upd_other _ _ (by omega), upd_other _ _ (by omega)]; exact H6B.out
                · rw [upd_other _ _ (by omega), upd_same]
                · rw [upd_same]
              obtain ⟨O5, B8, hM5, hB8, k6, k10, k11⟩ := hM5
              have HM5 := Lib.hid hM5; have HB8 := Lib.hid hB8; have K6 := Lib.hid k6; have K10 := Lib.hid k10; have K11 := Lib.hid k11
              clear hZ hM5 hB8 k6 k10 k11 HM4 H10 H11 e6 l6 o6 l10 l11 n1 n2 t2 t3 w2 w5 w6 HB7 H6B
              have H6 : Has Z p6 #[.int .u8 (nd23 l i).p, .int .i16 (nd23 l i).x, .int .i16 (nd23 l i).y, .int .u16 (nd23 l i).w, .int .u16 (nd23 l i).h, .int .u16 (nd23 l i).bd, .int .u8 (nd23 l i).ov, .bool (tx23 l i), .bool (hid23 l i)] 102 := by have := HM5.out.mt.wd.has m (by omega); rw [K6.out] at this; exact this
              have e6 := H6.cells; have l6 := H6.lt; have o6 : Old Z p6 := l6
              have ok := ok23_nd HA.out i
              have wx1 : wrap64 (nd23 l i).x = (nd23 l i).x := by have := ok.x; unfold wrap64; omega
              have wy1 : wrap64 (nd23 l i).y = (nd23 l i).y := by have := ok.y; unfold wrap64; omega
              have ww1 : wrap64 (nd23 l i).w = (nd23 l i).w := by have := ok.w; unfold wrap64; omega
              have wh1 : wrap64 (nd23 l i).h = (nd23 l i).h := by have := ok.h; unfold wrap64; omega
              have wb2 : wrap64 (2 * bw23 l i) = 2 * bw23 l i := by unfold wrap64; omega
              have ww3 : wrap64 ((nd23 l i).w + 2 * bw23 l i) = (nd23 l i).w + 2 * bw23 l i := by have := ok.w; unfold wrap64; omega
              have wh3 : wrap64 ((nd23 l i).h + 2 * bw23 l i) = (nd23 l i).h + 2 * bw23 l i := by have := ok.h; unfold wrap64; omega
              clear ok H6
              go_upto_if 174 with fail
              obtain ⟨Oa, ha⟩ := HM5.out.alloc (boxC (nd23 l i).x (nd23 l i).y ((nd23 l i).w + 2 * bw23 l i) ((nd23 l i).h + 2 * bw23 l i) (bw23 l i) (.slice none 0 0)).toArray 108
              obtain ⟨Ob, hb⟩ := ha.alloc (box18 true (nd23 l i).x (nd23 l i).y ((nd23 l i).w + 2 * bw23 l i) ((nd23 l i).h + 2 * bw23 l i) (bw23 l i) (.slice none 0 0)).toArray 44
              rw [World.size_alloc] at hb
              refine name_w (f := Code.wp _ _ _ _) (fun Y hY => ?_)
              obtain ⟨p13, hp13⟩ : ∃ k, Z.heap.size = k := ⟨_, rfl⟩
              have hM9 : M23 l w Y pt bm (m + 1 + 1 + 1 + 1 + 1) (upd (upd B8 (m + 1 + 1 + 1) ⟨Z.heap.size, (boxC (nd23 l i).x (nd23 l i).y ((nd23 l i).w + 2 * bw23 l i) ((nd23 l i).h + 2 * bw23 l i) (bw23 l i) (.slice none 0 0)).toArray, 108⟩) (m + 1 + 1 + 1 + 1) ⟨Z.heap.size + 1, (box18 true (nd23 l i).x (nd23 l i).y ((nd23 l i).w + 2 * bw23 l i) ((nd23 l i).h + 2 * bw23 l i) (bw23 l i) (.slice none 0 0)).toArray, 44⟩) bn bx g i i (i + 1) (i + 1) i i i i aL cL a1 c1 R1 f2 Ob := by rw [hY]; exact hb
              rw [hp13] at hM9 ⊢
              have HM9 := Lib.hid hM9
              clear ha hb hM9 hY HM5 e6 l6 o6 wb2 ww3 wh3 hp13
              have H6 : Has Y p6 #[.int .u8 (nd23 l i).p, .int .i16 (nd23 l i).x, .int .i16 (nd23 l i).y, .int .u16 (nd23 l i).w, .int .u16 (nd23 l i).h, .int .u16 (nd23 l i).bd, .int .u8 (nd23 l i).ov, .bool (tx23 l i), .bool (hid23 l i)] 102 := by have := HM9.out.mt.wd.has m (by omega); rw [upd_other _ _ (by omega), upd_other _ _ (by omega), K6.out] at this; exact this
              have H13 : Has Y p13 (boxC (nd23 l i).x (nd23 l i).y ((nd23 l i).w + 2 * bw23 l i) ((nd23 l i).h + 2 * bw23 l i) (bw23 l i) (.slice none 0 0)).toArray 108 := by have := HM9.out.mt.wd.has (m + 1 + 1 + 1) (by omega); rw [upd_other _ _ (by omega), upd_same] at this; exact this
              have H14 : Has Y (p13 + 1) (box18 true (nd23 l i).x (nd23 l i).y ((nd23 l i).w + 2 * bw23 l i) ((nd23 l i).h + 2 * bw23 l i) (bw23 l i) (.slice none 0 0)).toArray 44 := by have := HM9.out.mt.wd.has (m + 1 + 1 + 1 + 1) (by omega); rw [upd_same] at this; exact this
              have n1 : ¬ p6 = p13 := fun e => by subst e; exact absurd (show 102 = 108 from has_ty H6 H13) (by decide)
              have n2 : ¬ p6 = p13 + 1 := fun e => by rw [e] at H6; exact absurd (show 102 = 44 from has_ty H6 H14) (by decide)
              have e6 := H6.cells; have l6 := H6.lt; have o6 : Old Y p6 := l6
              have l13 := H13.lt; have l14 := H14.lt
              go_cut [] (fun wx => ∃ m' B' x R f O, M23 l w wx pt bm m' B' bn bx (upd g i x) i i (i + 1) (i + 1) i i i (i + 1) aL cL a1 c1 R f O ∧ f (2 + i) = ⟨3, 1, .slice none 0 0, 0, []⟩ ∧ m + 1 + 1 + 1 + 1 < m' ∧ b23 p2 p4 pt bn bx i aL cL a1 c1 B' ∧ B' m = ⟨p6, c23 (nd23 l i) (tx23 l i) (hid23 l i), 102⟩ ∧ B' (m + 1) = ⟨p10, (styC 0 false 0 (1 + (nd23 l i).ov % 3)).toArray, 74⟩ ∧ B' (m + 1 + 1) = ⟨p10 + 1, (nodeC 0 false 0 (1 + (nd23 l i).ov % 3) (tx23 l i) (.slice none 0 0) (pa23 l i)).toArray, 68⟩ ∧ B' (m + 1 + 1 + 1) = ⟨p13, (bxV l i x.1).toArray, 108⟩ ∧ B' (m + 1 + 1 + 1 + 1) = ⟨p13 + 1, (byV l i x.2).toArray, 44⟩)
              case first =>
                as_aux_lemma =>
                  have h2' := h2
                  rcases ht : tx23 l i with _ | _
                  · rw [ht] at e6
                    go_wp2_with fail
                    go_meet
                    have hv1 : ∀ b, bxV l i b = boxC (nd23 l i).x (nd23 l i).y ((nd23 l i).w + 2 * bw23 l i) ((nd23 l i).h + 2 * bw23 l i) (bw23 l i) (.slice none 0 0) := fun b => by unfold bxV; rw [ht]; rfl
                    have hv2 : ∀ b, byV l i b = box18 true (nd23 l i).x (nd23 l i).y ((nd23 l i).w + 2 * bw23 l i) ((nd23 l i).h + 2 * bw23 l i) (bw23 l i) (.slice none 0 0) := fun b => by unfold byV; rw [ht]; rfl
                    refine ⟨_, _, (0, 0), R1, f2, _, HM9.out.told (0, 0) (Nat.le_refl _) (Nat.le_refl _) (fun q => by rw [ht] at q; cases q), HF2.out, by omega, ⟨?_, ?_⟩, ?_, ?_, ?_, ?_, ?_⟩
                    · rw [upd_other _ _ (by omega), upd_other _ _ (by omega)]; exact HB8.out.1
                    · rw [upd_other _ _ (by omega), upd_other _ _ (by omega)]; exact HB8.out.2
                    · rw [upd_other _ _ (by omega), upd_other _ _ (by omega)]; exact K6.out
                    · rw [upd_other _ _ (by omega), upd_other _ _ (by omega)]; exact K10.out
                    · rw [upd_other _ _ (by omega), upd_other _ _ (by omega)]; exact K11.out
                    · rw [upd_other _ _ (by omega), upd_same, hv1]
                    · rw [upd_same, hv2]
                  · rw [ht] at e6
                    have hv1 : ∀ b, bxV l i b = boxC 0 0 0 0 0 (pc1 b) := fun b => by unfold bxV; rw [ht]; rfl
                    have hv2 : ∀ b, byV l i b = box18 true 0 0 0 0 0 (pc1 b) := fun b => by unfold byV; rw [ht]; rfl
                    have HV1 := Lib.hid hv1; have HV2 := Lib.hid hv2
                    have HH13 := Lib.hid H13; have HH14 := Lib.hid H14
                    unfold boxC at H13
                    unfold box18 at H14
                    have o13 : Old Y p13 := l13
                    have o14 : Old Y (p13 + 1) := l14
                    clear hv1 hv2
                    rw [← ov_self H14]
                    rw [← ov_self H13]
                    go_wp2_with fail
                    go_meet
                    clear H13 H14 e6 l6 o6
                    obtain ⟨Oa, ha⟩ := HM9.out.st (q := m + 1 + 1 + 1) (by omega) (boxC 0 0 0 0 0 (pc1 Y.heap.size)).toArray (by rw [upd_other _ _ (by omega), upd_same]; show ¬ (108 = 110); decide) (by rw [upd_other _ _ (by omega), upd_same]; show ¬ (108 = 41); decide)
                    rw [upd_other (upd B8 (m + 1 + 1 + 1) _) _ (show m + 1 + 1 + 1 ≠ m + 1 + 1 + 1 + 1 by omega), upd_same] at ha
                    dsimp only at ha
                    obtain ⟨Ob, hb⟩ := ha.st (q := m + 1 + 1 + 1 + 1) (by omega) (box18 true 0 0 0 0 0 (pc1 (Y.heap.size + 1))).toArray (by rw [upd_other _ _ (by omega), upd_same]; show ¬ (44 = 110); decide) (by rw [upd_other _ _ (by omega), upd_same]; show ¬ (44 = 41); decide)
                    rw [upd_other (upd _ (m + 1 + 1 + 1 + 1) _) _ (show m + 1 + 1 + 1 + 1 ≠ m + 1 + 1 + 1 by omega), upd_same] at hb
                    dsimp only at hb
                    obtain ⟨Oc, hc'⟩ := hb.alloc (pieceC l i) 110
                    obtain ⟨Od, hd⟩ := hc'.alloc (pieceC l i) 41
                    have he := hd.told (Y.heap.size, Y.heap.size + 1) (Nat.le_refl _) (Nat.le_refl _) (fun _ => ⟨m + 1 + 1 + 1 + 1 + 1, m + 1 + 1 + 1 + 1 + 1 + 1, by omega, by omega, by omega, by omega, by rw [upd_other _ _ (by omega), upd_same]; simp only [ov_size], by rw [upd_same]; simp only [World.size_alloc, ov_size]⟩)
                    refine ⟨_, _, _, R1, f2, _, he, HF2.out, by omega, ⟨?_, ?_⟩, ?_, ?_, ?_, ?_, ?_⟩
                    · iterate 6 rw [upd_other _ _ (by omega)]
                      exact HB8.out.1
                    · iterate 6 rw [upd_other _ _ (by omega)]
                      exact HB8.out.2
                    · iterate 6 rw [upd_other _ _ (by omega)]
                      exact K6.out
                    · iterate 6 rw [upd_other _ _ (by omega)]
                      exact K10.out
                    · iterate 6 rw [upd_other _ _ (by omega)]
                      exact K11.out
                    · iterate 3 rw [upd_other _ _ (by omega)]
                      rw [upd_same, HV1.out]
                    · iterate 2 rw [upd_other _ _ (by omega)]
                      rw [upd_same, HV2.out]
              case rest =>
                obtain ⟨m', B9, x, R2, f3, O9, hM9, hf3, hm', hB9, k6, k10, k11, k13, k14⟩ := hcut
                obtain ⟨Q, rfl⟩ : ∃ Q : World, Q = wc := ⟨_, rfl⟩
                have HM9' := Lib.hid hM9; have HB9 := Lib.hid hB9; have HF3 := Lib.hid hf3
                have K6' := Lib.hid k6; have K10' := Lib.hid k10; have K11' := Lib.hid k11; have K13 := Lib.hid k13; have K14 := Lib.hid k14
                clear HM9 HB8 K6 K10 K11 HF2 hM9 hf3 hB9 k6 k10 k11 k13 k14 H6 H13 H14 n1 n2 e6 l6 o6 l13 l14 wx1 wy1 ww1 wh1
                go_upto_region 28 with fail
                go_cut [] (fun wx => ∃ a0' c0' a1' c1' B' f O, M23 l w wx pt bm m' B' bn bx (upd g i x) i i (i + 1) (i + 1) (i + 1) (i + 1) i (i + 1) a0' c0' a1' c1' R2 f O ∧ b23 p2 p4 pt bn bx (i + 1) a0' c0' a1' c1' B' ∧ B' m = ⟨p6, c23 (nd23 l i) (tx23 l i) (hid23 l i), 102⟩ ∧ B' (m + 1) = ⟨p10, (styC 0 false 0 (1 + (nd23 l i).ov % 3)).toArray, 74⟩ ∧ B' (m + 1 + 1 + 1) = ⟨p13, (bxV l i x.1).toArray, 108⟩)
                case first =>
                  as_aux_lemma =>
                    have H4 : Has Q p4 #[.pointer (some ⟨pt, 0, none⟩), .map (some bn), .map (some bx), .slice aL i cL, .int .i64 0, .int .i64 0, .slice a1 i c1] 32 := by have := HM9'.out.mt.wd.has 1 (by omega); rw [HB9.out.2] at this; exact this
                    have H11 : Has Q (p10 + 1) (nodeC 0 false 0 (1 + (nd23 l i).ov % 3) (tx23 l i) (.slice none 0 0) (pa23 l i)).toArray 68 := by have := HM9'.out.mt.wd.has (m + 1 + 1) (by omega); rw [K11'.out] at this; exact this
                    have H14 : Has Q (p13 + 1) (byV l i x.2).toArray 44 := by have := HM9'.out.mt.wd.has (m + 1 + 1 + 1 + 1) (by omega); rw [K14.out] at this; exact this
                    have hap : ∀ q, q < m' → ¬ ((Value.slice aL i cL).ownBlock = some (B9 q).b ∨ (Value.slice a1 i c1).ownBlock = some (B9 q).b) := fun q hq e => by
                      rcases e with e | e
                      · exact HM9'.out.mt.wd.bap q 0 hq (by omega) (by rw [HM9'.out.mt.f0]; exact e)
                      · exact HM9'.out.mt.wd.bap q 1 hq (by omega) (by rw [HM9'.out.f1]; exact e)
                    have HN4 : Hid (¬ ((Value.slice aL i cL).ownBlock = some p4 ∨ (Value.slice a1 i c1).ownBlock = some p4)) := Lib.hid (by have := hap 1 (by omega); rw [HB9.out.2] at this; exact this)
                    have HN11 : Hid (¬ ((Value.slice aL i cL).ownBlock = some (p10 + 1) ∨ (Value.slice a1 i c1).ownBlock = some (p10 + 1))) := Lib.hid (by have := hap (m + 1 + 1) (by omega); rw [K11'.out] at this; exact this)
                    have HN14 : Hid (¬ ((Value.slice aL i cL).ownBlock = some (p13 + 1) ∨ (Value.slice a1 i c1).ownBlock = some (p13 + 1))) := Lib.hid (by have := hap (m + 1 + 1 + 1 + 1) (by omega); rw [K14.out] at this; exact this)
                    have HH11 := Lib.hid H11; have HH14 := Lib.hid H14
                    have e4 := H4.cells; have l4 := H4.lt; have o4 : Old Q p4 := l4
                    have hM := HM9'.out.below (w' := Q.drew) (Below.refl _ _).drew
                    have hf3 := HF3.out
                    have hi14 : i < 14 := by have := ci; unfold cnt23 at this; omega
                    obtain ⟨i0, hi, hz0, hz1, hz2⟩ := info_parts infoN23
                    obtain ⟨j0, hj, hy0, hy1, hy2⟩ := info_parts infoB23
                    clear hap H11 H14 H4
                    refine region_treeS (S := fun wx => ButS (fun b => (Value.slice aL i cL).ownBlock = some b ∨ (Value.slice a1 i c1).ownBlock = some b) Q.heap.size Q wx) ((ButS.refl _ _ _).drew) (.rd 0 (.rd 1 (.rd 2 (.rd 3 (.rd 6 (.rd 7 (.rd 8 (.br 4 (.br 5 (.rd 11 (.rd 12 (.mk 9 (.mk 10 (.lt 13 (.lt 14 (.lt 15 .nl))))))) (.mk 9 (.mk 5 (.rd 11 (.rd 12 (.mk 10 (.lt 13 (.lt 14 (.lt 15 .nl))))))))) (.mk 9 (.mk 4 (.mk 5 (.rd 11 (.rd 12 (.mk 10 (.lt 13 (.lt 14 (.lt 15 .nl))))))))))))))))) (by kernel_rfl) (by kernel_rfl) (fun _ _ d _ _ h => by cases d <;> exact h) (fun hS => ?_)
                    (refine wpT_read (v := ?_) rfl (.inl ⟨by rfl, fun wx hbx => ?_⟩) ?_; rotate_left; (focus (obtain ⟨cx0, fx0⟩ := buts_bk (show ButS _ _ _ _ from hbx) l4 HN4.out; have hx11 := loadN_has ((show ButS _ _ _ _ from hbx).has HH11.out HH11.out.lt HN11.out) rfl; have hx14 := loadY_has ((show ButS _ _ _ _ from hbx).has HH14.out HH14.out.lt HN14.out) (byV_len _ _ _); go_simp; (try go_bits); (try with_reducible rfl))); try simp only [Act.put, List.setIfInBounds_toArray, List.set_cons_zero, List.set_cons_succ])
                    (refine wpT_read (v := ?_) rfl (.inl ⟨by rfl, fun wx hbx => ?_⟩) ?_; rotate_left; (focus (obtain ⟨cx0, fx0⟩ := buts_bk (show ButS _ _ _ _ from hbx) l4 HN4.out; have hx11 := loadN_has ((show ButS _ _ _ _ from hbx).has HH11.out HH11.out.lt HN11.out) rfl; have hx14 := loadY_has ((show ButS _ _ _ _ from hbx).has HH14.out HH14.out.lt HN14.out) (byV_len _ _ _); go_simp; (try go_bits); (try with_reducible rfl))); try simp only [Act.put, List.setIfInBounds_toArray, List.set_cons_zero, List.set_cons_succ])
                    (refine wpT_read (v := ?_) rfl (.inl ⟨by rfl, fun wx hbx => ?_⟩) ?_; rotate_left; (focus (obtain ⟨cx0, fx0⟩ := buts_bk (show ButS _ _ _ _ from hbx) l4 HN4.out; have hx11 := loadN_has ((show ButS _ _ _ _ from hbx).has HH11.out HH11.out.lt HN11.out) rfl; have hx14 := loadY_has ((show ButS _ _ _ _ from hbx).has HH14.out HH14.out.lt HN14.out) (byV_len _ _ _); go_simp; (try go_bits); (try with_reducible rfl))); try simp only [Act.put, List.setIfInBounds_toArray, List.set_cons_zero, List.set_cons_succ])
                    (refine wpT_read (v := ?_) rfl (.inl ⟨by rfl, fun wx hbx => ?_⟩) ?_; rotate_left; (focus (obtain ⟨cx0, fx0⟩ := buts_bk (show ButS _ _ _ _ from hbx) l4 HN4.out; have hx11 := loadN_has ((show ButS _ _ _ _ from hbx).has HH11.out HH11.out.lt HN11.out) rfl; have hx14 := loadY_has ((show ButS _ _ _ _ from hbx).has HH14.out HH14.out.lt HN14.out) (byV_len _ _ _); go_simp; (try go_bits); (try with_reducible rfl))); try simp only [Act.put, List.setIfInBounds_toArray, List.set_cons_zero, List.set_cons_succ])
                    (refine wpT_read (v := ?_) rfl (.inl ⟨by rfl, fun wx hbx => ?_⟩) ?_; rotate_left; (focus (obtain ⟨cx0, fx0⟩ := buts_bk (show ButS _ _ _ _ from hbx) l4 HN4.out; have hx11 := loadN_has ((show ButS _ _ _ _ from hbx).has HH11.out HH11.out.lt HN11.out) rfl; have hx14 := loadY_has ((show ButS _ _ _ _ from hbx).has HH14.out HH14.out.lt HN14.out) (byV_len _ _ _); go_simp; (try go_bits); (try with_reducible rfl))); try simp only [Act.put, List.setIfInBounds_toArray, List.set_cons_zero, List.set_cons_succ])
                    (refine wpT_read (v := ?_) rfl (.inl ⟨by rfl, fun wx hbx => ?_⟩) ?_; rotate_left; (focus (obtain ⟨cx0, fx0⟩ := buts_bk (show ButS _ _ _ _ from hbx) l4 HN4.out; have hx11 := loadN_has ((show ButS _ _ _ _ from hbx).has HH11.out HH11.out.lt HN11.out) rfl; have hx14 := loadY_has ((show ButS _ _ _ _ from hbx).has HH14.out HH14.out.lt HN14.out) (byV_len _ _ _); go_simp; (try go_bits); (try with_reducible rfl))); try simp only [Act.put, List.setIfInBounds_toArray, List.set_cons_zero, List.set_cons_succ])
                    (refine wpT_read (v := ?_) rfl (.inl ⟨by rfl, fun wx hbx => ?_⟩) ?_; rotate_left; (focus (obtain ⟨cx0, fx0⟩ := buts_bk (show ButS _ _ _ _ from hbx) l4 HN4.out; have hx11 := loadN_has ((show ButS _ _ _ _ from hbx).has HH11.out HH11.out.lt HN11.out) rfl; have hx14 := loadY_has ((show ButS _ _ _ _ from hbx).has HH14.out HH14.out.lt HN14.out) (byV_len _ _ _); go_simp; (try go_bits); (try with_reducible rfl))); try simp only [Act.put, List.setIfInBounds_toArray, List.set_cons_zero, List.set_cons_succ])
                    refine wpT_both rfl (fun K hK => ?_) ?_
                    (focus (as_aux_lemma => ((go_simp; have hSn := hS.alloc hS.size (.cells (nodeC 0 false 0 (1 + (nd23 l i).ov % 3) (tx23 l i) (.slice none 0 0) (pa23 l i)).toArray 68); have hn4 := alloc_has hS (nodeC 0 false 0 (1 + (nd23 l i).ov % 3) (tx23 l i) (.slice none 0 0) (pa23 l i)).toArray 68; (try simp only [World.size_alloc, World.size_drew] at hn4); replace hM := hM.below ((Below.refl _ _).alloc (Nat.le_refl _) (.cells (nodeC 0 false 0 (1 + (nd23 l i).ov % 3) (tx23 l i) (.slice none 0 0) (pa23 l i)).toArray 68)); (try replace hn9 := has_alloc (o := .cells (nodeC 0 false 0 (1 + (nd23 l i).ov % 3) (tx23 l i) (.slice none 0 0) (pa23 l i)).toArray 68) hn9); refine hK _ _ hSn (fun hS2 => ?_); clear hK K hS; have hS := hS2; clear hS2 hSn; (try simp only [Act.put, List.setIfInBounds_toArray, List.set_cons_zero, List.set_cons_succ])); refine wpT_both rfl (fun K hK => ?_) ?_; (focus (as_aux_lemma => ((rw [if_pos (by rfl)]; refine wp_append_id (P := Try.prog) _ _ _ _ rfl w.heap.size 68 i0 (.agg (nodeC 0 false 0 0 false (.slice none 0 0) 0).toArray) 65 552 Try.underlying27 hi hz0 hz1 hz2 rfl (by decide) _ _ _ rfl (hM.row0 (by omega) hf3) ⟨_, 0, none⟩ 1 1 (nodeC 0 false 0 (1 + (nd23 l i).ov % 3) (tx23 l i) (.slice none 0 0) (pa23 l i)) rfl rfl (at_has hn4) (one_of rfl) (by unfold maxLen; omega) (by omega) hM.mt.wd.size (by decide) ?_; intro v5 w5 hown5 hgrow5 hid5; obtain ⟨a5, c5, rfl, _, _⟩ := row_reads hown5; replace hgrow5 := grown_as hgrow5 (show _ = (Value.slice aL i cL).ownBlock from rfl); have hSn := hS.trans (((buts_grown hgrow5).less hS.size).more (fun k _ h => .inl h)); (try replace hn9 := has_grown hgrow5 hn9 (own_not (hM.row0 (by omega) hf3) hn9 (by decide))); obtain ⟨f5, O5, hf5, hM5⟩ := hM.app0 (by omega) (a' := a5) (c' := c5) (by rw [hf3]; exact hown5) hgrow5 hid5; replace hM := hM5; clear hM5 hown5 hgrow5 hid5 hn4; refine hK _ _ hSn (fun hS2 => ?_); clear hK K hS; have hS := hS2; clear hS2 hSn; (try simp only [Act.put, List.setIfInBounds_toArray, List.set_cons_zero, List.set_cons_succ])); (refine wpT_read (v := ?_) rfl (.inl ⟨by rfl, fun wx hbx => ?_⟩) ?_; rotate_left; (focus (obtain ⟨cx0, fx0⟩ := buts_bk (show ButS _ _ _ _ from hbx) l4 HN4.out; have hx11 := loadN_has ((show ButS _ _ _ _ from hbx).has HH11.out HH11.out.lt HN11.out) rfl; have hx14 := loadY_has ((show ButS _ _ _ _ from hbx).has HH14.out HH14.out.lt HN14.out) (byV_len _ _ _); go_simp; (try go_bits); (try with_reducible rfl))); try simp only [Act.put, List.setIfInBounds_toArray, List.set_cons_zero, List.set_cons_succ]); (refine wpT_read (v := ?_) rfl (.inl ⟨by rfl, fun wx hbx => ?_⟩) ?_; rotate_left; (focus (obtain ⟨cx0, fx0⟩ := buts_bk (show ButS _ _ _ _ from hbx) l4 HN4.out; have hx11 := loadN_has ((show ButS _ _ _ _ from hbx).has HH11.out HH11.out.lt HN11.out) rfl; have hx14 := loadY_has ((show ButS _ _ _ _ from hbx).has HH14.out HH14.out.lt HN14.out) (byV_len _ _ _); go_simp; (try go_bits); (try with_reducible rfl))); try simp only [Act.put, List.setIfInBounds_toArray, List.set_cons_zero, List.set_cons_succ]); (refine wpT_make rfl (fun K hK => ?_); go_simp; have hSn := hS.alloc hS.size (.cells (byV l i x.2).toArray 44); have hn9 := alloc_has hS (byV l i x.2).toArray 44; (try simp only [World.size_alloc, World.size_drew] at hn9); replace hM := hM.below ((Below.refl _ _).alloc (Nat.le_refl _) (.cells (byV l i x.2).toArray 44)); (try replace hn4 := has_alloc (o := .cells (byV l i x.2).toArray 44) hn4); refine hK _ _ hSn (fun hS2 => ?_); clear hK K hS; have hS := hS2; clear hS2 hSn; (try simp only [Act.put, List.setIfInBounds_toArray, List.set_cons_zero, List.set_cons_succ])); (refine wpT_make rfl (fun K hK => ?_); rw [if_pos (by rfl)]; refine wp_append_id (P := Try.prog) _ _ _ _ rfl w.heap.size 44 j0 (.agg (box18 false 0 0 0 0 0 (.slice none 0 0)).toArray) 18 160 Try.underlying30 hj hy0 hy1 hy2 rfl (by decide) _ _ _ rfl hM.row1 ⟨_, 0, none⟩ 1 1 (byV l i x.2) rfl (by rw [byV_len]) (at_has hn9) (one_of (byV_one _ _ _)) (by unfold maxLen; omega) (by omega) hM.mt.wd.size (by decide) ?_; intro v10 w10 hown10 hgrow10 hid10; obtain ⟨a10, c10, rfl, _, _⟩ := row_reads hown10; replace hgrow10 := grown_as hgrow10 (show _ = (Value.slice a1 i c1).ownBlock from rfl); have hSn := hS.trans (((buts_grown hgrow10).less hS.size).more (fun k _ h => .inr h)); obtain ⟨f10, O10, hf10, hM10⟩ := hM.app1 (Nat.le_refl _) (a' := a10) (c' := c10) (by rw [upd_same]; exact hown10) hgrow10 hid10; replace hM := hM10; clear hM10 hown10 hgrow10 hid10 hn9; refine hK _ _ hSn (fun hS2 => ?_); clear hK K hS; have hS := hS2; clear hS2 hSn; (try simp only [Act.put, List.setIfInBounds_toArray, List.set_cons_zero, List.set_cons_succ])); (refine wpT_late rfl (fun K hK => ?_); have h4 : Has _ p4 #[.pointer (some ⟨pt, 0, none⟩), .map (some bn), .map (some bx), .slice aL i cL, .int .i64 0, .int .i64 0, .slice a1 i c1] 32 := (by have := hM.mt.wd.has 1 (by omega); rw [HB9.out.2] at this; exact this); have z4 := h4.lt; rw [← ov_self h4]; go_simp; refine hK _ _ ?_; clear hK K; (try simp only [Act.put, List.setIfInBounds_toArray, List.set_cons_zero, List.set_cons_succ])); (refine wpT_late rfl (fun K hK => ?_); go_simp; (try simp only []); (try simp only []); refine hK _ _ ?_; clear hK K; try simp only [Act.put, List.setIfInBounds_toArray, List.set_cons_zero, List.set_cons_succ]); (refine wpT_late rfl (fun K hK => ?_); go_simp; (try simp only []); (try simp only []); refine hK _ _ ?_; clear hK K; try simp only [Act.put, List.setIfInBounds_toArray, List.set_cons_zero, List.set_cons_succ]); refine wpT_nil ?_; (try go_wp2_with fail); go_meet; obtain ⟨Oz, hz⟩ := hM.st (q := 1) (by omega) (w23C pt bn bx (.slice a5 (i + 1) c5) (.slice a10 (i + 1) c10)) (by rw [HB9.out.2]; show ¬ (32 = 110); decide) (by rw [HB9.out.2]; show ¬ (32 = 41); decide); rw [HB9.out.2] at hz; dsimp only at hz; exact ⟨a5, c5, a10, c10, _, _, Oz, hz, ⟨by rw [upd_other _ _ (by omega)]; exact HB9.out.1, by rw [upd_same]⟩, by rw [upd_other _ _ (by omega)]; exact K6'.out, by rw [upd_other _ _ (by omega)]; exact K10'.out, by rw [upd_other _ _ (by omega)]; exact K13.out⟩))); (focus (as_aux_lemma => (refine wpT_make rfl (fun K hK => ?_); (go_simp; have hSn := hS.alloc hS.size (.cells (byV l i x.2).toArray 44); have hn9 := alloc_has hS (byV l i x.2).toArray 44; (try simp only [World.size_alloc, World.size_drew] at hn9); replace hM := hM.below ((Below.refl _ _).alloc (Nat.le_refl _) (.cells (byV l i x.2).toArray 44)); (try replace hn4 := has_alloc (o := .cells (byV l i x.2).toArray 44) hn4); refine hK _ _ hSn (fun hS2 => ?_); clear hK K hS; have hS := hS2; clear hS2 hSn; (try simp only [Act.put, List.setIfInBounds_toArray, List.set_cons_zero, List.set_cons_succ])); (refine wpT_make rfl (fun K hK => ?_); rw [if_pos (by rfl)]; refine wp_append_id (P := Try.prog) _ _ _ _ rfl w.heap.size 68 i0 (.agg (nodeC 0 false 0 0 false (.slice none 0 0) 0).toArray) 65 552 Try.underlying27 hi hz0 hz1 hz2 rfl (by decide) _ _ _ rfl (hM.row0 (by omega) hf3) ⟨_, 0, none⟩ 1 1 (nodeC 0 false 0 (1 + (nd23 l i).ov % 3) (tx23 l i) (.slice none 0 0) (pa23 l i)) rfl rfl (at_has hn4) (one_of rfl) (by unfold maxLen; omega) (by omega) hM.mt.wd.size (by decide) ?_; intro v5 w5 hown5 hgrow5 hid5; obtain ⟨a5, c5, rfl, _, _⟩ := row_reads hown5; replace hgrow5 := grown_as hgrow5 (show _ = (Value.slice aL i cL).ownBlock from rfl); have hSn := hS.trans (((buts_grown hgrow5).less hS.size).more (fun k _ h => .inl h)); (try replace hn9 := has_grown hgrow5 hn9 (own_not (hM.row0 (by omega) hf3) hn9 (by decide))); obtain ⟨f5, O5, hf5, hM5⟩ := hM.app0 (by omega) (a' := a5) (c' := c5) (by rw [hf3]; exact hown5) hgrow5 hid5; replace hM := hM5; clear hM5 hown5 hgrow5 hid5 hn4; refine hK _ _ hSn (fun hS2 => ?_); clear hK K hS; have hS := hS2; clear hS2 hSn; (try simp only [Act.put, List.setIfInBounds_toArray, List.set_cons_zero, List.set_cons_succ])); (refine wpT_read (v := ?_) rfl (.inl ⟨by rfl, fun wx hbx => ?_⟩) ?_; rotate_left; (focus (obtain ⟨cx0, fx0⟩ := buts_bk (show ButS _ _ _ _ from hbx) l4 HN4.out; have hx11 := loadN_has ((show ButS _ _ _ _ from hbx).has HH11.out HH11.out.lt HN11.out) rfl; have hx14 := loadY_has ((show ButS _ _ _ _ from hbx).has HH14.out HH14.out.lt HN14.out) (byV_len _ _ _); go_simp; (try go_bits); (try with_reducible rfl))); try simp only [Act.put, List.setIfInBounds_toArray, List.set_cons_zero, List.set_cons_succ]); (refine wpT_read (v := ?_) rfl (.inl ⟨by rfl, fun wx hbx => ?_⟩) ?_; rotate_left; (focus (obtain ⟨cx0, fx0⟩ := buts_bk (show ButS _ _ _ _ from hbx) l4 HN4.out; have hx11 := loadN_has ((show ButS _ _ _ _ from hbx).has HH11.out HH11.out.lt HN11.out) rfl; have hx14 := loadY_has ((show ButS _ _ _ _ from hbx).has HH14.out HH14.out.lt HN14.out) (byV_len _ _ _); go_simp; (try go_bits); (try with_reducible rfl))); try simp only [Act.put, List.setIfInBounds_toArray, List.set_cons_zero, List.set_cons_succ]); (refine wpT_make rfl (fun K hK => ?_); rw [if_pos (by rfl)]; refine wp_append_id (P := Try.prog) _ _ _ _ rfl w.heap.size 44 j0 (.agg (box18 false 0 0 0 0 0 (.slice none 0 0)).toArray) 18 160 Try.underlying30 hj hy0 hy1 hy2 rfl (by decide) _ _ _ rfl hM.row1 ⟨_, 0, none⟩ 1 1 (byV l i x.2) rfl (by rw [byV_len]) (at_has hn9) (one_of (byV_one _ _ _)) (by unfold maxLen; omega) (by omega) hM.mt.wd.size (by decide) ?_; intro v10 w10 hown10 hgrow10 hid10; obtain ⟨a10, c10, rfl, _, _⟩ := row_reads hown10; replace hgrow10 := grown_as hgrow10 (show _ = (Value.slice a1 i c1).ownBlock from rfl); have hSn := hS.trans (((buts_grown hgrow10).less hS.size).more (fun k _ h => .inr h)); obtain ⟨f10, O10, hf10, hM10⟩ := hM.app1 (Nat.le_refl _) (a' := a10) (c' := c10) (by rw [upd_same]; exact hown10) hgrow10 hid10; replace hM := hM10; clear hM10 hown10 hgrow10 hid10 hn9; refine hK _ _ hSn (fun hS2 => ?_); clear hK K hS; have hS := hS2; clear hS2 hSn; (try simp only [Act.put, List.setIfInBounds_toArray, List.set_cons_zero, List.set_cons_succ])); (refine wpT_late rfl (fun K hK => ?_); have h4 : Has _ p4 #[.pointer (some ⟨pt, 0, none⟩), .map (some bn), .map (some bx), .slice aL i cL, .int .i64 0, .int .i64 0, .slice a1 i c1] 32 := (by have := hM.mt.wd.has 1 (by omega); rw [HB9.out.2] at this; exact this); have z4 := h4.lt; rw [← ov_self h4]; go_simp; refine hK _ _ ?_; clear hK K; (try simp only [Act.put, List.setIfInBounds_toArray, List.set_cons_zero, List.set_cons_succ])); (refine wpT_late rfl (fun K hK => ?_); go_simp; (try simp only []); (try simp only []); refine hK _ _ ?_; clear hK K; try simp only [Act.put, List.setIfInBounds_toArray, List.set_cons_zero, List.set_cons_succ]); (refine wpT_late rfl (fun K hK => ?_); go_simp; (try simp only []); (try simp only []); refine hK _ _ ?_; clear hK K; try simp only [Act.put, List.setIfInBounds_toArray, List.set_cons_zero, List.set_cons_succ]); refine wpT_nil ?_; (try go_wp2_with fail); go_meet; obtain ⟨Oz, hz⟩ := hM.st (q := 1) (by omega) (w23C pt bn bx (.slice a5 (i + 1) c5) (.slice a10 (i + 1) c10)) (by rw [HB9.out.2]; show ¬ (32 = 110); decide) (by rw [HB9.out.2]; show ¬ (32 = 41); decide); rw [HB9.out.2] at hz; dsimp only at hz; exact ⟨a5, c5, a10, c10, _, _, Oz, hz, ⟨by rw [upd_other _ _ (by omega)]; exact HB9.out.1, by rw [upd_same]⟩, by rw [upd_other _ _ (by omega)]; exact K6'.out, by rw [upd_other _ _ (by omega)]; exact K10'.out, by rw [upd_other _ _ (by omega)]; exact K13.out⟩))))))
                    (focus (as_aux_lemma => (refine wpT_make rfl (fun K hK => ?_); (go_simp; have hSn := hS.alloc hS.size (.cells (byV l i x.2).toArray 44); have hn9 := alloc_has hS (byV l i x.2).toArray 44; (try simp only [World.size_alloc, World.size_drew] at hn9); replace hM := hM.below ((Below.refl _ _).alloc (Nat.le_refl _) (.cells (byV l i x.2).toArray 44)); (try replace hn4 := has_alloc (o := .cells (byV l i x.2).toArray 44) hn4); refine hK _ _ hSn (fun hS2 => ?_); clear hK K hS; have hS := hS2; clear hS2 hSn; (try simp only [Act.put, List.setIfInBounds_toArray, List.set_cons_zero, List.set_cons_succ])); (refine wpT_make rfl (fun K hK => ?_); go_simp; have hSn := hS.alloc hS.size (.cells (nodeC 0 false 0 (1 + (nd23 l i).ov % 3) (tx23 l i) (.slice none 0 0) (pa23 l i)).toArray 68); have hn4 := alloc_has hS (nodeC 0 false 0 (1 + (nd23 l i).ov % 3) (tx23 l i) (.slice none 0 0) (pa23 l i)).toArray 68; (try simp only [World.size_alloc, World.size_drew] at hn4); replace hM := hM.below ((Below.refl _ _).alloc (Nat.le_refl _) (.cells (nodeC 0 false 0 (1 + (nd23 l i).ov % 3) (tx23 l i) (.slice none 0 0) (pa23 l i)).toArray 68)); (try replace hn9 := has_alloc (o := .cells (nodeC 0 false 0 (1 + (nd23 l i).ov % 3) (tx23 l i) (.slice none 0 0) (pa23 l i)).toArray 68) hn9); refine hK _ _ hSn (fun hS2 => ?_); clear hK K hS; have hS := hS2; clear hS2 hSn; (try simp only [Act.put, List.setIfInBounds_toArray, List.set_cons_zero, List.set_cons_succ])); (refine wpT_make rfl (fun K hK => ?_); rw [if_pos (by rfl)]; refine wp_append_id (P := Try.prog) _ _ _ _ rfl w.heap.size 68 i0 (.agg (nodeC 0 false 0 0 false (.slice none 0 0) 0).toArray) 65 552 Try.underlying27 hi hz0 hz1 hz2 rfl (by decide) _ _ _ rfl (hM.row0 (by omega) hf3) ⟨_, 0, none⟩ 1 1 (nodeC 0 false 0 (1 + (nd23 l i).ov % 3) (tx23 l i) (.slice none 0 0) (pa23 l i)) rfl rfl (at_has hn4) (one_of rfl) (by unfold maxLen; omega) (by omega) hM.mt.wd.size (by decide) ?_; intro v5 w5 hown5 hgrow5 hid5; obtain ⟨a5, c5, rfl, _, _⟩ := row_reads hown5; replace hgrow5 := grown_as hgrow5 (show _ = (Value.slice aL i cL).ownBlock from rfl); have hSn := hS.trans (((buts_grown hgrow5).less hS.size).more (fun k _ h => .inl h)); (try replace hn9 := has_grown hgrow5 hn9 (own_not (hM.row0 (by omega) hf3) hn9 (by decide))); obtain ⟨f5, O5, hf5, hM5⟩ := hM.app0 (by omega) (a' := a5) (c' := c5) (by rw [hf3]; exact hown5) hgrow5 hid5; replace hM := hM5; clear hM5 hown5 hgrow5 hid5 hn4; refine hK _ _ hSn (fun hS2 => ?_); clear hK K hS; have hS := hS2; clear hS2 hSn; (try simp only [Act.put, List.setIfInBounds_toArray, List.set_cons_zero, List.set_cons_succ])); (refine wpT_read (v := ?_) rfl (.inl ⟨by rfl, fun wx hbx => ?_⟩) ?_; rotate_left; (focus (obtain ⟨cx0, fx0⟩ := buts_bk (show ButS _ _ _ _ from hbx) l4 HN4.out; have hx11 := loadN_has ((show ButS _ _ _ _ from hbx).has HH11.out HH11.out.lt HN11.out) rfl; have hx14 := loadY_has ((show ButS _ _ _ _ from hbx).has HH14.out HH14.out.lt HN14.out) (byV_len _ _ _); go_simp; (try go_bits); (try with_reducible rfl))); try simp only [Act.put, List.setIfInBounds_toArray, List.set_cons_zero, List.set_cons_succ]); (refine wpT_read (v := ?_) rfl (.inl ⟨by rfl, fun wx hbx => ?_⟩) ?_; rotate_left; (focus (obtain ⟨cx0, fx0⟩ := buts_bk (show ButS _ _ _ _ from hbx) l4 HN4.out; have hx11 := loadN_has ((show ButS _ _ _ _ from hbx).has HH11.out HH11.out.lt HN11.out) rfl; have hx14 := loadY_has ((show ButS _ _ _ _ from hbx).has HH14.out HH14.out.lt HN14.out) (byV_len _ _ _); go_simp; (try go_bits); (try with_reducible rfl))); try simp only [Act.put, List.setIfInBounds_toArray, List.set_cons_zero, List.set_cons_succ]); (refine wpT_make rfl (fun K hK => ?_); rw [if_pos (by rfl)]; refine wp_append_id (P := Try.prog) _ _ _ _ rfl w.heap.size 44 j0 (.agg (box18 false 0 0 0 0 0 (.slice none 0 0)).toArray) 18 160 Try.underlying30 hj hy0 hy1 hy2 rfl (by decide) _ _ _ rfl hM.row1 ⟨_, 0, none⟩ 1 1 (byV l i x.2) rfl (by rw [byV_len]) (at_has hn9) (one_of (byV_one _ _ _)) (by unfold maxLen; omega) (by omega) hM.mt.wd.size (by decide) ?_; intro v10 w10 hown10 hgrow10 hid10; obtain ⟨a10, c10, rfl, _, _⟩ := row_reads hown10; replace hgrow10 := grown_as hgrow10 (show _ = (Value.slice a1 i c1).ownBlock from rfl); have hSn := hS.trans (((buts_grown hgrow10).less hS.size).more (fun k _ h => .inr h)); obtain ⟨f10, O10, hf10, hM10⟩ := hM.app1 (Nat.le_refl _) (a' := a10) (c' := c10) (by rw [upd_same]; exact hown10) hgrow10 hid10; replace hM := hM10; clear hM10 hown10 hgrow10 hid10 hn9; refine hK _ _ hSn (fun hS2 => ?_); clear hK K hS; have hS := hS2; clear hS2 hSn; (try simp only [Act.put, List.setIfInBounds_toArray, List.set_cons_zero, List.set_cons_succ])); (refine wpT_late rfl (fun K hK => ?_); have h4 : Has _ p4 #[.pointer (some ⟨pt, 0, none⟩), .map (some bn), .map (some bx), .slice aL i cL, .int .i64 0, .int .i64 0, .slice a1 i c1] 32 := (by have := hM.mt.wd.has 1 (by omega); rw [HB9.out.2] at this; exact this); have z4 := h4.lt; rw [← ov_self h4]; go_simp; refine hK _ _ ?_; clear hK K; (try simp only [Act.put, List.setIfInBounds_toArray, List.set_cons_zero, List.set_cons_succ])); (refine wpT_late rfl (fun K hK => ?_); go_simp; (try simp only []); (try simp only []); refine hK _ _ ?_; clear hK K; try simp only [Act.put, List.setIfInBounds_toArray, List.set_cons_zero, List.set_cons_succ]); (refine wpT_late rfl (fun K hK => ?_); go_simp; (try simp only []); (try simp only []); refine hK _ _ ?_; clear hK K; try simp only [Act.put, List.setIfInBounds_toArray, List.set_cons_zero, List.set_cons_succ]); refine wpT_nil ?_; (try go_wp2_with fail); go_meet; obtain ⟨Oz, hz⟩ := hM.st (q := 1) (by omega) (w23C pt bn bx (.slice a5 (i + 1) c5) (.slice a10 (i + 1) c10)) (by rw [HB9.out.2]; show ¬ (32 = 110); decide) (by rw [HB9.out.2]; show ¬ (32 = 41); decide); rw [HB9.out.2] at hz; dsimp only at hz; exact ⟨a5, c5, a10, c10, _, _, Oz, hz, ⟨by rw [upd_other _ _ (by omega)]; exact HB9.out.1, by rw [upd_same]⟩, by rw [upd_other _ _ (by omega)]; exact K6'.out, by rw [upd_other _ _ (by omega)]; exact K10'.out, by rw [upd_other _ _ (by omega)]; exact K13.out⟩)))
                case rest =>
                  as_aux_lemma =>
                    obtain ⟨aL', cL', a1', c1', B10, f4, O10, hM10, hB10, k6, k10, k13⟩ := hcut
                    obtain ⟨V, rfl⟩ : ∃ V : World, V = wc := ⟨_, rfl⟩
                    have H4 : Has V p4 #[.pointer (some ⟨pt, 0, none⟩), .map (some bn), .map (some bx), .slice aL' (i + 1) cL', .int .i64 0, .int .i64 0, .slice a1' (i + 1) c1'] 32 := by have := hM10.mt.wd.has 1 (by omega); rw [hB10.2] at this; exact this
                    have H6 : Has V p6 #[.int .u8 (nd23 l i).p, .int .i16 (nd23 l i).x, .int .i16 (nd23 l i).y, .int .u16 (nd23 l i).w, .int .u16 (nd23 l i).h, .int .u16 (nd23 l i).bd, .int .u8 (nd23 l i).ov, .bool (tx23 l i), .bool (hid23 l i)] 102 := by have := hM10.mt.wd.has m (by omega); rw [k6] at this; exact this
                    have H10 : Has V p10 (styC 0 false 0 (1 + (nd23 l i).ov % 3)).toArray 74 := by have := hM10.mt.wd.has (m + 1) (by omega); rw [k10] at this; exact this
                    have H13 : Has V p13 (bxV l i x.1).toArray 108 := by have := hM10.mt.wd.has (m + 1 + 1 + 1) (by omega); rw [k13] at this; exact this
                    have hl10 := loadS_has H10 rfl
                    have e4 := H4.cells; have l4 := H4.lt; have o4 : Old V p4 := l4
                    have e6 := H6.cells; have l6 := H6.lt; have o6 : Old V p6 := l6
                    have okn : MapOk V bn := hM10.mt.wd.mok 0 (by omega)
                    have oln : Old V bn := okn.lt
                    obtain ⟨Op, hMp⟩ := hM10.put0
                    have HMP := Lib.hid hMp; have HB10 := Lib.hid hB10; have K6a := Lib.hid k6; have K13a := Lib.hid k13
                    clear hM10 hMp hB10 k6 k10 k13 HM9' HB9 K6' K10' K11' K13 K14 HF3 H4 H6 H10 H13
                    go_upto_region 30 with fail
                    refine name_w (f := Code.wp _ _ _ _) (fun V1 hV1 => ?_)
                    have hMq : M23 l w V1 pt bm m' B10 bn bx (upd g i x) (i + 1) i (i + 1) (i + 1) (i + 1) (i + 1) i (i + 1) aL' cL' a1' c1' R2 f4 Op := by rw [hV1]; exact HMP.out
                    have HMQ := Lib.hid hMq
                    clear hV1 hMq HMP e4 l4 o4 e6 l6 o6 okn oln hl10
                    have H13 : Has V1 p13 (bxV l i x.1).toArray 108 := by have := HMQ.out.mt.wd.has (m + 1 + 1 + 1) (by omega); rw [K13a.out] at this; exact this
                    have hl13 := loadB_has H13 (bxV_len _ _ _)
                    have H4 : Has V1 p4 #[.pointer (some ⟨pt, 0, none⟩), .map (some bn), .map (some bx), .slice aL' (i + 1) cL', .int .i64 0, .int .i64 0, .slice a1' (i + 1) c1'] 32 := by have := HMQ.out.mt.wd.has 1 (by omega); rw [HB10.out.2] at this; exact this
                    have e4 := H4.cells; have l4 := H4.lt; have o4 : Old V1 p4 := l4
                    have okx : MapOk V1 bx := HMQ.out.mt.wd.mok 1 (by omega)
                    have olx : Old V1 bx := okx.lt
                    clear H13 H4
                    go_upto_region 31 with fail
                    refine name_w (f := Code.wp _ _ _ _) (fun V2 hV2 => ?_)
                    obtain ⟨O2, M2, Oq, hk2, hb1, hb0, hdel⟩ : ∃ O2 M2 Oq, Mt (V23 l) (pa23 l) 2 w V2 pt bm m' B10 2 M2 (i + 1) (i + 1) (i + 1) aL' cL' R2 f4 O2 ∧ (M2 1).b = bx ∧ (M2 0).b = bn ∧ (there23 l i = false → M23 l w (delM V2 bx i) pt bm m' B10 bn bx (upd g i x) (i + 1) (i + 1) (i + 1) (i + 1) (i + 1) (i + 1) i (i + 1) aL' cL' a1' c1' R2 f4 Oq) := by
                      rcases hth : there23 l i with _ | _
                      · obtain ⟨Oa, Ma, Ob, q1, q2, q3, q4⟩ := HMQ.out.putDel hth (.agg (bxV l i x.1).toArray)
                        exact ⟨Oa, Ma, Ob, by rw [hV2]; exact q1, q2, q3, fun _ => by rw [hV2]; exact q4⟩
                      · obtain ⟨Oa, q⟩ := HMQ.out.put1 hth
                        rw [upd_same] at q
                        exact ⟨Oa, _, Oa, by rw [hV2]; exact q.mt, rfl, rfl, fun h => by cases h⟩
                    have HK2 := Lib.hid hk2
                    have HDEL := Lib.hid hdel
                    have HV2 := Lib.hid hV2
                    clear hk2 hdel hV2 e4 l4 o4 okx olx hl13
                    have H4 : Has V2 p4 #[.pointer (some ⟨pt, 0, none⟩), .map (some bn), .map (some bx), .slice aL' (i + 1) cL', .int .i64 0, .int .i64 0, .slice a1' (i + 1) c1'] 32 := by have := HK2.out.wd.has 1 (by omega); rw [HB10.out.2] at this; exact this
                    have H6 : Has V2 p6 #[.int .u8 (nd23 l i).p, .int .i16 (nd23 l i).x, .int .i16 (nd23 l i).y, .int .u16 (nd23 l i).w, .int .u16 (nd23 l i).h, .int .u16 (nd23 l i).bd, .int .u8 (nd23 l i).ov, .bool (tx23 l i), .bool (hid23 l i)] 102 := by have := HK2.out.wd.has m (by omega); rw [K6a.out] at this; exact this
                    have e4 := H4.cells; have l4 := H4.lt; have o4 : Old V2 p4 := l4
                    have e6 := H6.cells; have l6 := H6.lt; have o6 : Old V2 p6 := l6
                    have hrow := HK2.out.wd.fam.row 1 (by omega)
                    rw [HMQ.out.f1] at hrow
                    dsimp only at hrow
                    obtain ⟨_, _, e1r, _, _, r1⟩ := row_reads hrow
                    cases e1r
                    obtain ⟨gr, rfl, _, lgr, c1r⟩ := r1 (by omega)
                    have ogr : Old V2 gr := lgr
                    have hi1 : (i : Int) < (i : Int) + 1 := by omega
                    have hi00 : (0 : Int) ≤ i := by omega
                    have hi60 : i < 14 := by have := ci; unfold cnt23 at this; omega
                    have HC1 := Lib.hid c1r
                    have HROW := Lib.hid hrow
                    clear r1 c1r hrow H4 H6
                    rcases hth : there23 l i with _ | _
                    · have c0 : 0 < i := by
                        rcases Nat.eq_zero_or_pos i with c | c
                        · subst c; rw [there23_zero] at hth; cases hth
                        · exact c
                      have hM3 := HDEL.out hth
                      have HM3 := Lib.hid hM3
                      have okx : MapOk V2 bx := by have := HK2.out.wd.mok 1 (by omega); rw [hb1] at this; exact this
                      clear HDEL hM3 HMQ
                      rcases hh : hid23 l i with _ | _
                      · as_aux_lemma =>
                          have hp := there23_pos l c0
                          rw [hth, hh] at hp
                          have hpt : there23 l (pa23 l i) = false := by simpa using hp.symm
                          have hlt := pa23_lt l c0
                          have kq := HC1.out (pa23 l i * 18 + 0) (.bool false) ((rng_get (fun k => wV_len l _ _ k) (by omega) (by omega)).trans (by unfold wV; rw [if_pos hlt, b22V_there, hpt]))
                          rw [Nat.add_zero] at kq
                          have c0I : (0 : Int) < i := by omega
                          have hqI : ((pa23 l i : Nat) : Int) < (i : Int) + 1 := by omega
                          have hq0 : (0 : Int) ≤ ((pa23 l i : Nat) : Int) := by omega
                          rw [hh] at e6
                          clear hp hpt
                          go_upto_region 33 with fail
                          refine name_w (f := Code.wp _ _ _ _) (fun V3 hV3 => ?_)
                          have hM4 := HM3.out
                          rw [← hV3] at hM4
                          have H4 : Has V3 p4 #[.pointer (some ⟨pt, 0, none⟩), .map (some bn), .map (some bx), .slice aL' (i + 1) cL', .int .i64 0, .int .i64 0, .slice (some ⟨gr, 0, none⟩) (i + 1) c1'] 32 := by have := hM4.mt.wd.has 1 (by omega); rw [HB10.out.2] at this; exact this
                          have hrow3 := hM4.mt.wd.fam.row 1 (by omega)
                          rw [hM4.f1] at hrow3
                          dsimp only at hrow3
                          have hth3 : V3.there gr (i * 18) 18 := there_row hrow3 (by omega)
                          obtain ⟨f5, O5, hM5⟩ := hM4.clear rfl rfl hth
                          have HM5 := Lib.hid hM5
                          clear HM3 hM4 hM5 hV3 hrow3 HC1 HROW HK2 e4 l4 o4 e6 l6 o6
                          have e4 := H4.cells; have l4 := H4.lt; have o4 : Old V3 p4 := l4
                          clear H4
                          go_wp2_with fail
                          exact ⟨⟨i + 1, m', B10, upd g i x, aL', cL', some ⟨gr, 0, none⟩, c1', R2, f5, O5, by push_cast; rfl, by omega, HM5.out, HB10.out⟩, by simp only [intOf]; omega⟩
                      · as_aux_lemma =>
                          rw [hh] at e6
                          go_upto_region 33 with fail
                          refine name_w (f := Code.wp _ _ _ _) (fun V3 hV3 => ?_)
                          have hM4 := HM3.out
                          rw [← hV3] at hM4
                          have H4 : Has V3 p4 #[.pointer (some ⟨pt, 0, none⟩), .map (some bn), .map (some bx), .slice aL' (i + 1) cL', .int .i64 0, .int .i64 0, .slice (some ⟨gr, 0, none⟩) (i + 1) c1'] 32 := by have := hM4.mt.wd.has 1 (by omega); rw [HB10.out.2] at this; exact this
                          have hrow3 := hM4.mt.wd.fam.row 1 (by omega)
                          rw [hM4.f1] at hrow3
                          dsimp only at hrow3
                          have hth3 : V3.there gr (i * 18) 18 := there_row hrow3 (by omega)
                          obtain ⟨f5, O5, hM5⟩ := hM4.clear rfl rfl hth
                          have HM5 := Lib.hid hM5
                          clear HM3 hM4 hM5 hV3 hrow3 HC1 HROW HK2 e4 l4 o4 e6 l6 o6
                          have e4 := H4.cells; have l4 := H4.lt; have o4 : Old V3 p4 := l4
                          clear H4
                          go_wp2_with fail
                          exact ⟨⟨i + 1, m', B10, upd g i x, aL', cL', some ⟨gr, 0, none⟩, c1', R2, f5, O5, by push_cast; rfl, by omega, HM5.out, HB10.out⟩, by simp only [intOf]; omega⟩
                    · have hM2 : ∃ O, M23 l w V2 pt bm m' B10 bn bx (upd g i x) (i + 1) (i + 1) (i + 1) (i + 1) (i + 1) (i + 1) (i + 1) (i + 1) aL' cL' (some ⟨gr, 0, none⟩) c1' R2 f4 O := by
                        obtain ⟨Oa, q⟩ := HMQ.out.put1 hth
                        rw [upd_same] at q
                        exact ⟨Oa, by rw [HV2.out]; exact q.keep hth⟩
                      obtain ⟨Oe, hM2⟩ := hM2
                      have HM2e := Lib.hid hM2
                      clear hM2 HK2 HDEL HV2 HMQ
                      rcases Nat.eq_zero_or_pos i with c0 | c0
                      · subst c0
                        have hh : hid23 l 0 = false := by unfold hid23; simp
                        rw [hh] at e6
                        go_wp2_with fail
                        exact ⟨⟨1, m', B10, upd g 0 x, aL', cL', some ⟨gr, 0, none⟩, c1', R2, f4, Oe, rfl, by omega, HM2e.out, HB10.out⟩, by simp only [intOf]; omega⟩
                      · have hp := there23_pos l c0
                        rw [hth] at hp
                        have hh : hid23 l i = false := by rcases q : hid23 l i with _ | _; rfl; rw [q] at hp; cases hp
                        have hpt : there23 l (pa23 l i) = true := by rw [hh] at hp; simpa using hp.symm
                        have hlt := pa23_lt l c0
                        have kq := HC1.out (pa23 l i * 18 + 0) (.bool true) ((rng_get (fun k => wV_len l _ _ k) (by omega) (by omega)).trans (by unfold wV; rw [if_pos hlt, b22V_there, hpt]))
                        rw [Nat.add_zero] at kq
                        have c0I : (0 : Int) < i := by omega
                        have hqI : ((pa23 l i : Nat) : Int) < (i : Int) + 1 := by omega
                        have hq0 : (0 : Int) ≤ ((pa23 l i : Nat) : Int) := by omega
                        rw [hh] at e6
                        clear hp hpt hth
                        go_wp2_with fail
                        exact ⟨⟨i + 1, m', B10, upd g i x, aL', cL', some ⟨gr, 0, none⟩, c1', R2, f4, Oe, by push_cast; rfl, by omega, HM2e.out, HB10.out⟩, by simp only [intOf]; omega⟩
      · rw [show decide (i < cnt23 l) = false from by simpa using ci]
        have H4 : Has wr p4 #[.pointer (some ⟨pt, 0, none⟩), .map (some bn), .map (some bx), .slice aL i cL, .int .i64 0, .int .i64 0, .slice a1 i c1] 32 := by have := HM.out.mt.wd.has 1 (by have := HM.out.m2; omega); rw [HB.out.2] at this; exact this
        have H2 : Has wr p2 #[.pointer none, .map none, .map none, .slice none 0 0, .int .i64 0, .int .i64 0, .slice none 0 0] 32 := by have := HM.out.mt.wd.has 0 (by have := HM.out.m2; omega); rw [HB.out.1] at this; exact this
        have hne : ¬ p4 = p2 := by have := HM.out.mt.wd.bne 1 0 (by have := HM.out.m2; omega) (by have := HM.out.m2; omega) (by omega); rw [HB.out.1, HB.out.2] at this; exact this
        have e4 := H4.cells; have l4 := H4.lt; have o4 : Old wr p4 := l4; have z0 := H2.lt; have f4 := H4.frozen
        rw [← ov_self H2]
        clear H4
        go_wp2_with fail
        refine bodyPost_ret (by simp [results, Try.results11, go_sem, z0]; try rfl) rfl ?_
        obtain rfl : i = cnt23 l := by omega
        obtain ⟨OE, hME⟩ := HM.out.st (q := 0) (by have := HM.out.m2; omega) (w23C pt bn bx (.slice aL (cnt23 l) cL) (.slice a1 (cnt23 l) c1)) (by rw [HB.out.1]; show ¬ (32 = 110); decide) (by rw [HB.out.1]; show ¬ (32 = 41); decide)
        rw [HB.out.1] at hME
        exact ⟨pt, bm, bn, bx, m, _, g, aL, cL, a1, c1, R, f, OE, rfl, hME⟩
end Go.Proofs.Ytjcbphhemmdnjaa
