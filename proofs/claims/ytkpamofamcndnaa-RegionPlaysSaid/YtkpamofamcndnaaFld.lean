/- clapboardref07: fields, by contract. clapboardref07: Moved, none, Count by contract. clapboardref07: Moved by contract. clapboardref07: rows of a field, loaded and compared. -/
import Derived.Test.YtkpamofamcndnaaRegZ
import Derived.Test.YtkpamofamcndnaaBlk
import Derived.Stop.BytesEq
namespace Go.Proofs.Ytkpamofamcndnaa
open Go.RowKit Go.Shelf
set_option linter.unusedSimpArgs false
set_option linter.unusedVariables false
-- below_from_drew
attribute [local go_sem] ov_cell_same ov_cell_other ov_frozen_same ov_frozen_other ov_size ov_setCell_same ov_setCell_other cell_alloc_old frozen_alloc_old setCell_alloc_old old_alloc old_ov old_drew old_drewN old_setCell
attribute [local go_sem ↓] run_max2 run_min2 eql_rect neq_rect

/-- A field's cells. -/
structure FldC (F : Nat → Nat → Bool) (C : Array Value) : Prop where
  size : C.size = 1600
  cell : ∀ y x, y < 40 → x < 40 → C[y * 40 + x]? = some (.bool (F y x))
/-- A field between F and G: G ahead of cell k. -/
def midF (F G : Nat → Nat → Bool) (k : Nat) : Nat → Nat → Bool := fun y x => if y * 40 + x < k then G y x else F y x
theorem midF_zero (F G : Nat → Nat → Bool) : midF F G 0 = F := by funext y x; simp [midF]
theorem FldC.congr {F G : Nat → Nat → Bool} {C : Array Value} (h : FldC F C) (e : ∀ y x, y < 40 → x < 40 → F y x = G y x) : FldC G C := ⟨h.size, fun y x hy hx => by rw [h.cell y x hy hx, e y x hy hx]⟩
theorem midF_all (F G : Nat → Nat → Bool) {C : Array Value} (h : FldC (midF F G 1600) C) : FldC G C := h.congr (fun y x hy hx => by unfold midF; rw [if_pos (by omega)])
theorem FldC.step {F G : Nat → Nat → Bool} {C : Array Value} {y x : Nat} (hy : y < 40) (hx : x < 40) (h : FldC (midF F G (y * 40 + x)) C) : FldC (midF F G (y * 40 + (x + 1))) (C.setIfInBounds (y * 40 + x) (.bool (G y x))) := by
  refine ⟨by rw [Array.size_setIfInBounds]; exact h.size, fun yy xx hyy hxx => ?_⟩
  rw [Array.getElem?_setIfInBounds, h.size]
  by_cases e : y * 40 + x = yy * 40 + xx
  · obtain rfl : y = yy := by omega
    obtain rfl : x = xx := by omega
    rw [if_pos rfl, if_pos (by omega)]
    unfold midF; rw [if_pos (by omega)]
  · rw [if_neg e, h.cell yy xx hyy hxx]
    unfold midF
    by_cases q : yy * 40 + xx < y * 40 + x
    · rw [if_pos q, if_pos (by omega)]
    · rw [if_neg q, if_neg (by omega)]
theorem FldC.row {F G : Nat → Nat → Bool} {C : Array Value} {y : Nat} (h : FldC (midF F G (y * 40 + 40)) C) : FldC (midF F G ((y + 1) * 40)) C := by
  rw [show (y + 1) * 40 = y * 40 + 40 by omega]; exact h
theorem has_set {w : World} {b o : Nat} {C : Array Value} {T : TypeId} {v : Value} (h : Has w b C T) : Has (w.setCell ⟨b, o, none⟩ v) b (C.setIfInBounds o v) T := by
  unfold Has at h ⊢
  simp [World.setCell, Array.getElem?_modify, h]
theorem has_set_ne {w : World} {b b' o : Nat} {C : Array Value} {T : TypeId} {v : Value} (h : Has w b' C T) (hn : b ≠ b') : Has (w.setCell ⟨b, o, none⟩ v) b' C T := by
  unfold Has at h ⊢
  simp [World.setCell, Array.getElem?_modify, h, hn]
theorem fld_xl {ρ : Operand → Value} {d : Option Tmp} {t : TypeId} {x : Operand} {po : String} {af : Array Edge} {g : Option (Nat × Bool)} (w : World) : (execOp ρ ⟨d, .load 29 x, t, po, af, g⟩).run Try.prog w = runLoad Try.prog 29 (ρ x) w := exec_load w
theorem fld_xs {ρ : Operand → Value} {d : Option Tmp} {t : TypeId} {x y : Operand} {po : String} {af : Array Edge} {g : Option (Nat × Bool)} (w : World) : (execOp ρ ⟨d, .store 29 x y, t, po, af, g⟩).run Try.prog w = runStore Try.prog 29 (ρ x) (ρ y) w := exec_store w
theorem fld_l (w : World) (b : Nat) (h : (blkCells w b).size = 1600) : runLoad Try.prog 29 (.pointer (some ⟨b, 0, none⟩)) w = .ok (.value (.agg (blkCells w b))) w := runLoad_blk Try.underlying29 rfl (by kernel_rfl) (by omega) w b h
theorem fld_s (w : World) (b : Nat) (C : Array Value) (h : (blkCells w b).size = 1600) (hl : C.size = 1600) (h1 : allOne C.toList = true) : runStore Try.prog 29 (.pointer (some ⟨b, 0, none⟩)) (.agg C) w = .ok .skip (putBlk w b C) := runStore_blk (l := C.toList) (by kernel_rfl) (by omega) w b h (by simpa using hl) h1
theorem zero_size : Try.zeroCells29.size = 1600 := by kernel_rfl
theorem has_put {w : World} {b : Nat} {C D : Array Value} {T : TypeId} (h : Has w b C T) : Has (putBlk w b D) b D T := by
  unfold Has at h ⊢
  simp [putBlk, Array.getElem?_modify, h]
theorem has_put_ne {w : World} {b b' : Nat} {C D : Array Value} {T : TypeId} (h : Has w b' C T) (hn : b ≠ b') : Has (putBlk w b D) b' C T := by
  unfold Has at h ⊢
  simp [putBlk, Array.getElem?_modify, h, hn]
theorem below_put {B b : Nat} {w u : World} {D : Array Value} (h : Below B w u) (hb : B ≤ b) : Below B w (putBlk u b D) :=
  ⟨h.os, h.tape, h.output, by rw [putBlk_size]; exact h.size, fun k hk => by
    rw [← h.block k hk]; simp only [putBlk, Array.getElem?_modify]; rw [if_neg (by omega)]⟩
theorem allOne_of : ∀ l : List Value, (∀ v ∈ l, ∃ b, v = .bool b) → allOne l = true
  | [], _ => rfl
  | v :: r, h => by
    obtain ⟨b, rfl⟩ := h v (by simp)
    rw [allOne_bool]; exact allOne_of r (fun v hv => h v (by simp [hv]))
theorem FldC.one {F : Nat → Nat → Bool} {C : Array Value} (h : FldC F C) : allOne C.toList = true := allOne_of _ (fun v hv => by
  obtain ⟨i, hi, rfl⟩ := List.mem_iff_getElem.1 hv
  have hs := h.size
  simp at hi
  have := h.cell (i / 40) (i % 40) (by omega) (by omega)
  rw [show i / 40 * 40 + i % 40 = i by omega, Array.getElem?_eq_getElem (by omega)] at this
  exact ⟨_, by simpa using this⟩)
attribute [local go_sem ↓] fld_xl fld_xs
attribute [local go_sem] fld_l fld_s blkCells_ov_same blkCells_ov_other blkCells_new blkCells_old blkCells_drew blkCells_drewN
/-- What With makes of a pixel. -/
def inF (a b c d : Int) (y x : Nat) : Bool := decide (a ≤ x) && decide ((x : Int) < c) && decide (b ≤ y) && decide ((y : Int) < d)
def withF (how a b c d : Int) (F : Nat → Nat → Bool) (y x : Nat) : Bool := if how = 0 then F y x || inF a b c d y x else if how = 1 then F y x && !inF a b c d y x else F y x && inF a b c d y x
def WthI (w : World) (F G : Nat → Nat → Bool) (a b c d : Int) (iv : Value) (wr : World) : Prop :=
  ∃ (y : Nat) (C : Array Value), iv = .int .i64 (y : Int) ∧ y ≤ 40 ∧ FldC (midF F G (y * 40)) C ∧ Has wr w.heap.size C 29 ∧ Has wr (w.heap.size + 1) #[.int .i64 a, .int .i64 b, .int .i64 c, .int .i64 d] 31 ∧ Has wr (w.heap.size + 1 + 1) Try.zeroCells29 29 ∧ Below w.heap.size w wr
def WthJ (w : World) (F G : Nat → Nat → Bool) (a b c d : Int) (y : Nat) (iv : Value) (wr : World) : Prop :=
  ∃ (x : Nat) (C : Array Value), iv = .int .i64 (x : Int) ∧ x ≤ 40 ∧ FldC (midF F G (y * 40 + x)) C ∧ Has wr w.heap.size C 29 ∧ Has wr (w.heap.size + 1) #[.int .i64 a, .int .i64 b, .int .i64 c, .int .i64 d] 31 ∧ Has wr (w.heap.size + 1 + 1) Try.zeroCells29 29 ∧ Below w.heap.size w wr
set_option maxRecDepth 100000 in
set_option maxHeartbeats 1000000 in
theorem with_any (F : Nat → Nat → Bool) (C : Array Value) (a b c d how : Int) (w : World) (hF : FldC F C) :
    Calls Try.prog 13 #[.agg C, .agg #[.int .i64 a, .int .i64 b, .int .i64 c, .int .i64 d], .int .i64 how] w fun e w' => ∃ C', e = .returned (.agg C') ∧ FldC (withF how a b c d F) C' ∧ Below w.heap.size w w' := by
  obtain ⟨G, hG⟩ : ∃ G, withF how a b c d F = G := ⟨_, rfl⟩
  rw [hG]
  have HG := Lib.hid hG; have HF := Lib.hid hF
  clear hG hF
  go_enter Try.func13, Try.ntmps13
  go_wp2_with fail
  go_loopw [7] (fun iv wr => WthI w F G a b c d iv wr) (fun iv _ => 40 - (intOf iv).toNat)
  case atStart =>
    unfold WthI
    refine ⟨0, C, rfl, by omega, by rw [Nat.zero_mul, midF_zero]; exact HF.out, ?_, ?_, ?_, by (repeat' (first | (with_reducible exact Below.refl _ _) | (with_reducible assumption) | (with_reducible refine below_from_drew ?_) | (with_reducible refine Below.alloc ?_ ?_ _) | (with_reducible refine Below.drew ?_) | (with_reducible refine below_drewN ?_ _) | (with_reducible refine Below.setCell ?_ ?_ _) | (with_reducible refine below_via ?_ (by assumption) ?_) | (with_reducible refine below_ov ?_ ?_ _ _) | go_size))⟩
    · (repeat' (first | (with_reducible refine has_drew ?_) | (with_reducible refine has_drewN ?_) | (with_reducible refine has_new ?_; (first | (with_reducible rfl) | omega | (simp; done) | (simp; omega))) | (with_reducible refine has_ov_same ?_; (first | (with_reducible rfl) | omega | (simp; done) | (simp; omega))) | (with_reducible refine has_alloc ?_) | (with_reducible refine has_ov_other ?_ ?_; (focus (first | (with_reducible rfl) | omega | (simp; done) | (simp; omega)))) | (with_reducible assumption) | (with_reducible exact has_below hB (by assumption))))
    · (repeat' (first | (with_reducible refine has_drew ?_) | (with_reducible refine has_drewN ?_) | (with_reducible refine has_new ?_; (first | (with_reducible rfl) | omega | (simp; done) | (simp; omega))) | (with_reducible refine has_ov_same ?_; (first | (with_reducible rfl) | omega | (simp; done) | (simp; omega))) | (with_reducible refine has_alloc ?_) | (with_reducible refine has_ov_other ?_ ?_; (focus (first | (with_reducible rfl) | omega | (simp; done) | (simp; omega)))) | (with_reducible assumption) | (with_reducible exact has_below hB (by assumption))))
    · (repeat' (first | (with_reducible refine has_drew ?_) | (with_reducible refine has_drewN ?_) | (with_reducible refine has_new ?_; (first | (with_reducible rfl) | omega | (simp; done) | (simp; omega))) | (with_reducible refine has_ov_same ?_; (first | (with_reducible rfl) | omega | (simp; done) | (simp; omega))) | (with_reducible refine has_alloc ?_) | (with_reducible refine has_ov_other ?_ ?_; (focus (first | (with_reducible rfl) | omega | (simp; done) | (simp; omega)))) | (with_reducible assumption) | (with_reducible exact has_below hB (by assumption))))
  case round =>
    unfold WthI at hrel
    obtain ⟨y, D, rfl, hy, hD, h0, h1, h2, hbw⟩ := hrel
    rcases Nat.lt_or_ge y 40 with c1 | c1
    · have c2 : (y : Int) < 40 := by omega
      have hy0 : (0 : Int) ≤ y := by omega
      have HB := Lib.hid hbw; have HD := Lib.hid hD
      have HH0 := Lib.hid h0; have HH1 := Lib.hid h1; have HH2 := Lib.hid h2
      clear hbw hD h0 h1 h2
      go_wp2_with fail
      obtain ⟨wo, rfl⟩ : ∃ wo : World, wo = wr := ⟨_, rfl⟩
      go_loopw [8] (fun iv wr => WthJ w F G a b c d y iv wr) (fun iv _ => 40 - (intOf iv).toNat)
      case atStart => unfold WthJ; exact ⟨0, D, rfl, by omega, HD.out, HH0.out, HH1.out, HH2.out, HB.out⟩
      case round =>
        unfold WthJ at hrel
        obtain ⟨x, E, rfl, hx, hE, h0, h1, h2, hbw⟩ := hrel
        clear HB HD HH0 HH1 HH2
        rcases Nat.lt_or_ge x 40 with d1 | d1
        · have d2 : (x : Int) < 40 := by omega
          have hx0 : (0 : Int) ≤ x := by omega
          have f0 := h0.cells; have f1 := h1.cells; have l0 := h0.lt; have l1 := h1.lt; have g0 := h0.frozen
          have o0 : Old wr w.heap.size := h0.lt
          have hc := hE.cell y x c1 d1
          have e0 : midF F G (y * 40 + x) y x = F y x := by unfold midF; rw [if_neg (by omega)]
          rw [e0] at hc
          have HB := Lib.hid hbw; have HE := Lib.hid hE
          have HH0 := Lib.hid h0; have HH1 := Lib.hid h1; have HH2 := Lib.hid h2
          clear hbw hE h0 h1 h2 e0
          obtain ⟨fyx, hfyx⟩ : ∃ q, F y x = q := ⟨_, rfl⟩
          rw [hfyx] at hc
          have HFY := Lib.hid hfyx
          clear hfyx
          go_upto_region 7 with fail
          go_cut [9] (fun s wx => s = .bool (inF a b c d y x) ∧ wx = wr)
          case first =>
            go_wp2_with fail
            all_goals go_meet
            all_goals refine ⟨?_, rfl⟩
            all_goals (unfold inF; congr 1; symm; first | (simp only [Bool.and_eq_false_iff, Bool.and_eq_true, decide_eq_true_eq, decide_eq_false_iff_not]; omega) | (rw [Bool.eq_iff_iff]; simp only [Bool.and_eq_true, decide_eq_true_eq]; omega))
          case rest =>
            obtain ⟨rfl, hwc⟩ := hcut
            obtain rfl : wr = wc := hwc.symm
            obtain ⟨q, hq⟩ : ∃ q, inF a b c d y x = q := ⟨_, rfl⟩
            rw [hq]
            have HQ := Lib.hid hq
            clear hq
            have hF : ∀ v, G y x = v → WthJ w F G a b c d y (.int .i64 ((x : Int) + 1)) (wr.setCell ⟨w.heap.size, y * 40 + x, none⟩ (.bool v)).drew := fun v hv => by
              unfold WthJ
              have := HE.out.step c1 d1
              rw [hv] at this
              exact ⟨x + 1, _, by push_cast; rfl, d1, this, has_drew (has_set HH0.out), has_drew (has_set_ne HH1.out (by omega)), has_drew (has_set_ne HH2.out (by omega)), Below.drew (Below.setCell HB.out (by exact Nat.le_refl _) _)⟩
            have HFI := Lib.hid hF
            have hG : G y x = if how = 0 then fyx || q else if how = 1 then fyx && !q else fyx && q := by rw [← HG.out]; unfold withF; rw [HQ.out, HFY.out]
            have HGI := Lib.hid hG
            clear hF hG HFY HQ HE HH0 HH1 HH2
            by_cases k0 : how = 0
            · subst k0
              have hv := HGI.out
              rw [if_pos rfl] at hv
              have HV := Lib.hid (HFI.out _ hv)
              clear hv HGI HFI
              cases fyx <;> cases q
              all_goals
                go_wp2_with fail
                refine region_ord [(0, 0), (1, 0), (2, 0), (3, 0), (4, 0), (5, 0), (6, 0), (7, 0), (8, 0), (9, 0), (10, 0), (11, 0), (12, 2)] (by kernel_rfl) (by kernel_rfl) (fun _ _ d _ _ h => by cases d <;> exact h) (fun hS => ?_)
                (refine wpG_read (v := ?_) rfl (.inl ⟨by rfl, fun wx hbx => ?_⟩) ?_; rotate_left; (focus (obtain ⟨cx0, fx0, zx0⟩ := bk hbx (w.heap.size) (by first | omega | (simp; done) | (simp; omega)); go_simp; (try go_bits); (try with_reducible rfl))); try simp only [Act.put, List.setIfInBounds_toArray, List.set_cons_zero, List.set_cons_succ])
                (refine wpG_read (v := ?_) rfl (.inl ⟨by rfl, fun wx hbx => ?_⟩) ?_; rotate_left; (focus (obtain ⟨cx0, fx0, zx0⟩ := bk hbx (w.heap.size) (by first | omega | (simp; done) | (simp; omega)); go_simp; (try go_bits); (try with_reducible rfl))); try simp only [Act.put, List.setIfInBounds_toArray, List.set_cons_zero, List.set_cons_succ])
                (refine wpG_read (v := ?_) rfl (.inl ⟨by rfl, fun wx hbx => ?_⟩) ?_; rotate_left; (focus (obtain ⟨cx0, fx0, zx0⟩ := bk hbx (w.heap.size) (by first | omega | (simp; done) | (simp; omega)); go_simp; (try go_bits); (try with_reducible rfl))); try simp only [Act.put, List.setIfInBounds_toArray, List.set_cons_zero, List.set_cons_succ])
                (refine wpG_read (v := ?_) rfl (.inl ⟨by rfl, fun wx hbx => ?_⟩) ?_; rotate_left; (focus (obtain ⟨cx0, fx0, zx0⟩ := bk hbx (w.heap.size) (by first | omega | (simp; done) | (simp; omega)); go_simp; (try go_bits); (try with_reducible rfl))); try simp only [Act.put, List.setIfInBounds_toArray, List.set_cons_zero, List.set_cons_succ])
                (refine wpG_read (v := ?_) rfl (.inl ⟨by rfl, fun wx hbx => ?_⟩) ?_; rotate_left; (focus (obtain ⟨cx0, fx0, zx0⟩ := bk hbx (w.heap.size) (by first | omega | (simp; done) | (simp; omega)); go_simp; (try go_bits); (try with_reducible rfl))); try simp only [Act.put, List.setIfInBounds_toArray, List.set_cons_zero, List.set_cons_succ])
                (refine wpG_read (v := ?_) rfl (.inl ⟨by rfl, fun wx hbx => ?_⟩) ?_; rotate_left; (focus (obtain ⟨cx0, fx0, zx0⟩ := bk hbx (w.heap.size) (by first | omega | (simp; done) | (simp; omega)); go_simp; (try go_bits); (try with_reducible rfl))); try simp only [Act.put, List.setIfInBounds_toArray, List.set_cons_zero, List.set_cons_succ])
                (refine wpG_read (v := ?_) rfl (.inl ⟨by rfl, fun wx hbx => ?_⟩) ?_; rotate_left; (focus (obtain ⟨cx0, fx0, zx0⟩ := bk hbx (w.heap.size) (by first | omega | (simp; done) | (simp; omega)); go_simp; (try go_bits); (try with_reducible rfl))); try simp only [Act.put, List.setIfInBounds_toArray, List.set_cons_zero, List.set_cons_succ])
                (refine wpG_read (v := ?_) rfl (.inl ⟨by rfl, fun wx hbx => ?_⟩) ?_; rotate_left; (focus (obtain ⟨cx0, fx0, zx0⟩ := bk hbx (w.heap.size) (by first | omega | (simp; done) | (simp; omega)); go_simp; (try go_bits); (try with_reducible rfl))); try simp only [Act.put, List.setIfInBounds_toArray, List.set_cons_zero, List.set_cons_succ])
                (first | (refine wpG_pass rfl (by rfl) ?_; simp only [Act.put, List.setIfInBounds_toArray, List.set_cons_zero, List.set_cons_succ]) | (refine wpG_read (v := ?_) rfl (.inl ⟨by rfl, fun wx hbx => ?_⟩) ?_; rotate_left; (focus (obtain ⟨cx0, fx0, zx0⟩ := bk hbx (w.heap.size) (by first | omega | (simp; done) | (simp; omega)); go_simp; (try go_bits); (try with_reducible rfl))); try simp only [Act.put, List.setIfInBounds_toArray, List.set_cons_zero, List.set_cons_succ]))
                (refine wpG_read (v := ?_) rfl (.inl ⟨by rfl, fun wx hbx => ?_⟩) ?_; rotate_left; (focus (obtain ⟨cx0, fx0, zx0⟩ := bk hbx (w.heap.size) (by first | omega | (simp; done) | (simp; omega)); go_simp; (try go_bits); (try with_reducible rfl))); try simp only [Act.put, List.setIfInBounds_toArray, List.set_cons_zero, List.set_cons_succ])
                (refine wpG_read (v := ?_) rfl (.inl ⟨by rfl, fun wx hbx => ?_⟩) ?_; rotate_left; (focus (obtain ⟨cx0, fx0, zx0⟩ := bk hbx (w.heap.size) (by first | omega | (simp; done) | (simp; omega)); go_simp; (try go_bits); (try with_reducible rfl))); try simp only [Act.put, List.setIfInBounds_toArray, List.set_cons_zero, List.set_cons_succ])
                (refine wpG_read (v := ?_) rfl (.inl ⟨by rfl, fun wx hbx => ?_⟩) ?_; rotate_left; (focus (obtain ⟨cx0, fx0, zx0⟩ := bk hbx (w.heap.size) (by first | omega | (simp; done) | (simp; omega)); go_simp; (try go_bits); (try with_reducible rfl))); try simp only [Act.put, List.setIfInBounds_toArray, List.set_cons_zero, List.set_cons_succ])
                (refine wpG_late rfl (fun K hK => ?_); go_simp; (try simp only []); (try simp only []); refine hK _ _ ?_; clear hK K; try simp only [Act.put, List.setIfInBounds_toArray, List.set_cons_zero, List.set_cons_succ])
                refine wpG_nil ?_
                go_wp2_with fail
                exact ⟨HV.out, by simp only [intOf]; omega⟩
            · by_cases k1 : how = 1
              · subst k1
                have hv := HGI.out
                rw [if_neg (by decide), if_pos rfl] at hv
                have HV := Lib.hid (HFI.out _ hv)
                clear hv HGI HFI
                cases fyx <;> cases q
                all_goals
                  go_wp2_with fail
                  refine region_ord [(0, 0), (1, 0), (2, 0), (3, 0), (4, 0), (5, 0), (6, 0), (7, 0), (8, 0), (9, 0), (10, 0), (11, 0), (12, 0), (13, 2)] (by kernel_rfl) (by kernel_rfl) (fun _ _ d _ _ h => by cases d <;> exact h) (fun hS => ?_)
                  (refine wpG_read (v := ?_) rfl (.inl ⟨by rfl, fun wx hbx => ?_⟩) ?_; rotate_left; (focus (obtain ⟨cx0, fx0, zx0⟩ := bk hbx (w.heap.size) (by first | omega | (simp; done) | (simp; omega)); go_simp; (try go_bits); (try with_reducible rfl))); try simp only [Act.put, List.setIfInBounds_toArray, List.set_cons_zero, List.set_cons_succ])
                  (refine wpG_read (v := ?_) rfl (.inl ⟨by rfl, fun wx hbx => ?_⟩) ?_; rotate_left; (focus (obtain ⟨cx0, fx0, zx0⟩ := bk hbx (w.heap.size) (by first | omega | (simp; done) | (simp; omega)); go_simp; (try go_bits); (try with_reducible rfl))); try simp only [Act.put, List.setIfInBounds_toArray, List.set_cons_zero, List.set_cons_succ])
                  (refine wpG_read (v := ?_) rfl (.inl ⟨by rfl, fun wx hbx => ?_⟩) ?_; rotate_left; (focus (obtain ⟨cx0, fx0, zx0⟩ := bk hbx (w.heap.size) (by first | omega | (simp; done) | (simp; omega)); go_simp; (try go_bits); (try with_reducible rfl))); try simp only [Act.put, List.setIfInBounds_toArray, List.set_cons_zero, List.set_cons_succ])
                  (refine wpG_read (v := ?_) rfl (.inl ⟨by rfl, fun wx hbx => ?_⟩) ?_; rotate_left; (focus (obtain ⟨cx0, fx0, zx0⟩ := bk hbx (w.heap.size) (by first | omega | (simp; done) | (simp; omega)); go_simp; (try go_bits); (try with_reducible rfl))); try simp only [Act.put, List.setIfInBounds_toArray, List.set_cons_zero, List.set_cons_succ])
                  (refine wpG_read (v := ?_) rfl (.inl ⟨by rfl, fun wx hbx => ?_⟩) ?_; rotate_left; (focus (obtain ⟨cx0, fx0, zx0⟩ := bk hbx (w.heap.size) (by first | omega | (simp; done) | (simp; omega)); go_simp; (try go_bits); (try with_reducible rfl))); try simp only [Act.put, List.setIfInBounds_toArray, List.set_cons_zero, List.set_cons_succ])
                  (refine wpG_read (v := ?_) rfl (.inl ⟨by rfl, fun wx hbx => ?_⟩) ?_; rotate_left; (focus (obtain ⟨cx0, fx0, zx0⟩ := bk hbx (w.heap.size) (by first | omega | (simp; done) | (simp; omega)); go_simp; (try go_bits); (try with_reducible rfl))); try simp only [Act.put, List.setIfInBounds_toArray, List.set_cons_zero, List.set_cons_succ])
                  (refine wpG_read (v := ?_) rfl (.inl ⟨by rfl, fun wx hbx => ?_⟩) ?_; rotate_left; (focus (obtain ⟨cx0, fx0, zx0⟩ := bk hbx (w.heap.size) (by first | omega | (simp; done) | (simp; omega)); go_simp; (try go_bits); (try with_reducible rfl))); try simp only [Act.put, List.setIfInBounds_toArray, List.set_cons_zero, List.set_cons_succ])
                  (refine wpG_read (v := ?_) rfl (.inl ⟨by rfl, fun wx hbx => ?_⟩) ?_; rotate_left; (focus (obtain ⟨cx0, fx0, zx0⟩ := bk hbx (w.heap.size) (by first | omega | (simp; done) | (simp; omega)); go_simp; (try go_bits); (try with_reducible rfl))); try simp only [Act.put, List.setIfInBounds_toArray, List.set_cons_zero, List.set_cons_succ])
                  (first | (refine wpG_pass rfl (by rfl) ?_; simp only [Act.put, List.setIfInBounds_toArray, List.set_cons_zero, List.set_cons_succ]) | (refine wpG_read (v := ?_) rfl (.inl ⟨by rfl, fun wx hbx => ?_⟩) ?_; rotate_left; (focus (obtain ⟨cx0, fx0, zx0⟩ := bk hbx (w.heap.size) (by first | omega | (simp; done) | (simp; omega)); go_simp; (try go_bits); (try with_reducible rfl))); try simp only [Act.put, List.setIfInBounds_toArray, List.set_cons_zero, List.set_cons_succ]))
                  (first | (refine wpG_pass rfl (by rfl) ?_; simp only [Act.put, List.setIfInBounds_toArray, List.set_cons_zero, List.set_cons_succ]) | (refine wpG_read (v := ?_) rfl (.inl ⟨by rfl, fun wx hbx => ?_⟩) ?_; rotate_left; (focus (obtain ⟨cx0, fx0, zx0⟩ := bk hbx (w.heap.size) (by first | omega | (simp; done) | (simp; omega)); go_simp; (try go_bits); (try with_reducible rfl))); try simp only [Act.put, List.setIfInBounds_toArray, List.set_cons_zero, List.set_cons_succ]))
                  (refine wpG_read (v := ?_) rfl (.inl ⟨by rfl, fun wx hbx => ?_⟩) ?_; rotate_left; (focus (obtain ⟨cx0, fx0, zx0⟩ := bk hbx (w.heap.size) (by first | omega | (simp; done) | (simp; omega)); go_simp; (try go_bits); (try with_reducible rfl))); try simp only [Act.put, List.setIfInBounds_toArray, List.set_cons_zero, List.set_cons_succ])
                  (refine wpG_read (v := ?_) rfl (.inl ⟨by rfl, fun wx hbx => ?_⟩) ?_; rotate_left; (focus (obtain ⟨cx0, fx0, zx0⟩ := bk hbx (w.heap.size) (by first | omega | (simp; done) | (simp; omega)); go_simp; (try go_bits); (try with_reducible rfl))); try simp only [Act.put, List.setIfInBounds_toArray, List.set_cons_zero, List.set_cons_succ])
                  (refine wpG_read (v := ?_) rfl (.inl ⟨by rfl, fun wx hbx => ?_⟩) ?_; rotate_left; (focus (obtain ⟨cx0, fx0, zx0⟩ := bk hbx (w.heap.size) (by first | omega | (simp; done) | (simp; omega)); go_simp; (try go_bits); (try with_reducible rfl))); try simp only [Act.put, List.setIfInBounds_toArray, List.set_cons_zero, List.set_cons_succ])
                  (refine wpG_late rfl (fun K hK => ?_); go_simp; (try simp only []); (try simp only []); refine hK _ _ ?_; clear hK K; try simp only [Act.put, List.setIfInBounds_toArray, List.set_cons_zero, List.set_cons_succ])
                  refine wpG_nil ?_
                  go_wp2_with fail
                  exact ⟨HV.out, by simp only [intOf]; omega⟩
              · have k0' : (how == 0) = false := by simpa using k0
                have k1' : (how == 1) = false := by simpa using k1
                have hv := HGI.out
                rw [if_neg k0, if_neg k1] at hv
                have HV := Lib.hid (HFI.out _ hv)
                clear hv HGI HFI
                cases fyx <;> cases q
                all_goals
                  go_wp2_with fail
                  refine region_ord [(0, 0), (1, 0), (2, 0), (3, 0), (4, 0), (5, 0), (6, 0), (7, 0), (8, 0), (9, 0), (10, 0), (11, 0), (12, 2)] (by kernel_rfl) (by kernel_rfl) (fun _ _ d _ _ h => by cases d <;> exact h) (fun hS => ?_)
                  (refine wpG_read (v := ?_) rfl (.inl ⟨by rfl, fun wx hbx => ?_⟩) ?_; rotate_left; (focus (obtain ⟨cx0, fx0, zx0⟩ := bk hbx (w.heap.size) (by first | omega | (simp; done) | (simp; omega)); go_simp; (try go_bits); (try with_reducible rfl))); try simp only [Act.put, List.setIfInBounds_toArray, List.set_cons_zero, List.set_cons_succ])
                  (refine wpG_read (v := ?_) rfl (.inl ⟨by rfl, fun wx hbx => ?_⟩) ?_; rotate_left; (focus (obtain ⟨cx0, fx0, zx0⟩ := bk hbx (w.heap.size) (by first | omega | (simp; done) | (simp; omega)); go_simp; (try go_bits); (try with_reducible rfl))); try simp only [Act.put, List.setIfInBounds_toArray, List.set_cons_zero, List.set_cons_succ])
                  (refine wpG_read (v := ?_) rfl (.inl ⟨by rfl, fun wx hbx => ?_⟩) ?_; rotate_left; (focus (obtain ⟨cx0, fx0, zx0⟩ := bk hbx (w.heap.size) (by first | omega | (simp; done) | (simp; omega)); go_simp; (try go_bits); (try with_reducible rfl))); try simp only [Act.put, List.setIfInBounds_toArray, List.set_cons_zero, List.set_cons_succ])
                  (refine wpG_read (v := ?_) rfl (.inl ⟨by rfl, fun wx hbx => ?_⟩) ?_; rotate_left; (focus (obtain ⟨cx0, fx0, zx0⟩ := bk hbx (w.heap.size) (by first | omega | (simp; done) | (simp; omega)); go_simp; (try go_bits); (try with_reducible rfl))); try simp only [Act.put, List.setIfInBounds_toArray, List.set_cons_zero, List.set_cons_succ])
                  (refine wpG_read (v := ?_) rfl (.inl ⟨by rfl, fun wx hbx => ?_⟩) ?_; rotate_left; (focus (obtain ⟨cx0, fx0, zx0⟩ := bk hbx (w.heap.size) (by first | omega | (simp; done) | (simp; omega)); go_simp; (try go_bits); (try with_reducible rfl))); try simp only [Act.put, List.setIfInBounds_toArray, List.set_cons_zero, List.set_cons_succ])
                  (refine wpG_read (v := ?_) rfl (.inl ⟨by rfl, fun wx hbx => ?_⟩) ?_; rotate_left; (focus (obtain ⟨cx0, fx0, zx0⟩ := bk hbx (w.heap.size) (by first | omega | (simp; done) | (simp; omega)); go_simp; (try go_bits); (try with_reducible rfl))); try simp only [Act.put, List.setIfInBounds_toArray, List.set_cons_zero, List.set_cons_succ])
                  (refine wpG_read (v := ?_) rfl (.inl ⟨by rfl, fun wx hbx => ?_⟩) ?_; rotate_left; (focus (obtain ⟨cx0, fx0, zx0⟩ := bk hbx (w.heap.size) (by first | omega | (simp; done) | (simp; omega)); go_simp; (try go_bits); (try with_reducible rfl))); try simp only [Act.put, List.setIfInBounds_toArray, List.set_cons_zero, List.set_cons_succ])
                  (refine wpG_read (v := ?_) rfl (.inl ⟨by rfl, fun wx hbx => ?_⟩) ?_; rotate_left; (focus (obtain ⟨cx0, fx0, zx0⟩ := bk hbx (w.heap.size) (by first | omega | (simp; done) | (simp; omega)); go_simp; (try go_bits); (try with_reducible rfl))); try simp only [Act.put, List.setIfInBounds_toArray, List.set_cons_zero, List.set_cons_succ])
                  (first | (refine wpG_pass rfl (by rfl) ?_; simp only [Act.put, List.setIfInBounds_toArray, List.set_cons_zero, List.set_cons_succ]) | (refine wpG_read (v := ?_) rfl (.inl ⟨by rfl, fun wx hbx => ?_⟩) ?_; rotate_left; (focus (obtain ⟨cx0, fx0, zx0⟩ := bk hbx (w.heap.size) (by first | omega | (simp; done) | (simp; omega)); go_simp; (try go_bits); (try with_reducible rfl))); try simp only [Act.put, List.setIfInBounds_toArray, List.set_cons_zero, List.set_cons_succ]))
                  (refine wpG_read (v := ?_) rfl (.inl ⟨by rfl, fun wx hbx => ?_⟩) ?_; rotate_left; (focus (obtain ⟨cx0, fx0, zx0⟩ := bk hbx (w.heap.size) (by first | omega | (simp; done) | (simp; omega)); go_simp; (try go_bits); (try with_reducible rfl))); try simp only [Act.put, List.setIfInBounds_toArray, List.set_cons_zero, List.set_cons_succ])
                  (refine wpG_read (v := ?_) rfl (.inl ⟨by rfl, fun wx hbx => ?_⟩) ?_; rotate_left; (focus (obtain ⟨cx0, fx0, zx0⟩ := bk hbx (w.heap.size) (by first | omega | (simp; done) | (simp; omega)); go_simp; (try go_bits); (try with_reducible rfl))); try simp only [Act.put, List.setIfInBounds_toArray, List.set_cons_zero, List.set_cons_succ])
                  (refine wpG_read (v := ?_) rfl (.inl ⟨by rfl, fun wx hbx => ?_⟩) ?_; rotate_left; (focus (obtain ⟨cx0, fx0, zx0⟩ := bk hbx (w.heap.size) (by first | omega | (simp; done) | (simp; omega)); go_simp; (try go_bits); (try with_reducible rfl))); try simp only [Act.put, List.setIfInBounds_toArray, List.set_cons_zero, List.set_cons_succ])
                  (refine wpG_late rfl (fun K hK => ?_); go_simp; (try simp only []); (try simp only []); refine hK _ _ ?_; clear hK K; try simp only [Act.put, List.setIfInBounds_toArray, List.set_cons_zero, List.set_cons_succ])
                  refine wpG_nil ?_
                  go_wp2_with fail
                  exact ⟨HV.out, by simp only [intOf]; omega⟩
        · have d2 : (40 : Int) ≤ x := by omega
          obtain rfl : x = 40 := by omega
          have HB := Lib.hid hbw
          have hE' := hE.row
          have HH := Lib.hid (show WthI w F G a b c d (.int .i64 ((y : Int) + 1)) wr from ⟨y + 1, E, by push_cast; rfl, c1, hE', h0, h1, h2, hbw⟩)
          clear hE hE' h0 h1 h2 hbw
          go_wp2_with fail
          exact ⟨HH.out, by simp only [intOf]; omega⟩
    · have c2 : (40 : Int) ≤ y := by omega
      have e16 : y * 40 = 1600 := by omega
      have hD' : FldC G D := midF_all F G (by rw [← e16]; exact hD)
      clear e16
      have b0 := blkCells_has h0; have b2 := blkCells_has h2
      have s0 := hD'.size; have s1 := hD'.one
      have s2 := zero_size
      have hFin : Has (putBlk wr (w.heap.size + 1 + 1) D) (w.heap.size + 1 + 1) D 29 := has_put h2
      have hBin : Below w.heap.size w (putBlk wr (w.heap.size + 1 + 1) D) := below_put hbw (by omega)
      have HBI := Lib.hid hBin; have HFI := Lib.hid hFin; have HD := Lib.hid hD'
      clear hbw h0 h1 h2 hD hD' hFin hBin
      go_wp2_with fail
      refine bodyPost_row (cs := D) (T := 29) Try.results13 (b := w.heap.size + 1 + 1) (by rfl) HFI.out Try.underlying29 rfl (by kernel_rfl) HD.out.size rfl ?_
      exact ⟨D, rfl, HD.out, HBI.out⟩
end Go.Proofs.Ytkpamofamcndnaa
namespace Go.Proofs.Ytkpamofamcndnaa
open Go.RowKit Go.Shelf
set_option linter.unusedSimpArgs false
set_option linter.unusedVariables false
-- below_from_drew
attribute [local go_sem] ov_cell_same ov_cell_other ov_frozen_same ov_frozen_other ov_size ov_setCell_same ov_setCell_other cell_alloc_old frozen_alloc_old setCell_alloc_old old_alloc old_ov old_drew old_drewN old_setCell
attribute [local go_sem ↓] run_max2 run_min2 eql_rect neq_rect
attribute [local go_sem ↓] fld_xl fld_xs
attribute [local go_sem] fld_l fld_s blkCells_ov_same blkCells_ov_other blkCells_new blkCells_old blkCells_drew blkCells_drewN

/-! none -/
structure RowC (f : Nat → Bool) (C : Array Value) : Prop where
  size : C.size = 40
  cell : ∀ x, x < 40 → C[x]? = some (.bool (f x))
def anyB (f : Nat → Bool) : Nat → Bool
  | 0 => false
  | n + 1 => anyB f n || f n
theorem anyB_false {f : Nat → Bool} : ∀ {n : Nat}, anyB f n = false ↔ ∀ x, x < n → f x = false
  | 0 => by simp [anyB]
  | n + 1 => by
    rw [anyB, Bool.or_eq_false_iff, anyB_false (n := n)]
    exact ⟨fun ⟨h1, h2⟩ x hx => by
      rcases Nat.lt_or_ge x n with c | c
      · exact h1 x c
      · obtain rfl : x = n := by omega
        exact h2, fun h => ⟨fun x hx => h x (by omega), h n (by omega)⟩⟩
theorem anyB_true {f : Nat → Bool} {n x : Nat} (h : x < n) (hx : f x = true) : anyB f n = true := by
  cases e : anyB f n with
  | true => rfl
  | false => rw [anyB_false] at e; rw [e x h] at hx; exact hx
set_option maxRecDepth 100000 in
set_option maxHeartbeats 1000000 in
theorem none_any (f : Nat → Bool) (C : Array Value) (w : World) (hF : RowC f C) :
    Calls Try.prog 79 #[.agg C] w fun e w' => e = .returned (.bool (!anyB f 40)) ∧ Below w.heap.size w w' := by
  have HF := Lib.hid hF
  clear hF
  go_enter Try.func79, Try.ntmps79
  go_wp2_with fail
  go_loopw [3] (fun iv wr => ∃ x : Nat, iv = .int .i64 (x : Int) ∧ x ≤ 40 ∧ anyB f x = false ∧ wr = w.alloc (.cells C 27)) (fun iv _ => 40 - (intOf iv).toNat)
  case atStart => exact ⟨0, rfl, by omega, rfl, rfl⟩
  case round =>
    obtain ⟨x, rfl, hx, ha, rfl⟩ := hrel
    have HA := Lib.hid ha
    clear ha
    rcases Nat.lt_or_ge x 40 with c1 | c1
    · have c2 : (x : Int) < 40 := by omega
      have hx0 : (0 : Int) ≤ x := by omega
      have hc := HF.out.cell x c1
      cases hf : f x with
      | false =>
        have hn : anyB f (x + 1) = false := by rw [anyB, HA.out, hf]; rfl
        rw [hf] at hc
        have HN := Lib.hid hn
        clear hn hf HA
        go_wp2_with fail
        exact ⟨⟨x + 1, by push_cast; rfl, c1, HN.out, trivial⟩, by simp only [intOf]; omega⟩
      | true =>
        have hn := Lib.hid (anyB_true c1 hf)
        rw [hf] at hc
        clear hf HA
        go_wp2_with fail
        go_ret
        exact ⟨by rw [hn.out]; rfl, by (repeat' (first | (with_reducible exact Below.refl _ _) | (with_reducible assumption) | (with_reducible refine below_from_drew ?_) | (with_reducible refine Below.alloc ?_ ?_ _) | (with_reducible refine Below.drew ?_) | (with_reducible refine below_drewN ?_ _) | (with_reducible refine Below.setCell ?_ ?_ _) | (with_reducible refine below_via ?_ (by assumption) ?_) | (with_reducible refine below_ov ?_ ?_ _ _) | go_size))⟩
    · have c2 : (40 : Int) ≤ x := by omega
      obtain rfl : x = 40 := by omega
      go_wp2_with fail
      go_ret
      exact ⟨by rw [HA.out]; rfl, by (repeat' (first | (with_reducible exact Below.refl _ _) | (with_reducible assumption) | (with_reducible refine below_from_drew ?_) | (with_reducible refine Below.alloc ?_ ?_ _) | (with_reducible refine Below.drew ?_) | (with_reducible refine below_drewN ?_ _) | (with_reducible refine Below.setCell ?_ ?_ _) | (with_reducible refine below_via ?_ (by assumption) ?_) | (with_reducible refine below_ov ?_ ?_ _ _) | go_size))⟩
/-! Count -/
def cntK (F : Nat → Nat → Bool) : Nat → Nat
  | 0 => 0
  | k + 1 => cntK F k + if F (k / 40) (k % 40) = true then 1 else 0
theorem cntK_le (F : Nat → Nat → Bool) : ∀ k, cntK F k ≤ k
  | 0 => Nat.le_refl _
  | k + 1 => by have := cntK_le F k; rw [cntK]; split <;> omega
set_option maxRecDepth 100000 in
set_option maxHeartbeats 1000000 in
theorem count_any (F : Nat → Nat → Bool) (C : Array Value) (w : World) (hF : FldC F C) :
    Calls Try.prog 55 #[.agg C] w fun e w' => e = .returned (.int .i64 (cntK F 1600)) ∧ Below w.heap.size w w' := by
  have HF := Lib.hid hF
  clear hF
  go_enter Try.func55, Try.ntmps55
  go_wp2_with fail
  go_loopw [3, 4] (fun nv iv wr => ∃ y : Nat, iv = .int .i64 (y : Int) ∧ y ≤ 40 ∧ nv = .int .i64 (cntK F (y * 40)) ∧ wr = w.alloc (.cells C 29)) (fun _ iv _ => 40 - (intOf iv).toNat)
  case atStart => exact ⟨0, rfl, by omega, rfl, rfl⟩
  case round =>
    obtain ⟨y, rfl, hy, rfl, rfl⟩ := hrel
    rcases Nat.lt_or_ge y 40 with c1 | c1
    · have c2 : (y : Int) < 40 := by omega
      have hy0 : (0 : Int) ≤ y := by omega
      go_wp2_with fail
      go_loopw [3, 5] (fun nv iv wr => ∃ x : Nat, iv = .int .i64 (x : Int) ∧ x ≤ 40 ∧ nv = .int .i64 (cntK F (y * 40 + x)) ∧ wr = w.alloc (.cells C 29)) (fun _ iv _ => 40 - (intOf iv).toNat)
      case atStart => exact ⟨0, rfl, by omega, rfl, rfl⟩
      case round =>
        obtain ⟨x, rfl, hx, rfl, rfl⟩ := hrel
        rcases Nat.lt_or_ge x 40 with d1 | d1
        · have d2 : (x : Int) < 40 := by omega
          have hx0 : (0 : Int) ≤ x := by omega
          have hc := HF.out.cell y x c1 d1
          have hk := cntK_le F (y * 40 + x)
          have hn : cntK F (y * 40 + x + 1) = cntK F (y * 40 + x) + if F y x = true then 1 else 0 := by
            rw [cntK, show (y * 40 + x) / 40 = y by omega, show (y * 40 + x) % 40 = x by omega]
          cases hf : F y x with
          | false =>
            rw [hf] at hc hn
            have HN := Lib.hid hn
            clear hf hn
            go_wp2_with fail
            exact ⟨⟨x + 1, by push_cast; rfl, d1, by rw [← Nat.add_assoc, HN.out]; simp, trivial⟩, by simp only [intOf]; omega⟩
          | true =>
            rw [hf] at hc hn
            have HN := Lib.hid hn
            clear hf hn
            go_wp2_with fail
            exact ⟨⟨x + 1, by push_cast; rfl, d1, by rw [← Nat.add_assoc, HN.out]; simp, trivial⟩, by simp only [intOf]; omega⟩
        · have d2 : (40 : Int) ≤ x := by omega
          obtain rfl : x = 40 := by omega
          go_wp2_with fail
          exact ⟨⟨y + 1, by push_cast; rfl, c1, by rw [show (y + 1) * 40 = y * 40 + 40 by omega], trivial⟩, by simp only [intOf]; omega⟩
    · have c2 : (40 : Int) ≤ y := by omega
      obtain rfl : y = 40 := by omega
      go_wp2_with fail
      go_ret
      exact ⟨rfl, by (repeat' (first | (with_reducible exact Below.refl _ _) | (with_reducible assumption) | (with_reducible refine below_from_drew ?_) | (with_reducible refine Below.alloc ?_ ?_ _) | (with_reducible refine Below.drew ?_) | (with_reducible refine below_drewN ?_ _) | (with_reducible refine Below.setCell ?_ ?_ _) | (with_reducible refine below_via ?_ (by assumption) ?_) | (with_reducible refine below_ov ?_ ?_ _ _) | go_size))⟩
end Go.Proofs.Ytkpamofamcndnaa
namespace Go.Proofs.Ytkpamofamcndnaa
open Go.RowKit Go.Shelf
set_option linter.unusedSimpArgs false
set_option linter.unusedVariables false
-- below_from_drew
attribute [local go_sem] ov_cell_same ov_cell_other ov_frozen_same ov_frozen_other ov_size ov_setCell_same ov_setCell_other cell_alloc_old frozen_alloc_old setCell_alloc_old old_alloc old_ov old_drew old_drewN old_setCell
attribute [local go_sem ↓] run_max2 run_min2 eql_rect neq_rect
attribute [local go_sem ↓] fld_xl fld_xs
attribute [local go_sem] fld_l fld_s blkCells_ov_same blkCells_ov_other blkCells_new blkCells_old blkCells_drew blkCells_drewN
theorem zero_rep : Try.zeroCells29 = Array.replicate 1600 (.bool false) := by kernel_rfl
theorem fldC_zero : FldC (fun _ _ => false) Try.zeroCells29 := ⟨zero_size, fun y x hy hx => by rw [zero_rep, Array.getElem?_replicate, if_pos (by omega)]⟩
def movF (dx dy : Int) (F : Nat → Nat → Bool) (y x : Nat) : Bool := if 0 ≤ (x : Int) - dx ∧ (x : Int) - dx < 40 ∧ 0 ≤ (y : Int) - dy ∧ (y : Int) - dy < 40 then F ((y : Int) - dy).toNat ((x : Int) - dx).toNat else false
def MovI (w : World) (C : Array Value) (G : Nat → Nat → Bool) (iv : Value) (wr : World) : Prop :=
  ∃ (y : Nat) (D : Array Value), iv = .int .i64 (y : Int) ∧ y ≤ 40 ∧ FldC (midF (fun _ _ => false) G (y * 40)) D ∧ Has wr w.heap.size C 29 ∧ Has wr (w.heap.size + 1) Try.zeroCells29 29 ∧ Has wr (w.heap.size + 1 + 1) D 29 ∧ Below w.heap.size w wr
def MovJ (w : World) (C : Array Value) (G : Nat → Nat → Bool) (y : Nat) (iv : Value) (wr : World) : Prop :=
  ∃ (x : Nat) (D : Array Value), iv = .int .i64 (x : Int) ∧ x ≤ 40 ∧ FldC (midF (fun _ _ => false) G (y * 40 + x)) D ∧ Has wr w.heap.size C 29 ∧ Has wr (w.heap.size + 1) Try.zeroCells29 29 ∧ Has wr (w.heap.size + 1 + 1) D 29 ∧ Below w.heap.size w wr
set_option maxRecDepth 100000 in
set_option maxHeartbeats 1000000 in
theorem moved_any (F : Nat → Nat → Bool) (C : Array Value) (dx dy : Int) (w : World) (hF : FldC F C) (h1 : -1000 ≤ dx) (h2 : dx ≤ 1000) (h3 : -1000 ≤ dy) (h4 : dy ≤ 1000) :
    Calls Try.prog 16 #[.agg C, .int .i64 dx, .int .i64 dy] w fun e w' => ∃ C', e = .returned (.agg C') ∧ FldC (movF dx dy F) C' ∧ Below w.heap.size w w' := by
  obtain ⟨G, hG⟩ : ∃ G, movF dx dy F = G := ⟨_, rfl⟩
  rw [hG]
  have HG := Lib.hid hG; have HF := Lib.hid hF
  clear hG hF
  go_enter Try.func16, Try.ntmps16
  go_wp2_with fail
  go_loopw [8] (fun iv wr => MovI w C G iv wr) (fun iv _ => 40 - (intOf iv).toNat)
  case atStart =>
    unfold MovI
    refine ⟨0, _, rfl, by omega, by rw [Nat.zero_mul, midF_zero]; exact fldC_zero, ?_, ?_, ?_, by (repeat' (first | (with_reducible exact Below.refl _ _) | (with_reducible assumption) | (with_reducible refine below_from_drew ?_) | (with_reducible refine Below.alloc ?_ ?_ _) | (with_reducible refine Below.drew ?_) | (with_reducible refine below_drewN ?_ _) | (with_reducible refine Below.setCell ?_ ?_ _) | (with_reducible refine below_via ?_ (by assumption) ?_) | (with_reducible refine below_ov ?_ ?_ _ _) | go_size))⟩
    · (repeat' (first | (with_reducible refine has_drew ?_) | (with_reducible refine has_drewN ?_) | (with_reducible refine has_new ?_; (first | (with_reducible rfl) | omega | (simp; done) | (simp; omega))) | (with_reducible refine has_ov_same ?_; (first | (with_reducible rfl) | omega | (simp; done) | (simp; omega))) | (with_reducible refine has_alloc ?_) | (with_reducible refine has_ov_other ?_ ?_; (focus (first | (with_reducible rfl) | omega | (simp; done) | (simp; omega)))) | (with_reducible assumption) | (with_reducible exact has_below hB (by assumption))))
    · (repeat' (first | (with_reducible refine has_drew ?_) | (with_reducible refine has_drewN ?_) | (with_reducible refine has_new ?_; (first | (with_reducible rfl) | omega | (simp; done) | (simp; omega))) | (with_reducible refine has_ov_same ?_; (first | (with_reducible rfl) | omega | (simp; done) | (simp; omega))) | (with_reducible refine has_alloc ?_) | (with_reducible refine has_ov_other ?_ ?_; (focus (first | (with_reducible rfl) | omega | (simp; done) | (simp; omega)))) | (with_reducible assumption) | (with_reducible exact has_below hB (by assumption))))
    · (repeat' (first | (with_reducible refine has_drew ?_) | (with_reducible refine has_drewN ?_) | (with_reducible refine has_new ?_; (first | (with_reducible rfl) | omega | (simp; done) | (simp; omega))) | (with_reducible refine has_ov_same ?_; (first | (with_reducible rfl) | omega | (simp; done) | (simp; omega))) | (with_reducible refine has_alloc ?_) | (with_reducible refine has_ov_other ?_ ?_; (focus (first | (with_reducible rfl) | omega | (simp; done) | (simp; omega)))) | (with_reducible assumption) | (with_reducible exact has_below hB (by assumption))))
  case round =>
    unfold MovI at hrel
    obtain ⟨y, D, rfl, hy, hD, h0, h1', h2', hbw⟩ := hrel
    rcases Nat.lt_or_ge y 40 with c1 | c1
    · have c2 : (y : Int) < 40 := by omega
      have hy0 : (0 : Int) ≤ y := by omega
      have HB := Lib.hid hbw; have HD := Lib.hid hD
      have HH0 := Lib.hid h0; have HH1 := Lib.hid h1'; have HH2 := Lib.hid h2'
      clear hbw hD h0 h1' h2'
      go_wp2_with fail
      obtain ⟨wo, rfl⟩ : ∃ wo : World, wo = wr := ⟨_, rfl⟩
      go_loopw [9] (fun iv wr => MovJ w C G y iv wr) (fun iv _ => 40 - (intOf iv).toNat)
      case atStart => unfold MovJ; exact ⟨0, D, rfl, by omega, HD.out, HH0.out, HH1.out, HH2.out, HB.out⟩
      case round =>
        unfold MovJ at hrel
        obtain ⟨x, E, rfl, hx, hE, h0, h1', h2', hbw⟩ := hrel
        clear HB HD HH0 HH1 HH2
        rcases Nat.lt_or_ge x 40 with d1 | d1
        · have d2 : (x : Int) < 40 := by omega
          have hx0 : (0 : Int) ≤ x := by omega
          have f0 := h0.cells; have f2 := h2'.cells; have l0 := h0.lt; have l2 := h2'.lt; have g2 := h2'.frozen
          have o0 : Old wr w.heap.size := h0.lt
          have o2 : Old wr (w.heap.size + 1 + 1) := h2'.lt
          have HB := Lib.hid hbw; have HE := Lib.hid hE
          have HH0 := Lib.hid h0; have HH1 := Lib.hid h1'; have HH2 := Lib.hid h2'
          clear hbw hE h0 h1' h2'
          go_upto_region 9 with fail
          have hp : wrap64 ((x : Int) - dx) = x - dx := by unfold wrap64; omega
          have hq : wrap64 ((y : Int) - dy) = y - dy := by unfold wrap64; omega
          by_cases k : 0 ≤ (x : Int) - dx ∧ (x : Int) - dx < 40 ∧ 0 ≤ (y : Int) - dy ∧ (y : Int) - dy < 40
          · obtain ⟨k1, k2, k3, k4⟩ := k
            obtain ⟨p, hp'⟩ : ∃ p : Nat, (x : Int) - dx = p := ⟨_, (Int.toNat_of_nonneg k1).symm⟩
            obtain ⟨q, hq'⟩ : ∃ q : Nat, (y : Int) - dy = q := ⟨_, (Int.toNat_of_nonneg k3).symm⟩
            have hG : G y x = F q p := by rw [← HG.out]; unfold movF; rw [if_pos ⟨k1, k2, k3, k4⟩, hp', hq']; rfl
            rw [hp'] at hp k1 k2 ⊢
            rw [hq'] at hq k3 k4 ⊢
            have hc := HF.out.cell q p (by omega) (by omega)
            obtain ⟨v, hv⟩ : ∃ v, F q p = v := ⟨_, rfl⟩
            rw [hv] at hc hG
            have hFi : MovJ w C G y (.int .i64 ((x : Int) + 1)) (wr.setCell ⟨w.heap.size + 1 + 1, y * 40 + x, none⟩ (.bool v)).drew := by
              unfold MovJ
              have := HE.out.step c1 d1
              rw [hG] at this
              exact ⟨x + 1, _, by push_cast; rfl, d1, this, has_drew (has_set_ne HH0.out (by omega)), has_drew (has_set_ne HH1.out (by omega)), has_drew (has_set HH2.out), Below.drew (Below.setCell HB.out (by show w.heap.size ≤ w.heap.size + 1 + 1; omega) _)⟩
            have HFI := Lib.hid hFi
            have hce := HE.out.cell y x c1 d1
            generalize midF (fun _ _ => false) G (y * 40 + x) y x = ov0 at hce
            clear hFi hG hp hq hp' hq' hv HE HH0 HH1 HH2
            go_wp2_with fail
            refine region_ord [(0, 0), (1, 0), (2, 0), (3, 0), (4, 0), (5, 0), (6, 0), (7, 0), (8, 0), (9, 2)] (by kernel_rfl) (by kernel_rfl) (fun _ _ d _ _ h => by cases d <;> exact h) (fun hS => ?_)
            (refine wpG_read (v := ?_) rfl (.inl ⟨by rfl, fun wx hbx => ?_⟩) ?_; rotate_left; (focus (obtain ⟨cx0, fx0, zx0⟩ := bk hbx (w.heap.size) (by first | omega | (simp; done) | (simp; omega)); obtain ⟨cx1, fx1, zx1⟩ := bk hbx (w.heap.size + 1 + 1) (by first | omega | (simp; done) | (simp; omega)); go_simp; (try go_bits); (try with_reducible rfl))); try simp only [Act.put, List.setIfInBounds_toArray, List.set_cons_zero, List.set_cons_succ])
            (refine wpG_read (v := ?_) rfl (.inl ⟨by rfl, fun wx hbx => ?_⟩) ?_; rotate_left; (focus (obtain ⟨cx0, fx0, zx0⟩ := bk hbx (w.heap.size) (by first | omega | (simp; done) | (simp; omega)); obtain ⟨cx1, fx1, zx1⟩ := bk hbx (w.heap.size + 1 + 1) (by first | omega | (simp; done) | (simp; omega)); go_simp; (try go_bits); (try with_reducible rfl))); try simp only [Act.put, List.setIfInBounds_toArray, List.set_cons_zero, List.set_cons_succ])
            (refine wpG_read (v := ?_) rfl (.inl ⟨by rfl, fun wx hbx => ?_⟩) ?_; rotate_left; (focus (obtain ⟨cx0, fx0, zx0⟩ := bk hbx (w.heap.size) (by first | omega | (simp; done) | (simp; omega)); obtain ⟨cx1, fx1, zx1⟩ := bk hbx (w.heap.size + 1 + 1) (by first | omega | (simp; done) | (simp; omega)); go_simp; (try go_bits); (try with_reducible rfl))); try simp only [Act.put, List.setIfInBounds_toArray, List.set_cons_zero, List.set_cons_succ])
            (refine wpG_read (v := ?_) rfl (.inl ⟨by rfl, fun wx hbx => ?_⟩) ?_; rotate_left; (focus (obtain ⟨cx0, fx0, zx0⟩ := bk hbx (w.heap.size) (by first | omega | (simp; done) | (simp; omega)); obtain ⟨cx1, fx1, zx1⟩ := bk hbx (w.heap.size + 1 + 1) (by first | omega | (simp; done) | (simp; omega)); go_simp; (try go_bits); (try with_reducible rfl))); try simp only [Act.put, List.setIfInBounds_toArray, List.set_cons_zero, List.set_cons_succ])
            (refine wpG_read (v := ?_) rfl (.inl ⟨by rfl, fun wx hbx => ?_⟩) ?_; rotate_left; (focus (obtain ⟨cx0, fx0, zx0⟩ := bk hbx (w.heap.size) (by first | omega | (simp; done) | (simp; omega)); obtain ⟨cx1, fx1, zx1⟩ := bk hbx (w.heap.size + 1 + 1) (by first | omega | (simp; done) | (simp; omega)); go_simp; (try go_bits); (try with_reducible rfl))); try simp only [Act.put, List.setIfInBounds_toArray, List.set_cons_zero, List.set_cons_succ])
            (refine wpG_read (v := ?_) rfl (.inl ⟨by rfl, fun wx hbx => ?_⟩) ?_; rotate_left; (focus (obtain ⟨cx0, fx0, zx0⟩ := bk hbx (w.heap.size) (by first | omega | (simp; done) | (simp; omega)); obtain ⟨cx1, fx1, zx1⟩ := bk hbx (w.heap.size + 1 + 1) (by first | omega | (simp; done) | (simp; omega)); go_simp; (try go_bits); (try with_reducible rfl))); try simp only [Act.put, List.setIfInBounds_toArray, List.set_cons_zero, List.set_cons_succ])
            (refine wpG_read (v := ?_) rfl (.inl ⟨by rfl, fun wx hbx => ?_⟩) ?_; rotate_left; (focus (obtain ⟨cx0, fx0, zx0⟩ := bk hbx (w.heap.size) (by first | omega | (simp; done) | (simp; omega)); obtain ⟨cx1, fx1, zx1⟩ := bk hbx (w.heap.size + 1 + 1) (by first | omega | (simp; done) | (simp; omega)); go_simp; (try go_bits); (try with_reducible rfl))); try simp only [Act.put, List.setIfInBounds_toArray, List.set_cons_zero, List.set_cons_succ])
            (refine wpG_read (v := ?_) rfl (.inl ⟨by rfl, fun wx hbx => ?_⟩) ?_; rotate_left; (focus (obtain ⟨cx0, fx0, zx0⟩ := bk hbx (w.heap.size) (by first | omega | (simp; done) | (simp; omega)); obtain ⟨cx1, fx1, zx1⟩ := bk hbx (w.heap.size + 1 + 1) (by first | omega | (simp; done) | (simp; omega)); go_simp; (try go_bits); (try with_reducible rfl))); try simp only [Act.put, List.setIfInBounds_toArray, List.set_cons_zero, List.set_cons_succ])
            (refine wpG_read (v := ?_) rfl (.inl ⟨by rfl, fun wx hbx => ?_⟩) ?_; rotate_left; (focus (obtain ⟨cx0, fx0, zx0⟩ := bk hbx (w.heap.size) (by first | omega | (simp; done) | (simp; omega)); obtain ⟨cx1, fx1, zx1⟩ := bk hbx (w.heap.size + 1 + 1) (by first | omega | (simp; done) | (simp; omega)); go_simp; (try go_bits); (try with_reducible rfl))); try simp only [Act.put, List.setIfInBounds_toArray, List.set_cons_zero, List.set_cons_succ])
            (refine wpG_late rfl (fun K hK => ?_); go_simp; (try simp only []); (try simp only []); refine hK _ _ ?_; clear hK K; try simp only [Act.put, List.setIfInBounds_toArray, List.set_cons_zero, List.set_cons_succ])
            refine wpG_nil ?_
            go_wp2_with fail
            exact ⟨HFI.out, by simp only [intOf]; omega⟩
          · have hG : G y x = false := by rw [← HG.out]; unfold movF; rw [if_neg k]
            have hFi : MovJ w C G y (.int .i64 ((x : Int) + 1)) wr := by
              unfold MovJ
              refine ⟨x + 1, E, by push_cast; rfl, d1, HE.out.congr (fun yy xx hyy hxx => ?_), HH0.out, HH1.out, HH2.out, HB.out⟩
              unfold midF
              by_cases e : yy * 40 + xx = y * 40 + x
              · obtain rfl : yy = y := by omega
                obtain rfl : xx = x := by omega
                rw [if_neg (by omega), if_pos (by omega), hG]
              · by_cases e' : yy * 40 + xx < y * 40 + x
                · rw [if_pos e', if_pos (by omega)]
                · rw [if_neg e', if_neg (by omega)]
            have HFI := Lib.hid hFi
            clear hFi hG HE HH0 HH1 HH2
            obtain ⟨p, hp'⟩ : ∃ p : Int, (x : Int) - dx = p := ⟨_, rfl⟩
            obtain ⟨q, hq'⟩ : ∃ q : Int, (y : Int) - dy = q := ⟨_, rfl⟩
            rw [hp', hq'] at k ⊢
            clear hp hq hp' hq'
            have k5 : p < 0 ∨ 40 ≤ p ∧ 0 ≤ p ∨ (0 ≤ p ∧ p < 40 ∧ q < 0) ∨ (0 ≤ p ∧ p < 40 ∧ 0 ≤ q ∧ 40 ≤ q) := by omega
            clear k
            rcases k5 with k5 | ⟨k5, k6⟩ | ⟨k5, k6, k7⟩ | ⟨k5, k6, k7, k8⟩
            all_goals
              go_wp2_with fail
              exact ⟨HFI.out, by simp only [intOf]; omega⟩
        · have d2 : (40 : Int) ≤ x := by omega
          obtain rfl : x = 40 := by omega
          have hE' := hE.row
          have HH := Lib.hid (show MovI w C G (.int .i64 ((y : Int) + 1)) wr from ⟨y + 1, E, by push_cast; rfl, c1, hE', h0, h1', h2', hbw⟩)
          clear hE hE' h0 h1' h2' hbw
          go_wp2_with fail
          exact ⟨HH.out, by simp only [intOf]; omega⟩
    · have c2 : (40 : Int) ≤ y := by omega
      have e16 : y * 40 = 1600 := by omega
      have hD' : FldC G D := midF_all (fun _ _ => false) G (by rw [← e16]; exact hD)
      clear e16
      have b0 := blkCells_has h1'; have b2 := blkCells_has h2'
      have s0 := hD'.size; have s1 := hD'.one
      have s2 := zero_size
      have hFin : Has (putBlk wr (w.heap.size + 1) D) (w.heap.size + 1) D 29 := has_put h1'
      have hBin : Below w.heap.size w (putBlk wr (w.heap.size + 1) D) := below_put hbw (by omega)
      have HBI := Lib.hid hBin; have HFI := Lib.hid hFin; have HD := Lib.hid hD'
      clear hbw h0 h1' h2' hD hD' hFin hBin
      go_wp2_with fail
      refine bodyPost_row (cs := D) (T := 29) Try.results16 (b := w.heap.size + 1) (by rfl) HFI.out Try.underlying29 rfl (by kernel_rfl) HD.out.size rfl ?_
      exact ⟨D, rfl, HD.out, HBI.out⟩
end Go.Proofs.Ytkpamofamcndnaa
namespace Go.Proofs.Ytkpamofamcndnaa
open Go Go.RowKit Go.Shelf
set_option linter.unusedSimpArgs false
set_option linter.unusedVariables false

theorem row_xl {ρ : Operand → Value} {d : Option Tmp} {t : TypeId} {x : Operand} {po : String} {af : Array Edge} {g : Option (Nat × Bool)} (w : World) : (execOp ρ ⟨d, .load 27 x, t, po, af, g⟩).run Try.prog w = runLoad Try.prog 27 (ρ x) w := exec_load w
theorem row_l (w : World) (b o : Nat) (h : (blkCells w b).size = 1600) (ho : o + 40 ≤ 1600) : runLoad Try.prog 27 (.pointer (some ⟨b, o, none⟩)) w = .ok (.value (.agg ((blkCells w b).extract o (o + 40)))) w := by
  obtain ⟨T, hT⟩ := blk_some h (by omega)
  have hl : ((blkCells w b).extract o (o + 40)).size = 40 := by rw [Array.size_extract, h]; omega
  have := run_loadAt_mid (P := Try.prog) w b o 27 ((blkCells w b).extract o (o + 40)).toList _ (fun j v hv => by
    rw [blk_cell hT]
    rw [Array.getElem?_toList, Array.getElem?_extract] at hv
    split at hv
    · exact hv
    · cases hv) Try.underlying27 rfl (by rw [Array.length_toList, hl]; kernel_rfl)
  unfold runLoad
  rw [Sem.run_bind, this]
  rfl
theorem FldC.rowC {F : Nat → Nat → Bool} {C : Array Value} (h : FldC F C) {y : Nat} (hy : y < 40) : RowC (F y) (C.extract (y * 40) (y * 40 + 40)) := by
  refine ⟨by rw [Array.size_extract, h.size]; omega, fun x hx => ?_⟩
  rw [Array.getElem?_extract, if_pos (by rw [h.size]; omega)]
  exact h.cell y x hy hx
/-- Are two rows the same? -/
def eqRow (f g : Nat → Bool) : Bool := (List.range 40).all fun i => f i == g i
theorem eqRow_iff {f g : Nat → Bool} : eqRow f g = true ↔ ∀ i, i < 40 → f i = g i := by
  simp [eqRow]
theorem run_eqRow (d : Nat) (w : World) {f g : Nat → Bool} {xs ys : Array Value} (hx : RowC f xs) (hy : RowC g ys) : (Op.equalIn (d + 2) 27 (.agg xs) (.agg ys)).run Try.prog w = .ok (eqRow f g) w := by
  have hsz : ∀ w, (sizeOf 4).run Try.prog w = .ok 1 w := Try.sizeOf4
  rw [eqRow, List.range_eq_range', Op.equalIn]
  simp only [Sem.run_bind, run_underlying Try.underlying27, Result.andThen_ok, hsz, Std.Legacy.Range.forIn_eq_forIn_range', Std.Legacy.Range.size, Nat.sub_zero, Nat.add_sub_cancel, Nat.div_one]
  have hl : ∀ i ∈ List.range' 0 40 1, i < 40 := fun i hi => by simpa using (List.mem_range'_1.1 hi).2
  generalize List.range' 0 40 1 = l at hl ⊢
  induction l with
  | nil => simp
  | cons i l ih =>
    have hi : i < 40 := hl i (by simp)
    have px : (part 4 xs (i * 1)).run Try.prog w = .ok (.bool (f i)) w := by
      simp [part, isAgg, run_underlying Try.underlying4, hx.cell i hi]
    have py : (part 4 ys (i * 1)).run Try.prog w = .ok (.bool (g i)) w := by
      simp [part, isAgg, run_underlying Try.underlying4, hy.cell i hi]
    have pe : (Op.equalIn (d + 1) 4 (.bool (f i)) (.bool (g i))).run Try.prog w = .ok (f i == g i) w := run_equalIn_bool' w d _ _ _ Try.underlying4
    simp only [List.forIn_cons, Sem.run_bind, px, py, pe, Result.andThen_ok, List.all_cons]
    cases hb : (f i == g i)
    · simp
    · simp only [Bool.not_true, Bool.false_eq_true, if_false, Sem.run_pure, Result.andThen_ok, Bool.true_and]
      exact ih fun j hj => hl j (by simp [hj])
theorem eql_row (w : World) {f g : Nat → Bool} {xs ys : Array Value} (hx : RowC f xs) (hy : RowC g ys) : (binOp .eql 27 (.agg xs) (.agg ys)).run Try.prog w = .ok (.bool (eqRow f g)) w := by
  rw [run_eql_struct, run_eqRow 9998 w hx hy]; rfl
end Go.Proofs.Ytkpamofamcndnaa
