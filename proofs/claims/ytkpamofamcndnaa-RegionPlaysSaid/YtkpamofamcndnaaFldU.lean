/- clapboardref07.Rects by contract. clapboardlaw07: told, plain; clapboardref07.Hull. clapboardlaw07.same by contract. -/
import Derived.Test.YtkpamofamcndnaaFldQ
import Derived.Test.YtkpamofamcndnaaRegN
import Derived.Test.YtkpamofamcndnaaRegSp
import Derived.Test.YtkpamofamcndnaaRegFar
namespace Go.Proofs.Ytkpamofamcndnaa
open Go.RowKit Go.Shelf
set_option linter.unusedSimpArgs false
set_option linter.unusedVariables false
-- below_from_drew
-- bigread
attribute [local go_sem] ov_cell_same ov_cell_other ov_frozen_same ov_frozen_other ov_size ov_setCell_same ov_setCell_other cell_alloc_old frozen_alloc_old setCell_alloc_old old_alloc old_ov old_drew old_drewN old_setCell
attribute [local go_sem ↓] run_max2 run_min2 eql_rect neq_rect
attribute [local go_sem ↓] row_xl
attribute [local go_sem] row_l blkCells_ov_same blkCells_ov_other blkCells_new blkCells_old blkCells_drew blkCells_drewN

theorem rects_cnt : ∀ l : List RectQ, (∀ q ∈ l, nfQ q ∧ q.1 < q.2.2.1) → (l.length : Int) ≤ sumQ l
  | [], _ => Int.le_refl _
  | q :: l, h => by
    have ih := rects_cnt l (fun q hq => h q (.tail _ hq))
    obtain ⟨h1, h2⟩ := h q (.head _)
    have e : areaQ q = (q.2.2.1 - q.1) * (q.2.2.2 - q.2.1) := areaR_nf h1
    unfold nfQ NF at h1
    have h3 : q.2.1 < q.2.2.2 := by omega
    have h4 : 1 * 1 ≤ (q.2.2.1 - q.1) * (q.2.2.2 - q.2.1) := Int.mul_le_mul (by omega) (by omega) (by omega) (by omega)
    show ((l.length + 1 : Nat) : Int) ≤ areaQ q + sumQ l
    push_cast
    omega
theorem bdE_len (F : Nat → Nat → Bool) : (rectsZ (bdE F 0)).length ≤ 1600 := by
  have h1 := rects_cnt _ (bdE_ok F).1.nf
  rw [bdE_count] at h1
  have := cntK_le F 1600
  omega
theorem infoR7 : (Try.prog.info? 31).map (fun i => (i.zero, i.size, i.bytes)) = some (some (.agg #[.int .i64 0, .int .i64 0, .int .i64 0, .int .i64 0]), 4, 32) := by kernel_rfl
def RsO (w : World) (C : Array Value) (F : Nat → Nat → Bool) (sv iv : Value) (wr : World) : Prop :=
  ∃ (y : Nat) (l : List RectQ) (al : Option Addr) (ca : Nat), iv = .int .i64 (y : Int) ∧ y ≤ 40 ∧ sv = .slice al l.length ca ∧ rectsZ (bdE F 0) = l ++ rectsZ (bdE F y) ∧ Below w.heap.size w wr ∧ wr.ownsRow (w.heap.size + 1) 31 4 (.slice al l.length ca) l.length (rectCells l) ∧ Has wr w.heap.size C 29
def RsI (w : World) (C : Array Value) (f : Nat → Bool) (y E : Int) (l0 : List RectQ) (sv iv : Value) (wr : World) : Prop :=
  ∃ (x : Nat) (l : List RectQ) (al : Option Addr) (ca : Nat), iv = .int .i64 (x : Int) ∧ x ≤ 40 ∧ sv = .slice al l.length ca ∧ l0 ++ pairsZ y E (edE f 0) = l ++ pairsZ y E (edE f x) ∧ Below w.heap.size w wr ∧ wr.ownsRow (w.heap.size + 1) 31 4 (.slice al l.length ca) l.length (rectCells l) ∧ Has wr w.heap.size C 29
/-- What stays, through the loops. -/
def Kp (w : World) (C : Array Value) (l : List RectQ) (al : Option Addr) (ca : Nat) (wr : World) : Prop := Below w.heap.size w wr ∧ wr.ownsRow (w.heap.size + 1) 31 4 (.slice al l.length ca) l.length (rectCells l) ∧ Has wr w.heap.size C 29
theorem Kp.below {w u v : World} {C : Array Value} {l : List RectQ} {al : Option Addr} {ca : Nat} (h : Kp w C l al ca u) (hb : Below u.heap.size u v) : Kp w C l al ca v := ⟨h.1.trans (hb.mono h.1.size), row_below hb h.2.1, has_below hb h.2.2⟩
theorem rectsAt7 {w : World} {base n c : Nat} {a : Option Addr} {l : List RectQ} (h : w.ownsRow base 31 4 (.slice a n c) n (rectCells l)) (hn : l.length = n := by rfl) : RectsAt w a l := fun h0 => by
  obtain ⟨a', c', e, _, _, hr⟩ := row_reads h
  cases e
  obtain ⟨g, rfl, hg, hl, hc⟩ := hr (by omega)
  refine ⟨g, 0, rfl, hl, fun i hi => ?_⟩
  rw [Nat.zero_add]
  exact ⟨hc _ _ (rectCells_get l hi (k := 0) (by omega)), hc _ _ (rectCells_get l hi (k := 1) (by omega)), hc _ _ (rectCells_get l hi (k := 2) (by omega)), hc _ _ (rectCells_get l hi (k := 3) (by omega))⟩
def cndY (F : Nat → Nat → Bool) (y t : Nat) : Bool := decide (t < 40) && eqRow (F t) (F y)
def cndX (f : Nat → Bool) (t : Nat) : Bool := decide (t < 40) && f t
theorem rects_no {F : Nat → Nat → Bool} {y : Nat} (h : y < 40) (e : anyB (F y) 40 = false) : rectsZ (bdE F y) = rectsZ (bdE F (y + 1)) := by rw [bdE_no F h e]
theorem rects_yes {F : Nat → Nat → Bool} {y : Nat} (h : y < 40) (e : anyB (F y) 40 = true) : rectsZ (bdE F y) = pairsZ y (endF F y) (edE (F y) 0) ++ rectsZ (bdE F (endF F y)) := by rw [bdE_yes F h e]; rfl
set_option maxRecDepth 100000 in
set_option maxHeartbeats 8000000 in
theorem rects7_own (F : Nat → Nat → Bool) (C : Array Value) (w : World) (hF : FldC F C) :
    Calls Try.prog 54 #[.agg C] w fun e w' => ∃ al ca, e = .returned (.slice al (rectsZ (bdE F 0)).length ca) ∧ RectsAt w' al (rectsZ (bdE F 0)) ∧ Below w.heap.size w w' := by
  obtain ⟨i0, hi0, hz0, hz1, hz2⟩ := info_parts infoR7
  have hs := hF.size
  have HF := Lib.hid hF
  have hlen := bdE_len F
  clear hF
  go_enter Try.func54, Try.ntmps54
  go_wp2_with fail
  go_loopw [3, 4] (fun sv iv wr => RsO w C F sv iv wr) (fun _ iv _ => 40 - (intOf iv).toNat)
  case atStart =>
    unfold RsO
    refine ⟨0, [], none, 0, rfl, Nat.zero_le _, rfl, rfl, by (repeat' (first | (with_reducible exact Below.refl _ _) | (with_reducible assumption) | (with_reducible refine below_from_drew ?_) | (with_reducible refine Below.alloc ?_ ?_ _) | (with_reducible refine Below.drew ?_) | (with_reducible refine below_drewN ?_ _) | (with_reducible refine Below.setCell ?_ ?_ _) | (with_reducible refine below_via ?_ (by assumption) ?_) | (with_reducible refine below_ov ?_ ?_ _ _) | go_size)), World.ownsRow_nil _ _ _ _, ?_⟩
    (repeat' (first | (with_reducible refine has_drew ?_) | (with_reducible refine has_drewN ?_) | (with_reducible refine has_new ?_; (first | (with_reducible rfl) | omega | (simp; done) | (simp; omega))) | (with_reducible refine has_ov_same ?_; (first | (with_reducible rfl) | omega | (simp; done) | (simp; omega))) | (with_reducible refine has_alloc ?_) | (with_reducible refine has_ov_other ?_ ?_; (focus (first | (with_reducible rfl) | omega | (simp; done) | (simp; omega)))) | (with_reducible assumption) | (with_reducible exact has_below hB (by assumption))))
  case round =>
    unfold RsO at hrel
    obtain ⟨y, l, al, ca, rfl, hy, rfl, heq, hbw, hown, h0⟩ := hrel
    have hzw := hbw.size
    have HBW := Lib.hid hbw; have HO := Lib.hid hown; have HEQ := Lib.hid heq; have HH := Lib.hid h0
    have b0 := blkCells_has h0; have l0 := h0.lt; have f0 := h0.cells
    have o0 : Old wr w.heap.size := l0
    clear hbw hown heq h0
    rcases Nat.lt_or_ge y 40 with c1 | c1
    · have c2 : (y : Int) < 40 := by omega
      have hy0 : (0 : Int) ≤ y := by omega
      have hy1 : y * 40 + 40 ≤ 1600 := by omega
      have HNO := Lib.hid (fun u => none_any (F y) _ u (HF.out.rowC c1))
      cases e : anyB (F y) 40 with
      | false =>
        rw [e] at HNO
        have hr := HEQ.out
        rw [rects_no c1 e] at hr
        have HR := Lib.hid hr
        clear e hr
        go_wp2_with (go_at_call 79; (with_reducible refine (HNO.out _).mono ?_); rintro e u1 ⟨rfl, hb⟩; have hz := hb.size; refine (fun hB => ?_ : Below wr.heap.size wr u1 → _) ?_; rotate_left; (focus ((repeat' (first | (with_reducible exact Below.refl _ _) | (with_reducible assumption) | (with_reducible refine below_from_drew ?_) | (with_reducible refine Below.alloc ?_ ?_ _) | (with_reducible refine Below.drew ?_) | (with_reducible refine below_drewN ?_ _) | (with_reducible refine Below.setCell ?_ ?_ _) | (with_reducible refine below_via ?_ (by assumption) ?_) | (with_reducible refine below_ov ?_ ?_ _ _) | go_size)); done)); (try simp only [World.size_alloc, World.size_setCell, World.size_drew, ov_size] at hz))
        unfold RsO
        exact ⟨⟨y + 1, l, al, ca, by push_cast; rfl, c1, rfl, HR.out, HBW.out.trans (hB.mono hzw), row_below hB HO.out, has_below hB HH.out⟩, by simp only [intOf]; omega⟩
      | true =>
        rw [e] at HNO
        have hr := HEQ.out
        rw [rects_yes c1 e, ← List.append_assoc] at hr
        have HR := Lib.hid hr
        obtain ⟨t1, t2, t3, t4⟩ := endF_spec F c1
        clear e hr
        go_wp2_with (go_at_call 79; (with_reducible refine (HNO.out _).mono ?_); rintro e u1 ⟨rfl, hb⟩; have hz := hb.size; refine (fun hB => ?_ : Below wr.heap.size wr u1 → _) ?_; rotate_left; (focus ((repeat' (first | (with_reducible exact Below.refl _ _) | (with_reducible assumption) | (with_reducible refine below_from_drew ?_) | (with_reducible refine Below.alloc ?_ ?_ _) | (with_reducible refine Below.drew ?_) | (with_reducible refine below_drewN ?_ _) | (with_reducible refine Below.setCell ?_ ?_ _) | (with_reducible refine below_via ?_ (by assumption) ?_) | (with_reducible refine below_ov ?_ ?_ _ _) | go_size)); done)); (try simp only [World.size_alloc, World.size_setCell, World.size_drew, ov_size] at hz))
        have hK : Kp w C l al ca u1 := ⟨HBW.out.trans (hB.mono hzw), row_below hB HO.out, has_below hB HH.out⟩
        have HK := Lib.hid hK
        clear hK hb hz hB HBW HO HH b0 l0 f0 o0 HNO hzw
        obtain ⟨wo, rfl⟩ : ∃ wo : World, wo = wr := ⟨_, rfl⟩
        go_loopw [5] (fun iv wr => ∃ t : Nat, iv = .int .i64 (t : Int) ∧ y + 1 ≤ t ∧ t ≤ 40 ∧ (∀ q, y + 1 ≤ q → q < t → eqRow (F q) (F y) = true) ∧ Kp w C l al ca wr) (fun iv _ => 40 - (intOf iv).toNat)
        case atStart => exact ⟨y + 1, by push_cast; rfl, Nat.le_refl _, c1, fun q h1 h2 => by omega, HK.out⟩
        case round =>
          obtain ⟨t, rfl, ht1, ht2, hts, hk⟩ := hrel
          clear HK
          have b0 := blkCells_has hk.2.2; have l0 := hk.2.2.lt; have f0 := hk.2.2.cells
          have o0 : Old wr w.heap.size := l0
          have hcu : cndY F y t = false → endF F y = t := fun hc => toF_uniq _ ht1 ht2 hts (fun h40 => by unfold cndY at hc; rw [decide_eq_true h40] at hc; exact hc)
          have hcs : cndY F y t = true → t < 40 ∧ ∀ q, y + 1 ≤ q → q < t + 1 → eqRow (F q) (F y) = true := fun hc => by
            unfold cndY at hc
            simp only [Bool.and_eq_true, decide_eq_true_eq] at hc
            exact ⟨hc.1, fun q h1 h2 => by
              by_cases z : q = t
              · rw [z]; exact hc.2
              · exact hts q h1 (by omega)⟩
          have HCU := Lib.hid hcu; have HCS := Lib.hid hcs; have HK := Lib.hid hk
          clear hts hk hcu hcs
          go_upto_region 7 with fail
          go_cut [28] (fun s wx => s = .bool (cndY F y t) ∧ Kp w C l al ca wx)
          case first =>
            rcases Nat.lt_or_ge t 40 with d1 | d1
            · have d2 : (t : Int) < 40 := by omega
              have ht0 : (0 : Int) ≤ t := by omega
              have hy2 : t * 40 + 40 ≤ 1600 := by omega
              have heql : ∀ w, (binOp .eql 27 (.agg (C.extract (t * 40) (t * 40 + 40))) (.agg (C.extract (y * 40) (y * 40 + 40)))).run Try.prog w = .ok (.bool (eqRow (F t) (F y))) w := fun w => eql_row w (HF.out.rowC d1) (HF.out.rowC c1)
              have hval : cndY F y t = eqRow (F t) (F y) := by unfold cndY; rw [decide_eq_true d1]; rfl
              have HV := Lib.hid hval
              clear hval
              refine region_ord [(0, 0), (1, 0), (2, 0), (3, 0), (4, 0), (5, 0), (6, 0), (7, 0), (8, 0), (9, 0), (10, 0)] (by kernel_rfl) (by kernel_rfl) (fun _ _ d _ _ h => by cases d <;> exact h) (fun hS => ?_)
              (refine wpG_read (v := ?_) rfl (.inl ⟨by rfl, fun wx hbx => ?_⟩) ?_; rotate_left; (focus (obtain ⟨cx0, fx0, zx0⟩ := bk hbx (w.heap.size) (by first | omega | (simp; done) | (simp; omega)); have bx0 := bkB hbx (w.heap.size) (by first | omega | (simp; done) | (simp; omega)); go_simp; (try go_bits); (try with_reducible rfl))); try simp only [Act.put, List.setIfInBounds_toArray, List.set_cons_zero, List.set_cons_succ])
              (refine wpG_read (v := ?_) rfl (.inl ⟨by rfl, fun wx hbx => ?_⟩) ?_; rotate_left; (focus (obtain ⟨cx0, fx0, zx0⟩ := bk hbx (w.heap.size) (by first | omega | (simp; done) | (simp; omega)); have bx0 := bkB hbx (w.heap.size) (by first | omega | (simp; done) | (simp; omega)); go_simp; (try go_bits); (try with_reducible rfl))); try simp only [Act.put, List.setIfInBounds_toArray, List.set_cons_zero, List.set_cons_succ])
              (refine wpG_read (v := ?_) rfl (.inl ⟨by rfl, fun wx hbx => ?_⟩) ?_; rotate_left; (focus (obtain ⟨cx0, fx0, zx0⟩ := bk hbx (w.heap.size) (by first | omega | (simp; done) | (simp; omega)); have bx0 := bkB hbx (w.heap.size) (by first | omega | (simp; done) | (simp; omega)); go_simp; (try go_bits); (try with_reducible rfl))); try simp only [Act.put, List.setIfInBounds_toArray, List.set_cons_zero, List.set_cons_succ])
              (first | (refine wpG_pass rfl (by rfl) ?_; simp only [Act.put, List.setIfInBounds_toArray, List.set_cons_zero, List.set_cons_succ]) | (refine wpG_read (v := ?_) rfl (.inl ⟨by rfl, fun wx hbx => ?_⟩) ?_; rotate_left; (focus (obtain ⟨cx0, fx0, zx0⟩ := bk hbx (w.heap.size) (by first | omega | (simp; done) | (simp; omega)); have bx0 := bkB hbx (w.heap.size) (by first | omega | (simp; done) | (simp; omega)); go_simp; (try go_bits); (try with_reducible rfl))); try simp only [Act.put, List.setIfInBounds_toArray, List.set_cons_zero, List.set_cons_succ]))
              (first | (refine wpG_pass rfl (by rfl) ?_; simp only [Act.put, List.setIfInBounds_toArray, List.set_cons_zero, List.set_cons_succ]) | (refine wpG_read (v := ?_) rfl (.inl ⟨by rfl, fun wx hbx => ?_⟩) ?_; rotate_left; (focus (obtain ⟨cx0, fx0, zx0⟩ := bk hbx (w.heap.size) (by first | omega | (simp; done) | (simp; omega)); have bx0 := bkB hbx (w.heap.size) (by first | omega | (simp; done) | (simp; omega)); go_simp; (try go_bits); (try with_reducible rfl))); try simp only [Act.put, List.setIfInBounds_toArray, List.set_cons_zero, List.set_cons_succ]))
              (first | (refine wpG_pass rfl (by rfl) ?_; simp only [Act.put, List.setIfInBounds_toArray, List.set_cons_zero, List.set_cons_succ]) | (refine wpG_read (v := ?_) rfl (.inl ⟨by rfl, fun wx hbx => ?_⟩) ?_; rotate_left; (focus (obtain ⟨cx0, fx0, zx0⟩ := bk hbx (w.heap.size) (by first | omega | (simp; done) | (simp; omega)); have bx0 := bkB hbx (w.heap.size) (by first | omega | (simp; done) | (simp; omega)); go_simp; (try go_bits); (try with_reducible rfl))); try simp only [Act.put, List.setIfInBounds_toArray, List.set_cons_zero, List.set_cons_succ]))
              (first | (refine wpG_pass rfl (by rfl) ?_; simp only [Act.put, List.setIfInBounds_toArray, List.set_cons_zero, List.set_cons_succ]) | (refine wpG_read (v := ?_) rfl (.inl ⟨by rfl, fun wx hbx => ?_⟩) ?_; rotate_left; (focus (obtain ⟨cx0, fx0, zx0⟩ := bk hbx (w.heap.size) (by first | omega | (simp; done) | (simp; omega)); have bx0 := bkB hbx (w.heap.size) (by first | omega | (simp; done) | (simp; omega)); go_simp; (try go_bits); (try with_reducible rfl))); try simp only [Act.put, List.setIfInBounds_toArray, List.set_cons_zero, List.set_cons_succ]))
              (first | (refine wpG_pass rfl (by rfl) ?_; simp only [Act.put, List.setIfInBounds_toArray, List.set_cons_zero, List.set_cons_succ]) | (refine wpG_read (v := ?_) rfl (.inl ⟨by rfl, fun wx hbx => ?_⟩) ?_; rotate_left; (focus (obtain ⟨cx0, fx0, zx0⟩ := bk hbx (w.heap.size) (by first | omega | (simp; done) | (simp; omega)); have bx0 := bkB hbx (w.heap.size) (by first | omega | (simp; done) | (simp; omega)); go_simp; (try go_bits); (try with_reducible rfl))); try simp only [Act.put, List.setIfInBounds_toArray, List.set_cons_zero, List.set_cons_succ]))
              (first | (refine wpG_pass rfl (by rfl) ?_; simp only [Act.put, List.setIfInBounds_toArray, List.set_cons_zero, List.set_cons_succ]) | (refine wpG_read (v := ?_) rfl (.inl ⟨by rfl, fun wx hbx => ?_⟩) ?_; rotate_left; (focus (obtain ⟨cx0, fx0, zx0⟩ := bk hbx (w.heap.size) (by first | omega | (simp; done) | (simp; omega)); have bx0 := bkB hbx (w.heap.size) (by first | omega | (simp; done) | (simp; omega)); go_simp; (try go_bits); (try with_reducible rfl))); try simp only [Act.put, List.setIfInBounds_toArray, List.set_cons_zero, List.set_cons_succ]))
              (first | (refine wpG_pass rfl (by rfl) ?_; simp only [Act.put, List.setIfInBounds_toArray, List.set_cons_zero, List.set_cons_succ]) | (refine wpG_read (v := ?_) rfl (.inl ⟨by rfl, fun wx hbx => ?_⟩) ?_; rotate_left; (focus (obtain ⟨cx0, fx0, zx0⟩ := bk hbx (w.heap.size) (by first | omega | (simp; done) | (simp; omega)); have bx0 := bkB hbx (w.heap.size) (by first | omega | (simp; done) | (simp; omega)); go_simp; (try go_bits); (try with_reducible rfl))); try simp only [Act.put, List.setIfInBounds_toArray, List.set_cons_zero, List.set_cons_succ]))
              (refine wpG_read (v := ?_) rfl (.inl ⟨by rfl, fun wx hbx => ?_⟩) ?_; rotate_left; (focus (obtain ⟨cx0, fx0, zx0⟩ := bk hbx (w.heap.size) (by first | omega | (simp; done) | (simp; omega)); have bx0 := bkB hbx (w.heap.size) (by first | omega | (simp; done) | (simp; omega)); go_simp; (try go_bits); (try with_reducible rfl))); try simp only [Act.put, List.setIfInBounds_toArray, List.set_cons_zero, List.set_cons_succ])
              refine wpG_nil ?_
              have HK2 := Lib.hid (HK.out.below (Below.drew (Below.refl _ _)))
              go_wp2_with fail
              go_meet
              exact ⟨by rw [HV.out], HK2.out⟩
            · have d2 : (40 : Int) ≤ t := by omega
              have d3 : decide ((t : Int) < 40) = false := decide_eq_false (by omega)
              have hval : cndY F y t = false := by unfold cndY; rw [decide_eq_false (by omega)]; rfl
              have HV := Lib.hid hval
              have HK2 := Lib.hid (HK.out.below (Below.drew (Below.refl _ _)))
              clear hval
              refine region_ord [(0, 0), (1, 0), (2, 0), (3, 0), (4, 0), (5, 0), (6, 0), (7, 0), (8, 0), (9, 0), (10, 0)] (by kernel_rfl) (by kernel_rfl) (fun _ _ d _ _ h => by cases d <;> exact h) (fun hS => ?_)
              (refine wpG_read (v := ?_) rfl (.inl ⟨by rfl, fun wx hbx => ?_⟩) ?_; rotate_left; (focus (obtain ⟨cx0, fx0, zx0⟩ := bk hbx (w.heap.size) (by first | omega | (simp; done) | (simp; omega)); have bx0 := bkB hbx (w.heap.size) (by first | omega | (simp; done) | (simp; omega)); go_simp; (try go_bits); (try with_reducible rfl))); try simp only [Act.put, List.setIfInBounds_toArray, List.set_cons_zero, List.set_cons_succ])
              (refine wpG_read (v := ?_) rfl (.inl ⟨by rfl, fun wx hbx => ?_⟩) ?_; rotate_left; (focus (obtain ⟨cx0, fx0, zx0⟩ := bk hbx (w.heap.size) (by first | omega | (simp; done) | (simp; omega)); have bx0 := bkB hbx (w.heap.size) (by first | omega | (simp; done) | (simp; omega)); go_simp; (try go_bits); (try with_reducible rfl))); try simp only [Act.put, List.setIfInBounds_toArray, List.set_cons_zero, List.set_cons_succ])
              (refine wpG_read (v := ?_) rfl (.inl ⟨by rfl, fun wx hbx => ?_⟩) ?_; rotate_left; (focus (obtain ⟨cx0, fx0, zx0⟩ := bk hbx (w.heap.size) (by first | omega | (simp; done) | (simp; omega)); have bx0 := bkB hbx (w.heap.size) (by first | omega | (simp; done) | (simp; omega)); go_simp; (try go_bits); (try with_reducible rfl))); try simp only [Act.put, List.setIfInBounds_toArray, List.set_cons_zero, List.set_cons_succ])
              (first | (refine wpG_pass rfl (by rfl) ?_; simp only [Act.put, List.setIfInBounds_toArray, List.set_cons_zero, List.set_cons_succ]) | (refine wpG_read (v := ?_) rfl (.inl ⟨by rfl, fun wx hbx => ?_⟩) ?_; rotate_left; (focus (obtain ⟨cx0, fx0, zx0⟩ := bk hbx (w.heap.size) (by first | omega | (simp; done) | (simp; omega)); have bx0 := bkB hbx (w.heap.size) (by first | omega | (simp; done) | (simp; omega)); go_simp; (try go_bits); (try with_reducible rfl))); try simp only [Act.put, List.setIfInBounds_toArray, List.set_cons_zero, List.set_cons_succ]))
              (first | (refine wpG_pass rfl (by rfl) ?_; simp only [Act.put, List.setIfInBounds_toArray, List.set_cons_zero, List.set_cons_succ]) | (refine wpG_read (v := ?_) rfl (.inl ⟨by rfl, fun wx hbx => ?_⟩) ?_; rotate_left; (focus (obtain ⟨cx0, fx0, zx0⟩ := bk hbx (w.heap.size) (by first | omega | (simp; done) | (simp; omega)); have bx0 := bkB hbx (w.heap.size) (by first | omega | (simp; done) | (simp; omega)); go_simp; (try go_bits); (try with_reducible rfl))); try simp only [Act.put, List.setIfInBounds_toArray, List.set_cons_zero, List.set_cons_succ]))
              (first | (refine wpG_pass rfl (by rfl) ?_; simp only [Act.put, List.setIfInBounds_toArray, List.set_cons_zero, List.set_cons_succ]) | (refine wpG_read (v := ?_) rfl (.inl ⟨by rfl, fun wx hbx => ?_⟩) ?_; rotate_left; (focus (obtain ⟨cx0, fx0, zx0⟩ := bk hbx (w.heap.size) (by first | omega | (simp; done) | (simp; omega)); have bx0 := bkB hbx (w.heap.size) (by first | omega | (simp; done) | (simp; omega)); go_simp; (try go_bits); (try with_reducible rfl))); try simp only [Act.put, List.setIfInBounds_toArray, List.set_cons_zero, List.set_cons_succ]))
              (first | (refine wpG_pass rfl (by rfl) ?_; simp only [Act.put, List.setIfInBounds_toArray, List.set_cons_zero, List.set_cons_succ]) | (refine wpG_read (v := ?_) rfl (.inl ⟨by rfl, fun wx hbx => ?_⟩) ?_; rotate_left; (focus (obtain ⟨cx0, fx0, zx0⟩ := bk hbx (w.heap.size) (by first | omega | (simp; done) | (simp; omega)); have bx0 := bkB hbx (w.heap.size) (by first | omega | (simp; done) | (simp; omega)); go_simp; (try go_bits); (try with_reducible rfl))); try simp only [Act.put, List.setIfInBounds_toArray, List.set_cons_zero, List.set_cons_succ]))
              (first | (refine wpG_pass rfl (by rfl) ?_; simp only [Act.put, List.setIfInBounds_toArray, List.set_cons_zero, List.set_cons_succ]) | (refine wpG_read (v := ?_) rfl (.inl ⟨by rfl, fun wx hbx => ?_⟩) ?_; rotate_left; (focus (obtain ⟨cx0, fx0, zx0⟩ := bk hbx (w.heap.size) (by first | omega | (simp; done) | (simp; omega)); have bx0 := bkB hbx (w.heap.size) (by first | omega | (simp; done) | (simp; omega)); go_simp; (try go_bits); (try with_reducible rfl))); try simp only [Act.put, List.setIfInBounds_toArray, List.set_cons_zero, List.set_cons_succ]))
              (first | (refine wpG_pass rfl (by rfl) ?_; simp only [Act.put, List.setIfInBounds_toArray, List.set_cons_zero, List.set_cons_succ]) | (refine wpG_read (v := ?_) rfl (.inl ⟨by rfl, fun wx hbx => ?_⟩) ?_; rotate_left; (focus (obtain ⟨cx0, fx0, zx0⟩ := bk hbx (w.heap.size) (by first | omega | (simp; done) | (simp; omega)); have bx0 := bkB hbx (w.heap.size) (by first | omega | (simp; done) | (simp; omega)); go_simp; (try go_bits); (try with_reducible rfl))); try simp only [Act.put, List.setIfInBounds_toArray, List.set_cons_zero, List.set_cons_succ]))
              (first | (refine wpG_pass rfl (by rfl) ?_; simp only [Act.put, List.setIfInBounds_toArray, List.set_cons_zero, List.set_cons_succ]) | (refine wpG_read (v := ?_) rfl (.inl ⟨by rfl, fun wx hbx => ?_⟩) ?_; rotate_left; (focus (obtain ⟨cx0, fx0, zx0⟩ := bk hbx (w.heap.size) (by first | omega | (simp; done) | (simp; omega)); have bx0 := bkB hbx (w.heap.size) (by first | omega | (simp; done) | (simp; omega)); go_simp; (try go_bits); (try with_reducible rfl))); try simp only [Act.put, List.setIfInBounds_toArray, List.set_cons_zero, List.set_cons_succ]))
              (refine wpG_read (v := ?_) rfl (.inl ⟨by rfl, fun wx hbx => ?_⟩) ?_; rotate_left; (focus (obtain ⟨cx0, fx0, zx0⟩ := bk hbx (w.heap.size) (by first | omega | (simp; done) | (simp; omega)); have bx0 := bkB hbx (w.heap.size) (by first | omega | (simp; done) | (simp; omega)); go_simp; (try go_bits); (try with_reducible rfl))); try simp only [Act.put, List.setIfInBounds_toArray, List.set_cons_zero, List.set_cons_succ])
              refine wpG_nil ?_
              go_wp2_with fail
              go_meet
              exact ⟨by rw [HV.out], HK2.out⟩
          case rest =>
            obtain ⟨rfl, hk⟩ := hcut
            obtain ⟨wp, rfl⟩ : ∃ wp : World, wp = wr := ⟨_, rfl⟩
            clear HK b0 l0 f0 o0
            cases hcb : cndY F y t with
            | true =>
              obtain ⟨k1, k2⟩ := HCS.out hcb
              have HK2 := Lib.hid hk; have HS2 := Lib.hid k2
              clear hk k2 HCS HCU hcb
              go_wp2_with fail
              go_roundw
              case rel => exact ⟨t + 1, by push_cast; rfl, by omega, k1, HS2.out, HK2.out⟩
              case measure => simp [intOf]; omega
            | false =>
              have hE := HCU.out hcb
              have hr := HR.out
              rw [hE] at hr t1 t2
              have HR2 := Lib.hid hr
              have HK2 := Lib.hid hk
              clear hE hr t3 t4 HCU HCS HR hk hcb
              have hlr : l.length + (pairsZ (y : Int) (t : Int) (edE (F y) 0)).length ≤ 1600 := by
                have q := congrArg List.length HR2.out
                rw [List.length_append, List.length_append] at q
                omega
              go_wp2_with fail
              go_loopw [3, 6] (fun sv iv wr => RsI w C (F y) y t l sv iv wr) (fun _ iv _ => 40 - (intOf iv).toNat)
              case atStart => unfold RsI; exact ⟨0, l, al, ca, rfl, Nat.zero_le _, rfl, rfl, HK2.out⟩
              case round =>
                unfold RsI at hrel
                obtain ⟨x, l', al', ca', rfl, hx, rfl, heq, hk⟩ := hrel
                have hk : Kp w C l' al' ca' wr := hk
                have b0 := blkCells_has hk.2.2; have l0 := hk.2.2.lt; have f0 := hk.2.2.cells
                have o0 : Old wr w.heap.size := l0
                have hll : l'.length ≤ 1600 := by
                  have q := congrArg List.length heq
                  rw [List.length_append, List.length_append] at q
                  omega
                have HK := Lib.hid hk; have HE := Lib.hid heq
                clear HK2 hk heq
                rcases Nat.lt_or_ge x 40 with g1 | g1
                · have g2 : (x : Int) < 40 := by omega
                  have hx0 : (0 : Int) ≤ x := by omega
                  have hc := HF.out.cell y x c1 g1
                  cases hfx : F y x with
                  | false =>
                    rw [hfx] at hc
                    have hn := HE.out
                    rw [edE_no _ g1 hfx] at hn
                    have HN := Lib.hid hn
                    clear hfx hn HE
                    go_wp2_with fail
                    go_roundw
                    case rel => unfold RsI; exact ⟨x + 1, l', al', ca', by push_cast; rfl, g1, rfl, HN.out, HK.out⟩
                    case measure => simp [intOf]; omega
                  | true =>
                    rw [hfx] at hc
                    have hn := HE.out
                    rw [edE_yes _ g1 hfx] at hn
                    have HN := Lib.hid hn
                    clear hfx hn HE
                    go_wp2_with fail
                    obtain ⟨wq, rfl⟩ : ∃ wq : World, wq = wr := ⟨_, rfl⟩
                    go_loopw [7] (fun iv wr => ∃ u : Nat, iv = .int .i64 (u : Int) ∧ x + 1 ≤ u ∧ u ≤ 40 ∧ (∀ p, x + 1 ≤ p → p < u → F y p = true) ∧ Kp w C l' al' ca' wr) (fun iv _ => 40 - (intOf iv).toNat)
                    case atStart => exact ⟨x + 1, by push_cast; rfl, Nat.le_refl _, g1, fun q h1 h2 => by omega, HK.out⟩
                    case round =>
                      obtain ⟨u, rfl, hu1, hu2, hus, hk⟩ := hrel
                      clear HK b0 l0 f0 o0 hc
                      have b0 := blkCells_has hk.2.2; have l0 := hk.2.2.lt; have f0 := hk.2.2.cells
                      have o0 : Old wr w.heap.size := l0
                      have hcu : cndX (F y) u = false → toF (F y) 40 (x + 1) = u := fun hc => toF_uniq _ hu1 hu2 hus (fun h40 => by unfold cndX at hc; rw [decide_eq_true h40] at hc; exact hc)
                      have hcs : cndX (F y) u = true → u < 40 ∧ ∀ q, x + 1 ≤ q → q < u + 1 → F y q = true := fun hc => by
                        unfold cndX at hc
                        simp only [Bool.and_eq_true, decide_eq_true_eq] at hc
                        exact ⟨hc.1, fun q h1 h2 => by
                          by_cases z : q = u
                          · rw [z]; exact hc.2
                          · exact hus q h1 (by omega)⟩
                      have HCU := Lib.hid hcu; have HCS := Lib.hid hcs; have HK := Lib.hid hk
                      clear hus hk hcu hcs
                      go_upto_region 14 with fail
                      go_cut [51] (fun s wx => s = .bool (cndX (F y) u) ∧ Kp w C l' al' ca' wx)
                      case first =>
                        rcases Nat.lt_or_ge u 40 with d1 | d1
                        · have d2 : (u : Int) < 40 := by omega
                          have hu0 : (0 : Int) ≤ u := by omega
                          have hcc := HF.out.cell y u c1 d1
                          have hval : cndX (F y) u = F y u := by unfold cndX; rw [decide_eq_true d1]; rfl
                          have HV := Lib.hid hval
                          clear hval
                          go_wp2_with fail
                          go_meet
                          exact ⟨by rw [HV.out], HK.out⟩
                        · have d2 : (40 : Int) ≤ u := by omega
                          have d3 : decide ((u : Int) < 40) = false := decide_eq_false (by omega)
                          have hval : cndX (F y) u = false := by unfold cndX; rw [decide_eq_false (by omega)]; rfl
                          have HV := Lib.hid hval
                          clear hval
                          go_wp2_with fail
                          go_meet
                          exact ⟨by rw [HV.out], HK.out⟩
                      case rest =>
                        obtain ⟨rfl, hk⟩ := hcut
                        clear HK b0 l0 f0 o0
                        cases hcb : cndX (F y) u with
                        | true =>
                          obtain ⟨k1, k2⟩ := HCS.out hcb
                          have HK2 := Lib.hid hk; have HS2 := Lib.hid k2
                          clear hk k2 HCS HCU hcb
                          go_wp2_with fail
                          go_roundw
                          case rel => exact ⟨u + 1, by push_cast; rfl, by omega, k1, HS2.out, HK2.out⟩
                          case measure => simp [intOf]; omega
                        | false =>
                          have hE := HCU.out hcb
                          have hn := HN.out
                          rw [hE] at hn
                          have HN2 := Lib.hid hn
                          have HK2 := Lib.hid hk
                          have hzk := hk.1.size
                          clear hE hn HCU HCS HN hk hcb
                          go_wp2_with (at_builtin; refine wpList_append_own _ rfl _ _ 105 rfl (w.heap.size + 1) 31 i0 (.agg #[.int .i64 0, .int .i64 0, .int .i64 0, .int .i64 0]) 4 32 Try.underlying105 hi0 hz0 hz1 hz2 rfl (by decide) _ _ _ rfl (HK2.out.2.1.alloc _) ⟨wc.heap.size, 0, none⟩ 1 1 [.int .i64 x, .int .i64 y, .int .i64 u, .int .i64 t] rfl rfl ?p1 ?p2 ?p3 ?p4 ?p5 ?_)
                          case p1 => exact newi_at (by simp)
                          case p2 => exact one_of rfl
                          case p3 => unfold maxLen; omega
                          case p4 => omega
                          case p5 => simp; omega
                          intro v7 w7 hown7 hgrow7 hnil7
                          clear hnil7
                          have hB7 : Below w.heap.size w w7 := Below.grown (by have q := HK2.out.1; (repeat' (first | (with_reducible exact Below.refl _ _) | (with_reducible assumption) | (with_reducible refine below_from_drew ?_) | (with_reducible refine Below.alloc ?_ ?_ _) | (with_reducible refine Below.drew ?_) | (with_reducible refine below_drewN ?_ _) | (with_reducible refine Below.setCell ?_ ?_ _) | (with_reducible refine below_via ?_ (by assumption) ?_) | (with_reducible refine below_ov ?_ ?_ _ _) | go_size))) hgrow7 (by simp; omega) (fun bb h => by have := row_block HK2.out.2.1 bb h; omega)
                          have hX7 := has_grown hgrow7 (has_alloc HK2.out.2.2) (has_ne_row HK2.out.2.2 HK2.out.2.1 (by decide))
                          obtain ⟨al7, ca7, rfl, _, _⟩ := row_reads hown7
                          have HB7 := Lib.hid hB7; have HO7 := Lib.hid hown7; have HX7 := Lib.hid hX7
                          clear hgrow7 hB7 hown7 hX7
                          go_wp2_with fail
                          go_roundw
                          case rel => unfold RsI; exact ⟨u, l' ++ [((x : Int), (y : Int), (u : Int), (t : Int))], al7, ca7, rfl, hu2, by simp, by rw [HN2.out, List.append_assoc]; rfl, HB7.out, by rw [List.length_append, rectCells_snoc]; exact HO7.out, HX7.out⟩
                          case measure => simp [intOf]; omega
                · have g2 : (40 : Int) ≤ x := by omega
                  obtain rfl : x = 40 := by omega
                  have hn := HE.out
                  rw [edE_end (F y) (Nat.le_refl _)] at hn
                  have hfin : rectsZ (bdE F 0) = l' ++ rectsZ (bdE F t) := by rw [HR2.out, hn]; simp [pairsZ]
                  have HFI := Lib.hid hfin
                  clear hn hfin
                  go_wp2_with fail
                  go_roundw
                  case rel => unfold RsO; exact ⟨t, l', al', ca', rfl, t2, rfl, HFI.out, HK.out⟩
                  case measure => simp [intOf]; omega
    · have c2 : (40 : Int) ≤ y := by omega
      have hn := HEQ.out
      rw [bdE_end F c1] at hn
      have hfin : l = rectsZ (bdE F 0) := by rw [hn]; simp [rectsZ]
      subst hfin
      clear hn
      go_wp2_with fail
      go_ret
      exact ⟨al, ca, rfl, rectsAt7 HO.out, HBW.out⟩
end Go.Proofs.Ytkpamofamcndnaa
namespace Go.Proofs.Ytkpamofamcndnaa
open Go.RowKit Go.Shelf
set_option linter.unusedSimpArgs false
set_option linter.unusedVariables false
-- below_from_drew
attribute [local go_sem] ov_cell_same ov_cell_other ov_frozen_same ov_frozen_other ov_size ov_setCell_same ov_setCell_other cell_alloc_old frozen_alloc_old setCell_alloc_old old_alloc old_ov old_drew old_drewN old_setCell
attribute [local go_sem ↓] run_max2 run_min2 eql_rect neq_rect

set_option maxRecDepth 100000 in
set_option maxHeartbeats 1000000 in
theorem told_any (a b c d : Int) (w : World) : Calls Try.prog 12 #[(.agg #[.int .i64 (a), .int .i64 (b), .int .i64 (c), .int .i64 (d)])] w fun e w' => e = .returned (.agg #[.int .i64 (r0 a b c d), .int .i64 (r1 a b c d), .int .i64 (r2 a b c d), .int .i64 (r3 a b c d)]) ∧ Below w.heap.size w w' := by
  go_enter Try.func12, Try.ntmps12
  go_wp2_with (go_at_call 22; (with_reducible refine (new_any _ _ _ _ _).mono ?_); rintro e w1 ⟨rfl, hb⟩; refine Exists.elim (after2 (w := w) (b0 := w.heap.size) (cs0 := ?_) (T0 := ?_) (b1 := w.heap.size + 1) (cs1 := ?_) (T1 := ?_) hb ?_ ?_ ?_) ?_; rotate_left 4; (focus ((repeat' (first | (with_reducible exact Below.refl _ _) | (with_reducible assumption) | (with_reducible refine below_from_drew ?_) | (with_reducible refine Below.alloc ?_ ?_ _) | (with_reducible refine Below.drew ?_) | (with_reducible refine below_drewN ?_ _) | (with_reducible refine Below.setCell ?_ ?_ _) | (with_reducible refine below_via ?_ (by assumption) ?_) | (with_reducible refine below_ov ?_ ?_ _ _) | go_size)); done)); (focus ((repeat' (first | (with_reducible refine has_drew ?_) | (with_reducible refine has_drewN ?_) | (with_reducible refine has_new ?_; (first | (with_reducible rfl) | omega | (simp; done) | (simp; omega))) | (with_reducible refine has_ov_same ?_; (first | (with_reducible rfl) | omega | (simp; done) | (simp; omega))) | (with_reducible refine has_alloc ?_) | (with_reducible refine has_ov_other ?_ ?_; (focus (first | (with_reducible rfl) | omega | (simp; done) | (simp; omega)))) | (with_reducible assumption) | (with_reducible exact has_below hB (by assumption)))); done)); (focus ((repeat' (first | (with_reducible refine has_drew ?_) | (with_reducible refine has_drewN ?_) | (with_reducible refine has_new ?_; (first | (with_reducible rfl) | omega | (simp; done) | (simp; omega))) | (with_reducible refine has_ov_same ?_; (first | (with_reducible rfl) | omega | (simp; done) | (simp; omega))) | (with_reducible refine has_alloc ?_) | (with_reducible refine has_ov_other ?_ ?_; (focus (first | (with_reducible rfl) | omega | (simp; done) | (simp; omega)))) | (with_reducible assumption) | (with_reducible exact has_below hB (by assumption)))); done)); rintro u1 ⟨rfl, hB, hz, z0, o0, z1, o1⟩; (try simp only [World.size_alloc, World.size_setCell, World.size_drew, ov_size] at hz))
  refine bodyPost_ret (by simp [results, Try.results12, go_sem, z0, z1]; try rfl) rfl ?_
  exact ⟨rfl, by (repeat' (first | (with_reducible exact Below.refl _ _) | (with_reducible assumption) | (with_reducible refine below_from_drew ?_) | (with_reducible refine Below.alloc ?_ ?_ _) | (with_reducible refine Below.drew ?_) | (with_reducible refine below_drewN ?_ _) | (with_reducible refine Below.setCell ?_ ?_ _) | (with_reducible refine below_via ?_ (by assumption) ?_) | (with_reducible refine below_ov ?_ ?_ _ _) | go_size))⟩
def plX (x : Int) : Int := 12 + x % 14
def plW (x v : Int) : Int := min (12 + x % 14 + v % 9) 28
set_option maxRecDepth 100000 in
set_option maxHeartbeats 1000000 in
theorem plain_any (x y ww h : Int) (w : World) (hx : 0 ≤ x) (hx' : x ≤ 255) (hy : 0 ≤ y) (hy' : y ≤ 255) (hw : 0 ≤ ww) (hw' : ww ≤ 255) (hh : 0 ≤ h) (hh' : h ≤ 255) :
    Calls Try.prog 9 #[.agg #[.int .u8 x, .int .u8 y, .int .u8 ww, .int .u8 h]] w fun e w' => e = .returned (.agg #[.int .i64 (plX x), .int .i64 (plX y), .int .i64 (plW x ww), .int .i64 (plW y h)]) ∧ Below w.heap.size w w' := by
  have e1 : x.tmod 14 = x % 14 := Int.tmod_eq_emod_of_nonneg hx
  have e2 : y.tmod 14 = y % 14 := Int.tmod_eq_emod_of_nonneg hy
  have e3 : ww.tmod 9 = ww % 9 := Int.tmod_eq_emod_of_nonneg hw
  have e4 : h.tmod 9 = h % 9 := Int.tmod_eq_emod_of_nonneg hh
  unfold plX plW
  obtain ⟨x1, h1⟩ : ∃ v, x % 14 = v := ⟨_, rfl⟩
  obtain ⟨y1, h2⟩ : ∃ v, y % 14 = v := ⟨_, rfl⟩
  obtain ⟨w1, h3⟩ : ∃ v, ww % 9 = v := ⟨_, rfl⟩
  obtain ⟨g1, h4⟩ : ∃ v, h % 9 = v := ⟨_, rfl⟩
  have b1 : 0 ≤ x1 ∧ x1 < 14 := by omega
  have b2 : 0 ≤ y1 ∧ y1 < 14 := by omega
  have b3 : 0 ≤ w1 ∧ w1 < 9 := by omega
  have b4 : 0 ≤ g1 ∧ g1 < 9 := by omega
  rw [h1] at e1 ⊢; rw [h2] at e2 ⊢; rw [h3] at e3 ⊢; rw [h4] at e4 ⊢
  have c1 : wrap64 (12 + x1) = 12 + x1 := by unfold wrap64; omega
  have c2 : wrap64 (12 + y1) = 12 + y1 := by unfold wrap64; omega
  have c3 : wrap64 (12 + x1 + w1) = 12 + x1 + w1 := by unfold wrap64; omega
  have c4 : wrap64 (12 + y1 + g1) = 12 + y1 + g1 := by unfold wrap64; omega
  clear h1 h2 h3 h4
  go_enter Try.func9, Try.ntmps9
  go_wp2_with fail
  refine region_ord [(0, 0), (1, 0), (2, 0), (3, 0), (4, 0), (5, 0), (6, 0), (7, 0), (8, 0), (9, 0), (10, 0), (11, 0)] (by kernel_rfl) (by kernel_rfl) (fun _ _ d _ _ h => by cases d <;> exact h) (fun hS => ?_)
  (refine wpG_read (v := ?_) rfl (.inl ⟨by rfl, fun wx hbx => ?_⟩) ?_; rotate_left; (focus (obtain ⟨cx0, fx0, zx0⟩ := bk hbx (w.heap.size) (by first | omega | (simp; done) | (simp; omega)); have bx0 := bkB hbx (w.heap.size) (by first | omega | (simp; done) | (simp; omega)); obtain ⟨cx1, fx1, zx1⟩ := bk hbx (w.heap.size + 1) (by first | omega | (simp; done) | (simp; omega)); have bx1 := bkB hbx (w.heap.size + 1) (by first | omega | (simp; done) | (simp; omega)); go_simp; (try go_bits); (try with_reducible rfl))); try simp only [Act.put, List.setIfInBounds_toArray, List.set_cons_zero, List.set_cons_succ])
  (refine wpG_read (v := ?_) rfl (.inl ⟨by rfl, fun wx hbx => ?_⟩) ?_; rotate_left; (focus (obtain ⟨cx0, fx0, zx0⟩ := bk hbx (w.heap.size) (by first | omega | (simp; done) | (simp; omega)); have bx0 := bkB hbx (w.heap.size) (by first | omega | (simp; done) | (simp; omega)); obtain ⟨cx1, fx1, zx1⟩ := bk hbx (w.heap.size + 1) (by first | omega | (simp; done) | (simp; omega)); have bx1 := bkB hbx (w.heap.size + 1) (by first | omega | (simp; done) | (simp; omega)); go_simp; (try go_bits); (try with_reducible rfl))); try simp only [Act.put, List.setIfInBounds_toArray, List.set_cons_zero, List.set_cons_succ])
  (refine wpG_read (v := ?_) rfl (.inl ⟨by rfl, fun wx hbx => ?_⟩) ?_; rotate_left; (focus (obtain ⟨cx0, fx0, zx0⟩ := bk hbx (w.heap.size) (by first | omega | (simp; done) | (simp; omega)); have bx0 := bkB hbx (w.heap.size) (by first | omega | (simp; done) | (simp; omega)); obtain ⟨cx1, fx1, zx1⟩ := bk hbx (w.heap.size + 1) (by first | omega | (simp; done) | (simp; omega)); have bx1 := bkB hbx (w.heap.size + 1) (by first | omega | (simp; done) | (simp; omega)); go_simp; (try go_bits); (try with_reducible rfl))); try simp only [Act.put, List.setIfInBounds_toArray, List.set_cons_zero, List.set_cons_succ])
  (refine wpG_read (v := ?_) rfl (.inl ⟨by rfl, fun wx hbx => ?_⟩) ?_; rotate_left; (focus (obtain ⟨cx0, fx0, zx0⟩ := bk hbx (w.heap.size) (by first | omega | (simp; done) | (simp; omega)); have bx0 := bkB hbx (w.heap.size) (by first | omega | (simp; done) | (simp; omega)); obtain ⟨cx1, fx1, zx1⟩ := bk hbx (w.heap.size + 1) (by first | omega | (simp; done) | (simp; omega)); have bx1 := bkB hbx (w.heap.size + 1) (by first | omega | (simp; done) | (simp; omega)); go_simp; (try go_bits); (try with_reducible rfl))); try simp only [Act.put, List.setIfInBounds_toArray, List.set_cons_zero, List.set_cons_succ])
  (refine wpG_read (v := ?_) rfl (.inl ⟨by rfl, fun wx hbx => ?_⟩) ?_; rotate_left; (focus (obtain ⟨cx0, fx0, zx0⟩ := bk hbx (w.heap.size) (by first | omega | (simp; done) | (simp; omega)); have bx0 := bkB hbx (w.heap.size) (by first | omega | (simp; done) | (simp; omega)); obtain ⟨cx1, fx1, zx1⟩ := bk hbx (w.heap.size + 1) (by first | omega | (simp; done) | (simp; omega)); have bx1 := bkB hbx (w.heap.size + 1) (by first | omega | (simp; done) | (simp; omega)); go_simp; (try go_bits); (try with_reducible rfl))); try simp only [Act.put, List.setIfInBounds_toArray, List.set_cons_zero, List.set_cons_succ])
  (refine wpG_read (v := ?_) rfl (.inl ⟨by rfl, fun wx hbx => ?_⟩) ?_; rotate_left; (focus (obtain ⟨cx0, fx0, zx0⟩ := bk hbx (w.heap.size) (by first | omega | (simp; done) | (simp; omega)); have bx0 := bkB hbx (w.heap.size) (by first | omega | (simp; done) | (simp; omega)); obtain ⟨cx1, fx1, zx1⟩ := bk hbx (w.heap.size + 1) (by first | omega | (simp; done) | (simp; omega)); have bx1 := bkB hbx (w.heap.size + 1) (by first | omega | (simp; done) | (simp; omega)); go_simp; (try go_bits); (try with_reducible rfl))); try simp only [Act.put, List.setIfInBounds_toArray, List.set_cons_zero, List.set_cons_succ])
  (refine wpG_read (v := ?_) rfl (.inl ⟨by rfl, fun wx hbx => ?_⟩) ?_; rotate_left; (focus (obtain ⟨cx0, fx0, zx0⟩ := bk hbx (w.heap.size) (by first | omega | (simp; done) | (simp; omega)); have bx0 := bkB hbx (w.heap.size) (by first | omega | (simp; done) | (simp; omega)); obtain ⟨cx1, fx1, zx1⟩ := bk hbx (w.heap.size + 1) (by first | omega | (simp; done) | (simp; omega)); have bx1 := bkB hbx (w.heap.size + 1) (by first | omega | (simp; done) | (simp; omega)); go_simp; (try go_bits); (try with_reducible rfl))); try simp only [Act.put, List.setIfInBounds_toArray, List.set_cons_zero, List.set_cons_succ])
  (refine wpG_read (v := ?_) rfl (.inl ⟨by rfl, fun wx hbx => ?_⟩) ?_; rotate_left; (focus (obtain ⟨cx0, fx0, zx0⟩ := bk hbx (w.heap.size) (by first | omega | (simp; done) | (simp; omega)); have bx0 := bkB hbx (w.heap.size) (by first | omega | (simp; done) | (simp; omega)); obtain ⟨cx1, fx1, zx1⟩ := bk hbx (w.heap.size + 1) (by first | omega | (simp; done) | (simp; omega)); have bx1 := bkB hbx (w.heap.size + 1) (by first | omega | (simp; done) | (simp; omega)); go_simp; (try go_bits); (try with_reducible rfl))); try simp only [Act.put, List.setIfInBounds_toArray, List.set_cons_zero, List.set_cons_succ])
  (refine wpG_read (v := ?_) rfl (.inl ⟨by rfl, fun wx hbx => ?_⟩) ?_; rotate_left; (focus (obtain ⟨cx0, fx0, zx0⟩ := bk hbx (w.heap.size) (by first | omega | (simp; done) | (simp; omega)); have bx0 := bkB hbx (w.heap.size) (by first | omega | (simp; done) | (simp; omega)); obtain ⟨cx1, fx1, zx1⟩ := bk hbx (w.heap.size + 1) (by first | omega | (simp; done) | (simp; omega)); have bx1 := bkB hbx (w.heap.size + 1) (by first | omega | (simp; done) | (simp; omega)); go_simp; (try go_bits); (try with_reducible rfl))); try simp only [Act.put, List.setIfInBounds_toArray, List.set_cons_zero, List.set_cons_succ])
  (refine wpG_read (v := ?_) rfl (.inl ⟨by rfl, fun wx hbx => ?_⟩) ?_; rotate_left; (focus (obtain ⟨cx0, fx0, zx0⟩ := bk hbx (w.heap.size) (by first | omega | (simp; done) | (simp; omega)); have bx0 := bkB hbx (w.heap.size) (by first | omega | (simp; done) | (simp; omega)); obtain ⟨cx1, fx1, zx1⟩ := bk hbx (w.heap.size + 1) (by first | omega | (simp; done) | (simp; omega)); have bx1 := bkB hbx (w.heap.size + 1) (by first | omega | (simp; done) | (simp; omega)); go_simp; (try go_bits); (try with_reducible rfl))); try simp only [Act.put, List.setIfInBounds_toArray, List.set_cons_zero, List.set_cons_succ])
  (refine wpG_read (v := ?_) rfl (.inl ⟨by rfl, fun wx hbx => ?_⟩) ?_; rotate_left; (focus (obtain ⟨cx0, fx0, zx0⟩ := bk hbx (w.heap.size) (by first | omega | (simp; done) | (simp; omega)); have bx0 := bkB hbx (w.heap.size) (by first | omega | (simp; done) | (simp; omega)); obtain ⟨cx1, fx1, zx1⟩ := bk hbx (w.heap.size + 1) (by first | omega | (simp; done) | (simp; omega)); have bx1 := bkB hbx (w.heap.size + 1) (by first | omega | (simp; done) | (simp; omega)); go_simp; (try go_bits); (try with_reducible rfl))); try simp only [Act.put, List.setIfInBounds_toArray, List.set_cons_zero, List.set_cons_succ])
  (refine wpG_read (v := ?_) rfl (.inl ⟨by rfl, fun wx hbx => ?_⟩) ?_; rotate_left; (focus (obtain ⟨cx0, fx0, zx0⟩ := bk hbx (w.heap.size) (by first | omega | (simp; done) | (simp; omega)); have bx0 := bkB hbx (w.heap.size) (by first | omega | (simp; done) | (simp; omega)); obtain ⟨cx1, fx1, zx1⟩ := bk hbx (w.heap.size + 1) (by first | omega | (simp; done) | (simp; omega)); have bx1 := bkB hbx (w.heap.size + 1) (by first | omega | (simp; done) | (simp; omega)); go_simp; (try go_bits); (try with_reducible rfl))); try simp only [Act.put, List.setIfInBounds_toArray, List.set_cons_zero, List.set_cons_succ])
  refine wpG_nil ?_
  go_wp2_with fail
  refine bodyPost_ret (by simp [results, Try.results9, go_sem]; try rfl) rfl ?_
  exact ⟨rfl, by (repeat' (first | (with_reducible exact Below.refl _ _) | (with_reducible assumption) | (with_reducible refine below_from_drew ?_) | (with_reducible refine Below.alloc ?_ ?_ _) | (with_reducible refine Below.drew ?_) | (with_reducible refine below_drewN ?_ _) | (with_reducible refine Below.setCell ?_ ?_ _) | (with_reducible refine below_via ?_ (by assumption) ?_) | (with_reducible refine below_ov ?_ ?_ _ _) | go_size))⟩
theorem refHull_snoc (l : List RectQ) (q : RectQ) : refHull (l ++ [q]) = if l = [] then q else hmQ (refHull l) q := by
  cases l with
  | nil => rfl
  | cons p l => simp [refHull]
theorem set4 {w : World} {b : Nat} {a0 a1 a2 a3 v0 v1 v2 v3 : Value} {T : TypeId} (h : Has w b #[a0, a1, a2, a3] T) : (((w.setCell ⟨b, 0, none⟩ v0).setCell ⟨b, 1, none⟩ v1).setCell ⟨b, 2, none⟩ v2).setCell ⟨b, 3, none⟩ v3 = ov w b #[v0, v1, v2, v3] T := by
  calc _ = ((((ov w b #[a0, a1, a2, a3] T).setCell ⟨b, 0, none⟩ v0).setCell ⟨b, 1, none⟩ v1).setCell ⟨b, 2, none⟩ v2).setCell ⟨b, 3, none⟩ v3 := by rw [ov_self h]
    _ = _ := by simp [ov_setCell_same]
set_option maxRecDepth 100000 in
set_option maxHeartbeats 1000000 in
theorem hull7_any (a : Option Addr) (n c : Nat) (l : List RectQ) (w : World) (hn : l.length = n) (hm : n ≤ 1000000) (h : RectsAt w a l) (H0 H1 H2 H3 : Int) (hH : refHull l = (H0, H1, H2, H3)) :
    Calls Try.prog 56 #[.slice a n c] w fun e w' => e = .returned (.agg #[.int .i64 (H0), .int .i64 (H1), .int .i64 (H2), .int .i64 (H3)]) ∧ Below w.heap.size w w' := by
  have HN := Lib.hid hn; have HR := Lib.hid h; have HH := Lib.hid hH
  clear hn h hH
  go_enter Try.func56, Try.ntmps56
  go_wp2_with fail
  go_loopw [4] (fun iv wr => ∃ (i : Nat) (q : RectQ), iv = .int .i64 (i : Int) ∧ i ≤ n ∧ refHull (l.take i) = q ∧ Below w.heap.size w wr ∧ Has wr w.heap.size #[.int .i64 0, .int .i64 0, .int .i64 0, .int .i64 0] 31 ∧ Has wr (w.heap.size + 1) #[.int .i64 q.1, .int .i64 q.2.1, .int .i64 q.2.2.1, .int .i64 q.2.2.2] 31) (fun iv _ => n - (intOf iv).toNat)
  case atStart =>
    refine ⟨0, (0, 0, 0, 0), rfl, Nat.zero_le _, rfl, by (repeat' (first | (with_reducible exact Below.refl _ _) | (with_reducible assumption) | (with_reducible refine below_from_drew ?_) | (with_reducible refine Below.alloc ?_ ?_ _) | (with_reducible refine Below.drew ?_) | (with_reducible refine below_drewN ?_ _) | (with_reducible refine Below.setCell ?_ ?_ _) | (with_reducible refine below_via ?_ (by assumption) ?_) | (with_reducible refine below_ov ?_ ?_ _ _) | go_size)), ?_, ?_⟩
    · (repeat' (first | (with_reducible refine has_drew ?_) | (with_reducible refine has_drewN ?_) | (with_reducible refine has_new ?_; (first | (with_reducible rfl) | omega | (simp; done) | (simp; omega))) | (with_reducible refine has_ov_same ?_; (first | (with_reducible rfl) | omega | (simp; done) | (simp; omega))) | (with_reducible refine has_alloc ?_) | (with_reducible refine has_ov_other ?_ ?_; (focus (first | (with_reducible rfl) | omega | (simp; done) | (simp; omega)))) | (with_reducible assumption) | (with_reducible exact has_below hB (by assumption))))
    · (repeat' (first | (with_reducible refine has_drew ?_) | (with_reducible refine has_drewN ?_) | (with_reducible refine has_new ?_; (first | (with_reducible rfl) | omega | (simp; done) | (simp; omega))) | (with_reducible refine has_ov_same ?_; (first | (with_reducible rfl) | omega | (simp; done) | (simp; omega))) | (with_reducible refine has_alloc ?_) | (with_reducible refine has_ov_other ?_ ?_; (focus (first | (with_reducible rfl) | omega | (simp; done) | (simp; omega)))) | (with_reducible assumption) | (with_reducible exact has_below hB (by assumption))))
  case round =>
    obtain ⟨i, q, rfl, hi, hq, hbw, h0, h1⟩ := hrel
    have hzw := hbw.size
    have f1 := h1.cells; have l1 := h1.lt; have o1 : Old wr (w.heap.size + 1) := h1.lt; have g1 := h1.frozen
    have f0 := h0.cells; have l0 := h0.lt; have o0 : Old wr w.heap.size := h0.lt; have g0 := h0.frozen
    have hi0 : (0 : Int) ≤ i := by omega
    rcases Nat.lt_or_ge i n with c1 | c1
    · have c2 : (i : Int) < n := by omega
      obtain ⟨b, off, rfl, hb, hc⟩ := HR.out (by rw [HN.out]; omega)
      obtain ⟨k0, k1, k2, k3⟩ := hc i (by rw [HN.out]; exact c1)
      have k0 := (hbw.cell (p := ⟨b, off + i * 4, none⟩) hb).trans k0; have k1 := (hbw.cell (p := ⟨b, off + i * 4 + 1, none⟩) hb).trans k1; have k2 := (hbw.cell (p := ⟨b, off + i * 4 + 2, none⟩) hb).trans k2; have k3 := (hbw.cell (p := ⟨b, off + i * 4 + 3, none⟩) hb).trans k3
      have hts := take_snocQ (l := l) (i := i) (by rw [HN.out]; exact c1)
      have hsn := refHull_snoc (l.take i) (l.getD i q0Z)
      rw [← hts, hq] at hsn
      have htl : (l.take i).length = i := by rw [List.length_take, HN.out]; omega
      obtain ⟨p0, p1, p2, p3, hp⟩ : ∃ p0 p1 p2 p3, l.getD i q0Z = (p0, p1, p2, p3) := ⟨_, _, _, _, rfl⟩
      rw [hp] at k0 k1 k2 k3 hsn
      obtain ⟨u0, u1', u2, u3⟩ := q
      simp only at k0 k1 k2 k3 f1 h1
      have HB := Lib.hid hbw; have HH0 := Lib.hid h0; have HH1 := Lib.hid h1; have HS := Lib.hid hsn
      have hobn : ¬ b = w.heap.size + 1 := by omega
      have hbl : b < wr.heap.size := Nat.lt_of_lt_of_le hb hzw
      have hob : Old wr b := hbl
      clear hbw h0 h1 hsn hc hts hq hp
      by_cases hz : i = 0
      · subst hz
        have he : l.take 0 = [] := rfl
        have hs := HS.out
        rw [if_pos he] at hs
        have HS2 := Lib.hid hs
        clear hs HS he htl
        simp only [Nat.zero_mul, Nat.add_zero] at k0 k1 k2 k3
        go_wp2_with fail
        rw [set4 HH1.out]
        exact ⟨⟨1, (p0, p1, p2, p3), by rfl, c1, HS2.out, below_ov HB.out (by omega) _ _, has_ov_other (by omega) HH0.out, has_ov_same l1⟩, by simp only [intOf]; omega⟩
      · have he : ¬ l.take i = [] := fun e => by rw [e] at htl; simp at htl; omega
        have hs := HS.out
        rw [if_neg he] at hs
        have HS2 := Lib.hid hs
        have hz' : ((i : Int) == 0) = false := by simp; omega
        clear hs HS he htl
        go_wp2_with fail
        refine region_ord [(0, 0), (1, 0), (2, 0), (3, 0), (4, 0), (5, 0), (6, 0), (7, 0), (8, 0), (9, 0), (10, 0), (11, 0), (12, 0), (13, 0), (14, 0), (15, 0), (16, 0), (17, 0), (18, 0), (19, 0), (20, 0), (21, 0), (22, 0), (23, 0), (24, 0), (25, 0), (26, 0), (27, 0), (28, 0), (29, 0), (30, 0), (31, 0), (32, 0), (33, 2)] (by kernel_rfl) (by kernel_rfl) (fun _ _ d _ _ h => by cases d <;> exact h) (fun hS => ?_)
        (refine wpG_read (v := ?_) rfl (.inl ⟨by rfl, fun wx hbx => ?_⟩) ?_; rotate_left; (focus (obtain ⟨cx0, fx0, zx0⟩ := bk hbx (w.heap.size + 1) (by first | omega | (simp; done) | (simp; omega)); have bx0 := bkB hbx (w.heap.size + 1) (by first | omega | (simp; done) | (simp; omega)); obtain ⟨cx1, fx1, zx1⟩ := bk hbx (b) (by first | omega | (simp; done) | (simp; omega)); have bx1 := bkB hbx (b) (by first | omega | (simp; done) | (simp; omega)); go_simp; (try go_bits); (try with_reducible rfl))); try simp only [Act.put, List.setIfInBounds_toArray, List.set_cons_zero, List.set_cons_succ])
        (refine wpG_read (v := ?_) rfl (.inl ⟨by rfl, fun wx hbx => ?_⟩) ?_; rotate_left; (focus (obtain ⟨cx0, fx0, zx0⟩ := bk hbx (w.heap.size + 1) (by first | omega | (simp; done) | (simp; omega)); have bx0 := bkB hbx (w.heap.size + 1) (by first | omega | (simp; done) | (simp; omega)); obtain ⟨cx1, fx1, zx1⟩ := bk hbx (b) (by first | omega | (simp; done) | (simp; omega)); have bx1 := bkB hbx (b) (by first | omega | (simp; done) | (simp; omega)); go_simp; (try go_bits); (try with_reducible rfl))); try simp only [Act.put, List.setIfInBounds_toArray, List.set_cons_zero, List.set_cons_succ])
        (refine wpG_read (v := ?_) rfl (.inl ⟨by rfl, fun wx hbx => ?_⟩) ?_; rotate_left; (focus (obtain ⟨cx0, fx0, zx0⟩ := bk hbx (w.heap.size + 1) (by first | omega | (simp; done) | (simp; omega)); have bx0 := bkB hbx (w.heap.size + 1) (by first | omega | (simp; done) | (simp; omega)); obtain ⟨cx1, fx1, zx1⟩ := bk hbx (b) (by first | omega | (simp; done) | (simp; omega)); have bx1 := bkB hbx (b) (by first | omega | (simp; done) | (simp; omega)); go_simp; (try go_bits); (try with_reducible rfl))); try simp only [Act.put, List.setIfInBounds_toArray, List.set_cons_zero, List.set_cons_succ])
        (refine wpG_read (v := ?_) rfl (.inl ⟨by rfl, fun wx hbx => ?_⟩) ?_; rotate_left; (focus (obtain ⟨cx0, fx0, zx0⟩ := bk hbx (w.heap.size + 1) (by first | omega | (simp; done) | (simp; omega)); have bx0 := bkB hbx (w.heap.size + 1) (by first | omega | (simp; done) | (simp; omega)); obtain ⟨cx1, fx1, zx1⟩ := bk hbx (b) (by first | omega | (simp; done) | (simp; omega)); have bx1 := bkB hbx (b) (by first | omega | (simp; done) | (simp; omega)); go_simp; (try go_bits); (try with_reducible rfl))); try simp only [Act.put, List.setIfInBounds_toArray, List.set_cons_zero, List.set_cons_succ])
        (refine wpG_read (v := ?_) rfl (.inl ⟨by rfl, fun wx hbx => ?_⟩) ?_; rotate_left; (focus (obtain ⟨cx0, fx0, zx0⟩ := bk hbx (w.heap.size + 1) (by first | omega | (simp; done) | (simp; omega)); have bx0 := bkB hbx (w.heap.size + 1) (by first | omega | (simp; done) | (simp; omega)); obtain ⟨cx1, fx1, zx1⟩ := bk hbx (b) (by first | omega | (simp; done) | (simp; omega)); have bx1 := bkB hbx (b) (by first | omega | (simp; done) | (simp; omega)); go_simp; (try go_bits); (try with_reducible rfl))); try simp only [Act.put, List.setIfInBounds_toArray, List.set_cons_zero, List.set_cons_succ])
        (refine wpG_read (v := ?_) rfl (.inl ⟨by rfl, fun wx hbx => ?_⟩) ?_; rotate_left; (focus (obtain ⟨cx0, fx0, zx0⟩ := bk hbx (w.heap.size + 1) (by first | omega | (simp; done) | (simp; omega)); have bx0 := bkB hbx (w.heap.size + 1) (by first | omega | (simp; done) | (simp; omega)); obtain ⟨cx1, fx1, zx1⟩ := bk hbx (b) (by first | omega | (simp; done) | (simp; omega)); have bx1 := bkB hbx (b) (by first | omega | (simp; done) | (simp; omega)); go_simp; (try go_bits); (try with_reducible rfl))); try simp only [Act.put, List.setIfInBounds_toArray, List.set_cons_zero, List.set_cons_succ])
        (refine wpG_read (v := ?_) rfl (.inl ⟨by rfl, fun wx hbx => ?_⟩) ?_; rotate_left; (focus (obtain ⟨cx0, fx0, zx0⟩ := bk hbx (w.heap.size + 1) (by first | omega | (simp; done) | (simp; omega)); have bx0 := bkB hbx (w.heap.size + 1) (by first | omega | (simp; done) | (simp; omega)); obtain ⟨cx1, fx1, zx1⟩ := bk hbx (b) (by first | omega | (simp; done) | (simp; omega)); have bx1 := bkB hbx (b) (by first | omega | (simp; done) | (simp; omega)); go_simp; (try go_bits); (try with_reducible rfl))); try simp only [Act.put, List.setIfInBounds_toArray, List.set_cons_zero, List.set_cons_succ])
        (refine wpG_read (v := ?_) rfl (.inl ⟨by rfl, fun wx hbx => ?_⟩) ?_; rotate_left; (focus (obtain ⟨cx0, fx0, zx0⟩ := bk hbx (w.heap.size + 1) (by first | omega | (simp; done) | (simp; omega)); have bx0 := bkB hbx (w.heap.size + 1) (by first | omega | (simp; done) | (simp; omega)); obtain ⟨cx1, fx1, zx1⟩ := bk hbx (b) (by first | omega | (simp; done) | (simp; omega)); have bx1 := bkB hbx (b) (by first | omega | (simp; done) | (simp; omega)); go_simp; (try go_bits); (try with_reducible rfl))); try simp only [Act.put, List.setIfInBounds_toArray, List.set_cons_zero, List.set_cons_succ])
        (refine wpG_read (v := ?_) rfl (.inl ⟨by rfl, fun wx hbx => ?_⟩) ?_; rotate_left; (focus (obtain ⟨cx0, fx0, zx0⟩ := bk hbx (w.heap.size + 1) (by first | omega | (simp; done) | (simp; omega)); have bx0 := bkB hbx (w.heap.size + 1) (by first | omega | (simp; done) | (simp; omega)); obtain ⟨cx1, fx1, zx1⟩ := bk hbx (b) (by first | omega | (simp; done) | (simp; omega)); have bx1 := bkB hbx (b) (by first | omega | (simp; done) | (simp; omega)); go_simp; (try go_bits); (try with_reducible rfl))); try simp only [Act.put, List.setIfInBounds_toArray, List.set_cons_zero, List.set_cons_succ])
        (refine wpG_read (v := ?_) rfl (.inl ⟨by rfl, fun wx hbx => ?_⟩) ?_; rotate_left; (focus (obtain ⟨cx0, fx0, zx0⟩ := bk hbx (w.heap.size + 1) (by first | omega | (simp; done) | (simp; omega)); have bx0 := bkB hbx (w.heap.size + 1) (by first | omega | (simp; done) | (simp; omega)); obtain ⟨cx1, fx1, zx1⟩ := bk hbx (b) (by first | omega | (simp; done) | (simp; omega)); have bx1 := bkB hbx (b) (by first | omega | (simp; done) | (simp; omega)); go_simp; (try go_bits); (try with_reducible rfl))); try simp only [Act.put, List.setIfInBounds_toArray, List.set_cons_zero, List.set_cons_succ])
        (refine wpG_read (v := ?_) rfl (.inl ⟨by rfl, fun wx hbx => ?_⟩) ?_; rotate_left; (focus (obtain ⟨cx0, fx0, zx0⟩ := bk hbx (w.heap.size + 1) (by first | omega | (simp; done) | (simp; omega)); have bx0 := bkB hbx (w.heap.size + 1) (by first | omega | (simp; done) | (simp; omega)); obtain ⟨cx1, fx1, zx1⟩ := bk hbx (b) (by first | omega | (simp; done) | (simp; omega)); have bx1 := bkB hbx (b) (by first | omega | (simp; done) | (simp; omega)); go_simp; (try go_bits); (try with_reducible rfl))); try simp only [Act.put, List.setIfInBounds_toArray, List.set_cons_zero, List.set_cons_succ])
        (refine wpG_read (v := ?_) rfl (.inl ⟨by rfl, fun wx hbx => ?_⟩) ?_; rotate_left; (focus (obtain ⟨cx0, fx0, zx0⟩ := bk hbx (w.heap.size + 1) (by first | omega | (simp; done) | (simp; omega)); have bx0 := bkB hbx (w.heap.size + 1) (by first | omega | (simp; done) | (simp; omega)); obtain ⟨cx1, fx1, zx1⟩ := bk hbx (b) (by first | omega | (simp; done) | (simp; omega)); have bx1 := bkB hbx (b) (by first | omega | (simp; done) | (simp; omega)); go_simp; (try go_bits); (try with_reducible rfl))); try simp only [Act.put, List.setIfInBounds_toArray, List.set_cons_zero, List.set_cons_succ])
        (refine wpG_read (v := ?_) rfl (.inl ⟨by rfl, fun wx hbx => ?_⟩) ?_; rotate_left; (focus (obtain ⟨cx0, fx0, zx0⟩ := bk hbx (w.heap.size + 1) (by first | omega | (simp; done) | (simp; omega)); have bx0 := bkB hbx (w.heap.size + 1) (by first | omega | (simp; done) | (simp; omega)); obtain ⟨cx1, fx1, zx1⟩ := bk hbx (b) (by first | omega | (simp; done) | (simp; omega)); have bx1 := bkB hbx (b) (by first | omega | (simp; done) | (simp; omega)); go_simp; (try go_bits); (try with_reducible rfl))); try simp only [Act.put, List.setIfInBounds_toArray, List.set_cons_zero, List.set_cons_succ])
        (refine wpG_read (v := ?_) rfl (.inl ⟨by rfl, fun wx hbx => ?_⟩) ?_; rotate_left; (focus (obtain ⟨cx0, fx0, zx0⟩ := bk hbx (w.heap.size + 1) (by first | omega | (simp; done) | (simp; omega)); have bx0 := bkB hbx (w.heap.size + 1) (by first | omega | (simp; done) | (simp; omega)); obtain ⟨cx1, fx1, zx1⟩ := bk hbx (b) (by first | omega | (simp; done) | (simp; omega)); have bx1 := bkB hbx (b) (by first | omega | (simp; done) | (simp; omega)); go_simp; (try go_bits); (try with_reducible rfl))); try simp only [Act.put, List.setIfInBounds_toArray, List.set_cons_zero, List.set_cons_succ])
        (refine wpG_read (v := ?_) rfl (.inl ⟨by rfl, fun wx hbx => ?_⟩) ?_; rotate_left; (focus (obtain ⟨cx0, fx0, zx0⟩ := bk hbx (w.heap.size + 1) (by first | omega | (simp; done) | (simp; omega)); have bx0 := bkB hbx (w.heap.size + 1) (by first | omega | (simp; done) | (simp; omega)); obtain ⟨cx1, fx1, zx1⟩ := bk hbx (b) (by first | omega | (simp; done) | (simp; omega)); have bx1 := bkB hbx (b) (by first | omega | (simp; done) | (simp; omega)); go_simp; (try go_bits); (try with_reducible rfl))); try simp only [Act.put, List.setIfInBounds_toArray, List.set_cons_zero, List.set_cons_succ])
        (refine wpG_read (v := ?_) rfl (.inl ⟨by rfl, fun wx hbx => ?_⟩) ?_; rotate_left; (focus (obtain ⟨cx0, fx0, zx0⟩ := bk hbx (w.heap.size + 1) (by first | omega | (simp; done) | (simp; omega)); have bx0 := bkB hbx (w.heap.size + 1) (by first | omega | (simp; done) | (simp; omega)); obtain ⟨cx1, fx1, zx1⟩ := bk hbx (b) (by first | omega | (simp; done) | (simp; omega)); have bx1 := bkB hbx (b) (by first | omega | (simp; done) | (simp; omega)); go_simp; (try go_bits); (try with_reducible rfl))); try simp only [Act.put, List.setIfInBounds_toArray, List.set_cons_zero, List.set_cons_succ])
        (refine wpG_read (v := ?_) rfl (.inl ⟨by rfl, fun wx hbx => ?_⟩) ?_; rotate_left; (focus (obtain ⟨cx0, fx0, zx0⟩ := bk hbx (w.heap.size + 1) (by first | omega | (simp; done) | (simp; omega)); have bx0 := bkB hbx (w.heap.size + 1) (by first | omega | (simp; done) | (simp; omega)); obtain ⟨cx1, fx1, zx1⟩ := bk hbx (b) (by first | omega | (simp; done) | (simp; omega)); have bx1 := bkB hbx (b) (by first | omega | (simp; done) | (simp; omega)); go_simp; (try go_bits); (try with_reducible rfl))); try simp only [Act.put, List.setIfInBounds_toArray, List.set_cons_zero, List.set_cons_succ])
        (refine wpG_read (v := ?_) rfl (.inl ⟨by rfl, fun wx hbx => ?_⟩) ?_; rotate_left; (focus (obtain ⟨cx0, fx0, zx0⟩ := bk hbx (w.heap.size + 1) (by first | omega | (simp; done) | (simp; omega)); have bx0 := bkB hbx (w.heap.size + 1) (by first | omega | (simp; done) | (simp; omega)); obtain ⟨cx1, fx1, zx1⟩ := bk hbx (b) (by first | omega | (simp; done) | (simp; omega)); have bx1 := bkB hbx (b) (by first | omega | (simp; done) | (simp; omega)); go_simp; (try go_bits); (try with_reducible rfl))); try simp only [Act.put, List.setIfInBounds_toArray, List.set_cons_zero, List.set_cons_succ])
        (refine wpG_read (v := ?_) rfl (.inl ⟨by rfl, fun wx hbx => ?_⟩) ?_; rotate_left; (focus (obtain ⟨cx0, fx0, zx0⟩ := bk hbx (w.heap.size + 1) (by first | omega | (simp; done) | (simp; omega)); have bx0 := bkB hbx (w.heap.size + 1) (by first | omega | (simp; done) | (simp; omega)); obtain ⟨cx1, fx1, zx1⟩ := bk hbx (b) (by first | omega | (simp; done) | (simp; omega)); have bx1 := bkB hbx (b) (by first | omega | (simp; done) | (simp; omega)); go_simp; (try go_bits); (try with_reducible rfl))); try simp only [Act.put, List.setIfInBounds_toArray, List.set_cons_zero, List.set_cons_succ])
        (refine wpG_read (v := ?_) rfl (.inl ⟨by rfl, fun wx hbx => ?_⟩) ?_; rotate_left; (focus (obtain ⟨cx0, fx0, zx0⟩ := bk hbx (w.heap.size + 1) (by first | omega | (simp; done) | (simp; omega)); have bx0 := bkB hbx (w.heap.size + 1) (by first | omega | (simp; done) | (simp; omega)); obtain ⟨cx1, fx1, zx1⟩ := bk hbx (b) (by first | omega | (simp; done) | (simp; omega)); have bx1 := bkB hbx (b) (by first | omega | (simp; done) | (simp; omega)); go_simp; (try go_bits); (try with_reducible rfl))); try simp only [Act.put, List.setIfInBounds_toArray, List.set_cons_zero, List.set_cons_succ])
        (refine wpG_read (v := ?_) rfl (.inl ⟨by rfl, fun wx hbx => ?_⟩) ?_; rotate_left; (focus (obtain ⟨cx0, fx0, zx0⟩ := bk hbx (w.heap.size + 1) (by first | omega | (simp; done) | (simp; omega)); have bx0 := bkB hbx (w.heap.size + 1) (by first | omega | (simp; done) | (simp; omega)); obtain ⟨cx1, fx1, zx1⟩ := bk hbx (b) (by first | omega | (simp; done) | (simp; omega)); have bx1 := bkB hbx (b) (by first | omega | (simp; done) | (simp; omega)); go_simp; (try go_bits); (try with_reducible rfl))); try simp only [Act.put, List.setIfInBounds_toArray, List.set_cons_zero, List.set_cons_succ])
        (refine wpG_read (v := ?_) rfl (.inl ⟨by rfl, fun wx hbx => ?_⟩) ?_; rotate_left; (focus (obtain ⟨cx0, fx0, zx0⟩ := bk hbx (w.heap.size + 1) (by first | omega | (simp; done) | (simp; omega)); have bx0 := bkB hbx (w.heap.size + 1) (by first | omega | (simp; done) | (simp; omega)); obtain ⟨cx1, fx1, zx1⟩ := bk hbx (b) (by first | omega | (simp; done) | (simp; omega)); have bx1 := bkB hbx (b) (by first | omega | (simp; done) | (simp; omega)); go_simp; (try go_bits); (try with_reducible rfl))); try simp only [Act.put, List.setIfInBounds_toArray, List.set_cons_zero, List.set_cons_succ])
        (refine wpG_read (v := ?_) rfl (.inl ⟨by rfl, fun wx hbx => ?_⟩) ?_; rotate_left; (focus (obtain ⟨cx0, fx0, zx0⟩ := bk hbx (w.heap.size + 1) (by first | omega | (simp; done) | (simp; omega)); have bx0 := bkB hbx (w.heap.size + 1) (by first | omega | (simp; done) | (simp; omega)); obtain ⟨cx1, fx1, zx1⟩ := bk hbx (b) (by first | omega | (simp; done) | (simp; omega)); have bx1 := bkB hbx (b) (by first | omega | (simp; done) | (simp; omega)); go_simp; (try go_bits); (try with_reducible rfl))); try simp only [Act.put, List.setIfInBounds_toArray, List.set_cons_zero, List.set_cons_succ])
        (refine wpG_read (v := ?_) rfl (.inl ⟨by rfl, fun wx hbx => ?_⟩) ?_; rotate_left; (focus (obtain ⟨cx0, fx0, zx0⟩ := bk hbx (w.heap.size + 1) (by first | omega | (simp; done) | (simp; omega)); have bx0 := bkB hbx (w.heap.size + 1) (by first | omega | (simp; done) | (simp; omega)); obtain ⟨cx1, fx1, zx1⟩ := bk hbx (b) (by first | omega | (simp; done) | (simp; omega)); have bx1 := bkB hbx (b) (by first | omega | (simp; done) | (simp; omega)); go_simp; (try go_bits); (try with_reducible rfl))); try simp only [Act.put, List.setIfInBounds_toArray, List.set_cons_zero, List.set_cons_succ])
        (refine wpG_read (v := ?_) rfl (.inl ⟨by rfl, fun wx hbx => ?_⟩) ?_; rotate_left; (focus (obtain ⟨cx0, fx0, zx0⟩ := bk hbx (w.heap.size + 1) (by first | omega | (simp; done) | (simp; omega)); have bx0 := bkB hbx (w.heap.size + 1) (by first | omega | (simp; done) | (simp; omega)); obtain ⟨cx1, fx1, zx1⟩ := bk hbx (b) (by first | omega | (simp; done) | (simp; omega)); have bx1 := bkB hbx (b) (by first | omega | (simp; done) | (simp; omega)); go_simp; (try go_bits); (try with_reducible rfl))); try simp only [Act.put, List.setIfInBounds_toArray, List.set_cons_zero, List.set_cons_succ])
        (refine wpG_read (v := ?_) rfl (.inl ⟨by rfl, fun wx hbx => ?_⟩) ?_; rotate_left; (focus (obtain ⟨cx0, fx0, zx0⟩ := bk hbx (w.heap.size + 1) (by first | omega | (simp; done) | (simp; omega)); have bx0 := bkB hbx (w.heap.size + 1) (by first | omega | (simp; done) | (simp; omega)); obtain ⟨cx1, fx1, zx1⟩ := bk hbx (b) (by first | omega | (simp; done) | (simp; omega)); have bx1 := bkB hbx (b) (by first | omega | (simp; done) | (simp; omega)); go_simp; (try go_bits); (try with_reducible rfl))); try simp only [Act.put, List.setIfInBounds_toArray, List.set_cons_zero, List.set_cons_succ])
        (refine wpG_read (v := ?_) rfl (.inl ⟨by rfl, fun wx hbx => ?_⟩) ?_; rotate_left; (focus (obtain ⟨cx0, fx0, zx0⟩ := bk hbx (w.heap.size + 1) (by first | omega | (simp; done) | (simp; omega)); have bx0 := bkB hbx (w.heap.size + 1) (by first | omega | (simp; done) | (simp; omega)); obtain ⟨cx1, fx1, zx1⟩ := bk hbx (b) (by first | omega | (simp; done) | (simp; omega)); have bx1 := bkB hbx (b) (by first | omega | (simp; done) | (simp; omega)); go_simp; (try go_bits); (try with_reducible rfl))); try simp only [Act.put, List.setIfInBounds_toArray, List.set_cons_zero, List.set_cons_succ])
        (refine wpG_read (v := ?_) rfl (.inl ⟨by rfl, fun wx hbx => ?_⟩) ?_; rotate_left; (focus (obtain ⟨cx0, fx0, zx0⟩ := bk hbx (w.heap.size + 1) (by first | omega | (simp; done) | (simp; omega)); have bx0 := bkB hbx (w.heap.size + 1) (by first | omega | (simp; done) | (simp; omega)); obtain ⟨cx1, fx1, zx1⟩ := bk hbx (b) (by first | omega | (simp; done) | (simp; omega)); have bx1 := bkB hbx (b) (by first | omega | (simp; done) | (simp; omega)); go_simp; (try go_bits); (try with_reducible rfl))); try simp only [Act.put, List.setIfInBounds_toArray, List.set_cons_zero, List.set_cons_succ])
        (refine wpG_read (v := ?_) rfl (.inl ⟨by rfl, fun wx hbx => ?_⟩) ?_; rotate_left; (focus (obtain ⟨cx0, fx0, zx0⟩ := bk hbx (w.heap.size + 1) (by first | omega | (simp; done) | (simp; omega)); have bx0 := bkB hbx (w.heap.size + 1) (by first | omega | (simp; done) | (simp; omega)); obtain ⟨cx1, fx1, zx1⟩ := bk hbx (b) (by first | omega | (simp; done) | (simp; omega)); have bx1 := bkB hbx (b) (by first | omega | (simp; done) | (simp; omega)); go_simp; (try go_bits); (try with_reducible rfl))); try simp only [Act.put, List.setIfInBounds_toArray, List.set_cons_zero, List.set_cons_succ])
        (refine wpG_read (v := ?_) rfl (.inl ⟨by rfl, fun wx hbx => ?_⟩) ?_; rotate_left; (focus (obtain ⟨cx0, fx0, zx0⟩ := bk hbx (w.heap.size + 1) (by first | omega | (simp; done) | (simp; omega)); have bx0 := bkB hbx (w.heap.size + 1) (by first | omega | (simp; done) | (simp; omega)); obtain ⟨cx1, fx1, zx1⟩ := bk hbx (b) (by first | omega | (simp; done) | (simp; omega)); have bx1 := bkB hbx (b) (by first | omega | (simp; done) | (simp; omega)); go_simp; (try go_bits); (try with_reducible rfl))); try simp only [Act.put, List.setIfInBounds_toArray, List.set_cons_zero, List.set_cons_succ])
        (refine wpG_read (v := ?_) rfl (.inl ⟨by rfl, fun wx hbx => ?_⟩) ?_; rotate_left; (focus (obtain ⟨cx0, fx0, zx0⟩ := bk hbx (w.heap.size + 1) (by first | omega | (simp; done) | (simp; omega)); have bx0 := bkB hbx (w.heap.size + 1) (by first | omega | (simp; done) | (simp; omega)); obtain ⟨cx1, fx1, zx1⟩ := bk hbx (b) (by first | omega | (simp; done) | (simp; omega)); have bx1 := bkB hbx (b) (by first | omega | (simp; done) | (simp; omega)); go_simp; (try go_bits); (try with_reducible rfl))); try simp only [Act.put, List.setIfInBounds_toArray, List.set_cons_zero, List.set_cons_succ])
        (refine wpG_read (v := ?_) rfl (.inl ⟨by rfl, fun wx hbx => ?_⟩) ?_; rotate_left; (focus (obtain ⟨cx0, fx0, zx0⟩ := bk hbx (w.heap.size + 1) (by first | omega | (simp; done) | (simp; omega)); have bx0 := bkB hbx (w.heap.size + 1) (by first | omega | (simp; done) | (simp; omega)); obtain ⟨cx1, fx1, zx1⟩ := bk hbx (b) (by first | omega | (simp; done) | (simp; omega)); have bx1 := bkB hbx (b) (by first | omega | (simp; done) | (simp; omega)); go_simp; (try go_bits); (try with_reducible rfl))); try simp only [Act.put, List.setIfInBounds_toArray, List.set_cons_zero, List.set_cons_succ])
        (refine wpG_read (v := ?_) rfl (.inl ⟨by rfl, fun wx hbx => ?_⟩) ?_; rotate_left; (focus (obtain ⟨cx0, fx0, zx0⟩ := bk hbx (w.heap.size + 1) (by first | omega | (simp; done) | (simp; omega)); have bx0 := bkB hbx (w.heap.size + 1) (by first | omega | (simp; done) | (simp; omega)); obtain ⟨cx1, fx1, zx1⟩ := bk hbx (b) (by first | omega | (simp; done) | (simp; omega)); have bx1 := bkB hbx (b) (by first | omega | (simp; done) | (simp; omega)); go_simp; (try go_bits); (try with_reducible rfl))); try simp only [Act.put, List.setIfInBounds_toArray, List.set_cons_zero, List.set_cons_succ])
        (refine wpG_late rfl (fun K hK => ?_); go_simp; (try simp only []); (try simp only []); refine hK _ _ ?_; clear hK K; try simp only [Act.put, List.setIfInBounds_toArray, List.set_cons_zero, List.set_cons_succ])
        refine wpG_nil ?_
        go_wp2_with fail
        rw [set4 HH1.out]
        exact ⟨⟨i + 1, (min u0 p0, min u1' p1, max u2 p2, max u3 p3), by push_cast; rfl, c1, HS2.out, Below.drew (below_ov HB.out (by omega) _ _), has_drew (has_ov_other (by omega) HH0.out), has_drew (has_ov_same l1)⟩, by simp only [intOf]; omega⟩
    · obtain rfl : i = n := by omega
      have hq' : q = (H0, H1, H2, H3) := by rw [← hq, List.take_of_length_le (by rw [HN.out]; exact Nat.le_refl _)]; exact HH.out
      subst hq'
      simp only at f1 h1
      have HB := Lib.hid hbw
      have HH0 := Lib.hid h0
      clear hbw h0 h1 hq
      go_wp2_with fail
      rw [set4 HH0.out]
      have z0 := l0
      refine bodyPost_ret (by simp [results, Try.results56, go_sem, z0]; try rfl) rfl ?_
      exact ⟨rfl, below_ov HB.out (Nat.le_refl _) _ _⟩
end Go.Proofs.Ytkpamofamcndnaa
namespace Go.Proofs.Ytkpamofamcndnaa
open Go.RowKit Go.Shelf
set_option linter.unusedSimpArgs false
set_option linter.unusedVariables false
-- below_from_drew
-- bigread
attribute [local go_sem] ov_cell_same ov_cell_other ov_frozen_same ov_frozen_other ov_size ov_setCell_same ov_setCell_other cell_alloc_old frozen_alloc_old setCell_alloc_old old_alloc old_ov old_drew old_drewN old_setCell
attribute [local go_sem ↓] run_max2 run_min2 eql_rect neq_rect
attribute [local go_sem ↓] fld_xl fld_xs
attribute [local go_sem] fld_l fld_s blkCells_ov_same blkCells_ov_other blkCells_new blkCells_old blkCells_drew blkCells_drewN

set_option maxRecDepth 100000 in
set_option maxHeartbeats 8000000 in
theorem same7_any (F : Nat → Nat → Bool) (C : Array Value) (a : Option Addr) (c : Nat) (w : World) (h : BandsAt w a (bdE F 0)) (hF : FldC F C) :
    Calls Try.prog 18 #[.agg #[.slice a (bdE F 0).length c], .agg C] w fun e w' => e = .returned (.bool true) ∧ Below w.heap.size w w' := by
  have hok := (bdE_ok F).1
  have hlen := bdE_len F
  have hcnt := bdE_count F
  have hnf := hok.nf
  have hhr := refHull_eq hnf
  have hhn := hok.hull.nf
  have CR := Lib.hid (fun u (i : BandsAt u a (bdE F 0)) => rects_any a _ c (bdE F 0) u hok rfl i _ rfl (by omega))
  have CF := Lib.hid (fun u => rects7_own F C u hF)
  have CA := Lib.hid (fun u (i : BandsAt u a (bdE F 0)) => show Calls Try.prog 25 #[.agg #[.slice a (bdE F 0).length c]] u fun e w' => e = .returned (.int .i64 (cntK F 1600)) ∧ Below u.heap.size u w' from (rarea_any a _ c (bdE F 0) u hok rfl i (by omega)).mono fun e w' ⟨he, hb⟩ => ⟨by rw [he, hcnt], hb⟩)
  have CC := Lib.hid (fun u => count_any F C u hF)
  obtain ⟨H0, H1, H2, H3, hH⟩ : ∃ H0 H1 H2 H3, hullQ (rectsZ (bdE F 0)) = (H0, H1, H2, H3) := ⟨_, _, _, _, rfl⟩
  have CH := Lib.hid (fun u (i : BandsAt u a (bdE F 0)) => rhull_any a _ c (bdE F 0) u hok rfl i (by omega) _ _ _ _ hH)
  have CG := Lib.hid (fun b d u (i : RectsAt u b (rectsZ (bdE F 0))) => hull7_any b _ d _ u rfl (by omega) i _ _ _ _ (hhr.trans hH))
  rw [hH] at hhn
  have CT := Lib.hid (fun u => show Calls Try.prog 12 #[(.agg #[.int .i64 (H0), .int .i64 (H1), .int .i64 (H2), .int .i64 (H3)])] u fun e w' => e = .returned (.agg #[.int .i64 (H0), .int .i64 (H1), .int .i64 (H2), .int .i64 (H3)]) ∧ Below u.heap.size u w' from by
    have := told_any H0 H1 H2 H3 u
    obtain ⟨s0, s1, s2, s3⟩ := r_same hhn
    rw [s0, s1, s2, s3] at this
    exact this)
  have e4 := eq4_true (a := H0) (b := H1) (c := H2) (d := H3) ⟨rfl, rfl, rfl, rfl⟩
  have HNF := Lib.hid hnf
  have HA := Lib.hid h
  have hs := hF.size
  obtain ⟨K, hK⟩ : ∃ K, cntK F 1600 = K := ⟨_, rfl⟩
  rw [hK] at CA CC
  clear hok hcnt hnf hhr hhn hH h hF hK
  generalize bdE F 0 = B at *
  generalize rectsZ B = R at *
  obtain ⟨rl, hrl⟩ : ∃ rl, R.length = rl := ⟨_, rfl⟩
  have HRL := Lib.hid hrl
  rw [hrl] at CR CF CG hlen
  clear hrl
  go_enter Try.func18, Try.ntmps18
  go_wp2_with fail
  refine region_ord [(0, 0), (2, 0), (1, 1), (3, 1), (4, 0), (5, 0)] (by kernel_rfl) (by kernel_rfl) (fun _ _ d _ _ h => by cases d <;> exact h) (fun hS => ?_)
  (refine wpG_read (v := ?_) rfl (.inl ⟨by rfl, fun wx hbx => ?_⟩) ?_; rotate_left; (focus (obtain ⟨cx0, fx0, zx0⟩ := bk hbx (w.heap.size) (by first | omega | (simp; done) | (simp; omega)); have bx0 := bkB hbx (w.heap.size) (by first | omega | (simp; done) | (simp; omega)); obtain ⟨cx1, fx1, zx1⟩ := bk hbx (w.heap.size + 1) (by first | omega | (simp; done) | (simp; omega)); have bx1 := bkB hbx (w.heap.size + 1) (by first | omega | (simp; done) | (simp; omega)); go_simp; (try go_bits); (try with_reducible rfl))); try simp only [Act.put, List.setIfInBounds_toArray, List.set_cons_zero, List.set_cons_succ])
  (refine wpG_read (v := ?_) rfl (.inl ⟨by rfl, fun wx hbx => ?_⟩) ?_; rotate_left; (focus (obtain ⟨cx0, fx0, zx0⟩ := bk hbx (w.heap.size) (by first | omega | (simp; done) | (simp; omega)); have bx0 := bkB hbx (w.heap.size) (by first | omega | (simp; done) | (simp; omega)); obtain ⟨cx1, fx1, zx1⟩ := bk hbx (w.heap.size + 1) (by first | omega | (simp; done) | (simp; omega)); have bx1 := bkB hbx (w.heap.size + 1) (by first | omega | (simp; done) | (simp; omega)); go_simp; (try go_bits); (try with_reducible rfl))); try simp only [Act.put, List.setIfInBounds_toArray, List.set_cons_zero, List.set_cons_succ])
  (refine wpG_make rfl (fun K hK => ?_); go_simp; (go_at_call 26; (with_reducible refine (CR.out _ (HA.out.below (by (repeat' (first | (with_reducible exact Below.refl _ _) | (with_reducible assumption) | (with_reducible refine below_from_drew ?_) | (with_reducible refine Below.alloc ?_ ?_ _) | (with_reducible refine Below.drew ?_) | (with_reducible refine below_drewN ?_ _) | (with_reducible refine Below.setCell ?_ ?_ _) | (with_reducible refine below_via ?_ (by assumption) ?_) | (with_reducible refine below_ov ?_ ?_ _ _) | go_size))))).mono ?_); rintro e w1 ⟨x1, y1, rfl, i1, hb⟩; refine Exists.elim (after2 (w := w) (b0 := w.heap.size) (cs0 := ?_) (T0 := ?_) (b1 := w.heap.size + 1) (cs1 := ?_) (T1 := ?_) hb ?_ ?_ ?_) ?_; rotate_left 4; (focus ((repeat' (first | (with_reducible exact Below.refl _ _) | (with_reducible assumption) | (with_reducible refine below_from_drew ?_) | (with_reducible refine Below.alloc ?_ ?_ _) | (with_reducible refine Below.drew ?_) | (with_reducible refine below_drewN ?_ _) | (with_reducible refine Below.setCell ?_ ?_ _) | (with_reducible refine below_via ?_ (by assumption) ?_) | (with_reducible refine below_ov ?_ ?_ _ _) | go_size)); done)); (focus ((repeat' (first | (with_reducible refine has_drew ?_) | (with_reducible refine has_drewN ?_) | (with_reducible refine has_new ?_; (first | (with_reducible rfl) | omega | (simp; done) | (simp; omega))) | (with_reducible refine has_ov_same ?_; (first | (with_reducible rfl) | omega | (simp; done) | (simp; omega))) | (with_reducible refine has_alloc ?_) | (with_reducible refine has_ov_other ?_ ?_; (focus (first | (with_reducible rfl) | omega | (simp; done) | (simp; omega)))) | (with_reducible assumption) | (with_reducible exact has_below hB (by assumption)))); done)); (focus ((repeat' (first | (with_reducible refine has_drew ?_) | (with_reducible refine has_drewN ?_) | (with_reducible refine has_new ?_; (first | (with_reducible rfl) | omega | (simp; done) | (simp; omega))) | (with_reducible refine has_ov_same ?_; (first | (with_reducible rfl) | omega | (simp; done) | (simp; omega))) | (with_reducible refine has_alloc ?_) | (with_reducible refine has_ov_other ?_ ?_; (focus (first | (with_reducible rfl) | omega | (simp; done) | (simp; omega)))) | (with_reducible assumption) | (with_reducible exact has_below hB (by assumption)))); done)); rintro u1 ⟨rfl, hB, hz, z0, o0, z1, o1⟩; (try simp only [World.size_alloc, World.size_setCell, World.size_drew, ov_size] at hz)); (try simp only []); refine hK _ _ ?_ (fun hS2 => ?_); (focus ((repeat' (first | (with_reducible exact Below.refl _ _) | (with_reducible assumption) | (with_reducible refine below_from_drew ?_) | (with_reducible refine Below.alloc ?_ ?_ _) | (with_reducible refine Below.drew ?_) | (with_reducible refine below_drewN ?_ _) | (with_reducible refine Below.setCell ?_ ?_ _) | (with_reducible refine below_via ?_ (by assumption) ?_) | (with_reducible refine below_ov ?_ ?_ _ _) | go_size)); done)); clear hK K hS; have hS := hS2; clear hS2; (try clear hb); try simp only [Act.put, List.setIfInBounds_toArray, List.set_cons_zero, List.set_cons_succ])
  (refine wpG_make rfl (fun K hK => ?_); go_simp; (go_at_call 54; (with_reducible refine (CF.out _).mono ?_); rintro e w1 ⟨x2, y2, rfl, i2, hb⟩; replace i1 := i1.below hb; refine Exists.elim (after2 (w := w) (b0 := w.heap.size) (cs0 := ?_) (T0 := ?_) (b1 := w.heap.size + 1) (cs1 := ?_) (T1 := ?_) hb ?_ ?_ ?_) ?_; rotate_left 4; (focus ((repeat' (first | (with_reducible exact Below.refl _ _) | (with_reducible assumption) | (with_reducible refine below_from_drew ?_) | (with_reducible refine Below.alloc ?_ ?_ _) | (with_reducible refine Below.drew ?_) | (with_reducible refine below_drewN ?_ _) | (with_reducible refine Below.setCell ?_ ?_ _) | (with_reducible refine below_via ?_ (by assumption) ?_) | (with_reducible refine below_ov ?_ ?_ _ _) | go_size)); done)); (focus ((repeat' (first | (with_reducible refine has_drew ?_) | (with_reducible refine has_drewN ?_) | (with_reducible refine has_new ?_; (first | (with_reducible rfl) | omega | (simp; done) | (simp; omega))) | (with_reducible refine has_ov_same ?_; (first | (with_reducible rfl) | omega | (simp; done) | (simp; omega))) | (with_reducible refine has_alloc ?_) | (with_reducible refine has_ov_other ?_ ?_; (focus (first | (with_reducible rfl) | omega | (simp; done) | (simp; omega)))) | (with_reducible assumption) | (with_reducible exact has_below hB (by assumption)))); done)); (focus ((repeat' (first | (with_reducible refine has_drew ?_) | (with_reducible refine has_drewN ?_) | (with_reducible refine has_new ?_; (first | (with_reducible rfl) | omega | (simp; done) | (simp; omega))) | (with_reducible refine has_ov_same ?_; (first | (with_reducible rfl) | omega | (simp; done) | (simp; omega))) | (with_reducible refine has_alloc ?_) | (with_reducible refine has_ov_other ?_ ?_; (focus (first | (with_reducible rfl) | omega | (simp; done) | (simp; omega)))) | (with_reducible assumption) | (with_reducible exact has_below hB (by assumption)))); done)); rintro u2 ⟨rfl, hB, hz, z0, o0, z1, o1⟩; (try simp only [World.size_alloc, World.size_setCell, World.size_drew, ov_size] at hz)); (try simp only []); refine hK _ _ ?_ (fun hS2 => ?_); (focus ((repeat' (first | (with_reducible exact Below.refl _ _) | (with_reducible assumption) | (with_reducible refine below_from_drew ?_) | (with_reducible refine Below.alloc ?_ ?_ _) | (with_reducible refine Below.drew ?_) | (with_reducible refine below_drewN ?_ _) | (with_reducible refine Below.setCell ?_ ?_ _) | (with_reducible refine below_via ?_ (by assumption) ?_) | (with_reducible refine below_ov ?_ ?_ _ _) | go_size)); done)); clear hK K hS; have hS := hS2; clear hS2; (try clear hb); try simp only [Act.put, List.setIfInBounds_toArray, List.set_cons_zero, List.set_cons_succ])
  (refine wpG_read (v := ?_) rfl (.inl ⟨by rfl, fun wx hbx => ?_⟩) ?_; rotate_left; (focus (obtain ⟨cx0, fx0, zx0⟩ := bk hbx (w.heap.size) (by first | omega | (simp; done) | (simp; omega)); have bx0 := bkB hbx (w.heap.size) (by first | omega | (simp; done) | (simp; omega)); obtain ⟨cx1, fx1, zx1⟩ := bk hbx (w.heap.size + 1) (by first | omega | (simp; done) | (simp; omega)); have bx1 := bkB hbx (w.heap.size + 1) (by first | omega | (simp; done) | (simp; omega)); go_simp; (try go_bits); (try with_reducible rfl))); try simp only [Act.put, List.setIfInBounds_toArray, List.set_cons_zero, List.set_cons_succ])
  (refine wpG_read (v := ?_) rfl (.inl ⟨by rfl, fun wx hbx => ?_⟩) ?_; rotate_left; (focus (obtain ⟨cx0, fx0, zx0⟩ := bk hbx (w.heap.size) (by first | omega | (simp; done) | (simp; omega)); have bx0 := bkB hbx (w.heap.size) (by first | omega | (simp; done) | (simp; omega)); obtain ⟨cx1, fx1, zx1⟩ := bk hbx (w.heap.size + 1) (by first | omega | (simp; done) | (simp; omega)); have bx1 := bkB hbx (w.heap.size + 1) (by first | omega | (simp; done) | (simp; omega)); go_simp; (try go_bits); (try with_reducible rfl))); try simp only [Act.put, List.setIfInBounds_toArray, List.set_cons_zero, List.set_cons_succ])
  refine wpG_nil ?_
  refine name_world (f := Exit.then _ _ _ _) (fun X hX => ?_)
  rw [← hX] at i1 i2
  have hBX : Below w.heap.size w X := by rw [hX]; (repeat' (first | (with_reducible exact Below.refl _ _) | (with_reducible assumption) | (with_reducible refine below_from_drew ?_) | (with_reducible refine Below.alloc ?_ ?_ _) | (with_reducible refine Below.drew ?_) | (with_reducible refine below_drewN ?_ _) | (with_reducible refine Below.setCell ?_ ?_ _) | (with_reducible refine below_via ?_ (by assumption) ?_) | (with_reducible refine below_ov ?_ ?_ _ _) | go_size))
  have hH0 : Has X w.heap.size #[.slice a B.length c] 26 := by rw [hX]; (repeat' (first | (with_reducible refine has_drew ?_) | (with_reducible refine has_drewN ?_) | (with_reducible refine has_new ?_; (first | (with_reducible rfl) | omega | (simp; done) | (simp; omega))) | (with_reducible refine has_ov_same ?_; (first | (with_reducible rfl) | omega | (simp; done) | (simp; omega))) | (with_reducible refine has_alloc ?_) | (with_reducible refine has_ov_other ?_ ?_; (focus (first | (with_reducible rfl) | omega | (simp; done) | (simp; omega)))) | (with_reducible assumption) | (with_reducible exact has_below hB (by assumption))))
  have hH1 : Has X (w.heap.size + 1) C 29 := by rw [hX]; (repeat' (first | (with_reducible refine has_drew ?_) | (with_reducible refine has_drewN ?_) | (with_reducible refine has_new ?_; (first | (with_reducible rfl) | omega | (simp; done) | (simp; omega))) | (with_reducible refine has_ov_same ?_; (first | (with_reducible rfl) | omega | (simp; done) | (simp; omega))) | (with_reducible refine has_alloc ?_) | (with_reducible refine has_ov_other ?_ ?_; (focus (first | (with_reducible rfl) | omega | (simp; done) | (simp; omega)))) | (with_reducible assumption) | (with_reducible exact has_below hB (by assumption))))
  have HAX := Lib.hid (HA.out.below hBX)
  have HBX := Lib.hid hBX; have I1 := Lib.hid i1; have I2 := Lib.hid i2
  have hzX := hBX.size
  have HH0 := Lib.hid hH0; have HH1 := Lib.hid hH1
  have f0 := hH0.cells; have l0 := hH0.lt; have o0' : Old X w.heap.size := hH0.lt
  have b1 := blkCells_has hH1; have l1 := hH1.lt; have o1' : Old X (w.heap.size + 1) := hH1.lt
  clear hX hBX hH0 hH1 i1 i2 hB z0 o0 z1 o1 hz hS CR CF HA
  go_wp2_with fail
  refine region_ord [(0, 0), (1, 0), (2, 0), (3, 0), (4, 0), (5, 0), (6, 0), (8, 0), (7, 1), (9, 1), (10, 0), (11, 0)] (by kernel_rfl) (by kernel_rfl) (fun _ _ d _ _ h => by cases d <;> exact h) (fun hS => ?_)
  (refine wpG_read (v := ?_) rfl (.inl ⟨by rfl, fun wx hbx => ?_⟩) ?_; rotate_left; (focus (obtain ⟨cx0, fx0, zx0⟩ := bk hbx (w.heap.size) (by first | omega | (simp; done) | (simp; omega)); have bx0 := bkB hbx (w.heap.size) (by first | omega | (simp; done) | (simp; omega)); obtain ⟨cx1, fx1, zx1⟩ := bk hbx (w.heap.size + 1) (by first | omega | (simp; done) | (simp; omega)); have bx1 := bkB hbx (w.heap.size + 1) (by first | omega | (simp; done) | (simp; omega)); go_simp; (try go_bits); (try with_reducible rfl))); try simp only [Act.put, List.setIfInBounds_toArray, List.set_cons_zero, List.set_cons_succ])
  (refine wpG_read (v := ?_) rfl (.inl ⟨by rfl, fun wx hbx => ?_⟩) ?_; rotate_left; (focus (obtain ⟨cx0, fx0, zx0⟩ := bk hbx (w.heap.size) (by first | omega | (simp; done) | (simp; omega)); have bx0 := bkB hbx (w.heap.size) (by first | omega | (simp; done) | (simp; omega)); obtain ⟨cx1, fx1, zx1⟩ := bk hbx (w.heap.size + 1) (by first | omega | (simp; done) | (simp; omega)); have bx1 := bkB hbx (w.heap.size + 1) (by first | omega | (simp; done) | (simp; omega)); go_simp; (try go_bits); (try with_reducible rfl))); try simp only [Act.put, List.setIfInBounds_toArray, List.set_cons_zero, List.set_cons_succ])
  (refine wpG_read (v := ?_) rfl (.inl ⟨by rfl, fun wx hbx => ?_⟩) ?_; rotate_left; (focus (obtain ⟨cx0, fx0, zx0⟩ := bk hbx (w.heap.size) (by first | omega | (simp; done) | (simp; omega)); have bx0 := bkB hbx (w.heap.size) (by first | omega | (simp; done) | (simp; omega)); obtain ⟨cx1, fx1, zx1⟩ := bk hbx (w.heap.size + 1) (by first | omega | (simp; done) | (simp; omega)); have bx1 := bkB hbx (w.heap.size + 1) (by first | omega | (simp; done) | (simp; omega)); go_simp; (try go_bits); (try with_reducible rfl))); try simp only [Act.put, List.setIfInBounds_toArray, List.set_cons_zero, List.set_cons_succ])
  (refine wpG_read (v := ?_) rfl (.inl ⟨by rfl, fun wx hbx => ?_⟩) ?_; rotate_left; (focus (obtain ⟨cx0, fx0, zx0⟩ := bk hbx (w.heap.size) (by first | omega | (simp; done) | (simp; omega)); have bx0 := bkB hbx (w.heap.size) (by first | omega | (simp; done) | (simp; omega)); obtain ⟨cx1, fx1, zx1⟩ := bk hbx (w.heap.size + 1) (by first | omega | (simp; done) | (simp; omega)); have bx1 := bkB hbx (w.heap.size + 1) (by first | omega | (simp; done) | (simp; omega)); go_simp; (try go_bits); (try with_reducible rfl))); try simp only [Act.put, List.setIfInBounds_toArray, List.set_cons_zero, List.set_cons_succ])
  (refine wpG_read (v := ?_) rfl (.inl ⟨by rfl, fun wx hbx => ?_⟩) ?_; rotate_left; (focus (obtain ⟨cx0, fx0, zx0⟩ := bk hbx (w.heap.size) (by first | omega | (simp; done) | (simp; omega)); have bx0 := bkB hbx (w.heap.size) (by first | omega | (simp; done) | (simp; omega)); obtain ⟨cx1, fx1, zx1⟩ := bk hbx (w.heap.size + 1) (by first | omega | (simp; done) | (simp; omega)); have bx1 := bkB hbx (w.heap.size + 1) (by first | omega | (simp; done) | (simp; omega)); go_simp; (try go_bits); (try with_reducible rfl))); try simp only [Act.put, List.setIfInBounds_toArray, List.set_cons_zero, List.set_cons_succ])
  (refine wpG_read (v := ?_) rfl (.inl ⟨by rfl, fun wx hbx => ?_⟩) ?_; rotate_left; (focus (obtain ⟨cx0, fx0, zx0⟩ := bk hbx (w.heap.size) (by first | omega | (simp; done) | (simp; omega)); have bx0 := bkB hbx (w.heap.size) (by first | omega | (simp; done) | (simp; omega)); obtain ⟨cx1, fx1, zx1⟩ := bk hbx (w.heap.size + 1) (by first | omega | (simp; done) | (simp; omega)); have bx1 := bkB hbx (w.heap.size + 1) (by first | omega | (simp; done) | (simp; omega)); go_simp; (try go_bits); (try with_reducible rfl))); try simp only [Act.put, List.setIfInBounds_toArray, List.set_cons_zero, List.set_cons_succ])
  (first | (refine wpG_pass rfl (by rfl) ?_; simp only [Act.put, List.setIfInBounds_toArray, List.set_cons_zero, List.set_cons_succ]) | (refine wpG_read (v := ?_) rfl (.inl ⟨by rfl, fun wx hbx => ?_⟩) ?_; rotate_left; (focus (obtain ⟨cx0, fx0, zx0⟩ := bk hbx (w.heap.size) (by first | omega | (simp; done) | (simp; omega)); have bx0 := bkB hbx (w.heap.size) (by first | omega | (simp; done) | (simp; omega)); obtain ⟨cx1, fx1, zx1⟩ := bk hbx (w.heap.size + 1) (by first | omega | (simp; done) | (simp; omega)); have bx1 := bkB hbx (w.heap.size + 1) (by first | omega | (simp; done) | (simp; omega)); go_simp; (try go_bits); (try with_reducible rfl))); try simp only [Act.put, List.setIfInBounds_toArray, List.set_cons_zero, List.set_cons_succ]))
  (first | (refine wpG_pass rfl (by rfl) ?_; simp only [Act.put, List.setIfInBounds_toArray, List.set_cons_zero, List.set_cons_succ]) | (refine wpG_read (v := ?_) rfl (.inl ⟨by rfl, fun wx hbx => ?_⟩) ?_; rotate_left; (focus (obtain ⟨cx0, fx0, zx0⟩ := bk hbx (w.heap.size) (by first | omega | (simp; done) | (simp; omega)); have bx0 := bkB hbx (w.heap.size) (by first | omega | (simp; done) | (simp; omega)); obtain ⟨cx1, fx1, zx1⟩ := bk hbx (w.heap.size + 1) (by first | omega | (simp; done) | (simp; omega)); have bx1 := bkB hbx (w.heap.size + 1) (by first | omega | (simp; done) | (simp; omega)); go_simp; (try go_bits); (try with_reducible rfl))); try simp only [Act.put, List.setIfInBounds_toArray, List.set_cons_zero, List.set_cons_succ]))
  (first | (refine wpG_make rfl (fun K hK => ?_); go_simp; (with_reducible refine hK _ _ ?_ (fun hS2 => ?_)); (focus ((repeat' (first | (with_reducible exact Below.refl _ _) | (with_reducible assumption) | (with_reducible refine below_from_drew ?_) | (with_reducible refine Below.alloc ?_ ?_ _) | (with_reducible refine Below.drew ?_) | (with_reducible refine below_drewN ?_ _) | (with_reducible refine Below.setCell ?_ ?_ _) | (with_reducible refine below_via ?_ (by assumption) ?_) | (with_reducible refine below_ov ?_ ?_ _ _) | go_size)); done)); clear hK K hS; have hS := hS2; clear hS2; try simp only [Act.put, List.setIfInBounds_toArray, List.set_cons_zero, List.set_cons_succ]) | (refine wpG_make rfl (fun K hK => ?_); go_simp; (go_at_call 25; (with_reducible refine (CA.out _ (HAX.out.below (by (repeat' (first | (with_reducible exact Below.refl _ _) | (with_reducible assumption) | (with_reducible refine below_from_drew ?_) | (with_reducible refine Below.alloc ?_ ?_ _) | (with_reducible refine Below.drew ?_) | (with_reducible refine below_drewN ?_ _) | (with_reducible refine Below.setCell ?_ ?_ _) | (with_reducible refine below_via ?_ (by assumption) ?_) | (with_reducible refine below_ov ?_ ?_ _ _) | go_size))))).mono ?_); rintro e u3 ⟨rfl, hb⟩; have hz := hb.size; refine (fun hB => ?_ : Below X.heap.size X u3 → _) ?_; rotate_left; (focus ((repeat' (first | (with_reducible exact Below.refl _ _) | (with_reducible assumption) | (with_reducible refine below_from_drew ?_) | (with_reducible refine Below.alloc ?_ ?_ _) | (with_reducible refine Below.drew ?_) | (with_reducible refine below_drewN ?_ _) | (with_reducible refine Below.setCell ?_ ?_ _) | (with_reducible refine below_via ?_ (by assumption) ?_) | (with_reducible refine below_ov ?_ ?_ _ _) | go_size)); done)); (try simp only [World.size_alloc, World.size_setCell, World.size_drew, ov_size] at hz)); (try simp only []); refine hK _ _ ?_ (fun hS2 => ?_); (focus ((repeat' (first | (with_reducible exact Below.refl _ _) | (with_reducible assumption) | (with_reducible refine below_from_drew ?_) | (with_reducible refine Below.alloc ?_ ?_ _) | (with_reducible refine Below.drew ?_) | (with_reducible refine below_drewN ?_ _) | (with_reducible refine Below.setCell ?_ ?_ _) | (with_reducible refine below_via ?_ (by assumption) ?_) | (with_reducible refine below_ov ?_ ?_ _ _) | go_size)); done)); clear hK K hS; have hS := hS2; clear hS2; (try clear hb); try simp only [Act.put, List.setIfInBounds_toArray, List.set_cons_zero, List.set_cons_succ]))
  (first | (refine wpG_make rfl (fun K hK => ?_); go_simp; (with_reducible refine hK _ _ ?_ (fun hS2 => ?_)); (focus ((repeat' (first | (with_reducible exact Below.refl _ _) | (with_reducible assumption) | (with_reducible refine below_from_drew ?_) | (with_reducible refine Below.alloc ?_ ?_ _) | (with_reducible refine Below.drew ?_) | (with_reducible refine below_drewN ?_ _) | (with_reducible refine Below.setCell ?_ ?_ _) | (with_reducible refine below_via ?_ (by assumption) ?_) | (with_reducible refine below_ov ?_ ?_ _ _) | go_size)); done)); clear hK K hS; have hS := hS2; clear hS2; try simp only [Act.put, List.setIfInBounds_toArray, List.set_cons_zero, List.set_cons_succ]) | (refine wpG_make rfl (fun K hK => ?_); go_simp; (go_at_call 55; (with_reducible refine (CC.out _).mono ?_); rintro e u4 ⟨rfl, hb⟩; have hz := hb.size; refine (fun hB => ?_ : Below X.heap.size X u4 → _) ?_; rotate_left; (focus ((repeat' (first | (with_reducible exact Below.refl _ _) | (with_reducible assumption) | (with_reducible refine below_from_drew ?_) | (with_reducible refine Below.alloc ?_ ?_ _) | (with_reducible refine Below.drew ?_) | (with_reducible refine below_drewN ?_ _) | (with_reducible refine Below.setCell ?_ ?_ _) | (with_reducible refine below_via ?_ (by assumption) ?_) | (with_reducible refine below_ov ?_ ?_ _ _) | go_size)); done)); (try simp only [World.size_alloc, World.size_setCell, World.size_drew, ov_size] at hz)); (try simp only []); refine hK _ _ ?_ (fun hS2 => ?_); (focus ((repeat' (first | (with_reducible exact Below.refl _ _) | (with_reducible assumption) | (with_reducible refine below_from_drew ?_) | (with_reducible refine Below.alloc ?_ ?_ _) | (with_reducible refine Below.drew ?_) | (with_reducible refine below_drewN ?_ _) | (with_reducible refine Below.setCell ?_ ?_ _) | (with_reducible refine below_via ?_ (by assumption) ?_) | (with_reducible refine below_ov ?_ ?_ _ _) | go_size)); done)); clear hK K hS; have hS := hS2; clear hS2; (try clear hb); try simp only [Act.put, List.setIfInBounds_toArray, List.set_cons_zero, List.set_cons_succ]))
  (first | (refine wpG_pass rfl (by rfl) ?_; simp only [Act.put, List.setIfInBounds_toArray, List.set_cons_zero, List.set_cons_succ]) | (refine wpG_read (v := ?_) rfl (.inl ⟨by rfl, fun wx hbx => ?_⟩) ?_; rotate_left; (focus (obtain ⟨cx0, fx0, zx0⟩ := bk hbx (w.heap.size) (by first | omega | (simp; done) | (simp; omega)); have bx0 := bkB hbx (w.heap.size) (by first | omega | (simp; done) | (simp; omega)); obtain ⟨cx1, fx1, zx1⟩ := bk hbx (w.heap.size + 1) (by first | omega | (simp; done) | (simp; omega)); have bx1 := bkB hbx (w.heap.size + 1) (by first | omega | (simp; done) | (simp; omega)); go_simp; (try go_bits); (try with_reducible rfl))); try simp only [Act.put, List.setIfInBounds_toArray, List.set_cons_zero, List.set_cons_succ]))
  (refine wpG_read (v := ?_) rfl (.inl ⟨by rfl, fun wx hbx => ?_⟩) ?_; rotate_left; (focus (obtain ⟨cx0, fx0, zx0⟩ := bk hbx (w.heap.size) (by first | omega | (simp; done) | (simp; omega)); have bx0 := bkB hbx (w.heap.size) (by first | omega | (simp; done) | (simp; omega)); obtain ⟨cx1, fx1, zx1⟩ := bk hbx (w.heap.size + 1) (by first | omega | (simp; done) | (simp; omega)); have bx1 := bkB hbx (w.heap.size + 1) (by first | omega | (simp; done) | (simp; omega)); go_simp; (try go_bits); (try with_reducible rfl))); try simp only [Act.put, List.setIfInBounds_toArray, List.set_cons_zero, List.set_cons_succ])
  refine wpG_nil ?_
  have hB4 := Lib.hid (below_via (Below.refl _ X) hB (Nat.le_refl _))
  have HK0 := Lib.hid (HAX.out.below hB); have J1 := Lib.hid (I1.out.below hB); have J2 := Lib.hid (I2.out.below hB); have HG0 := Lib.hid (has_below hB HH0.out)
  have HBY := Lib.hid (HBX.out.trans (hB.mono hzX))
  clear HAX I1 I2 HH0 HH1 HBX f0 l0 o0' b1 l1 o1' hB hS hz hB4 CA CC
  obtain ⟨Y, rfl⟩ : ∃ Y : World, Y = u4 := ⟨_, rfl⟩
  go_wp2_with fail
  go_loopw [7] (fun iv wr => ∃ i : Nat, iv = .int .i64 (i : Int) ∧ i ≤ rl ∧ Below Y.heap.size Y wr) (fun iv _ => rl - (intOf iv).toNat)
  case atStart => exact ⟨0, rfl, Nat.zero_le _, Below.refl _ _⟩
  case round =>
    obtain ⟨i, rfl, hi, hbw⟩ := hrel
    have hi0 : (0 : Int) ≤ i := by omega
    have HB := Lib.hid hbw
    have hzY := HBY.out.size
    rcases Nat.lt_or_ge i rl with c1 | c1
    · have c2 : (i : Int) < rl := by omega
      obtain ⟨b1, o1, rfl, hb1, hc1⟩ := (J1.out.below hbw) (by rw [HRL.out]; omega)
      obtain ⟨b2, o2, rfl, hb2, hc2⟩ := (J2.out.below hbw) (by rw [HRL.out]; omega)
      obtain ⟨k0, k1, k2, k3⟩ := hc1 i (by rw [HRL.out]; exact c1)
      obtain ⟨m0, m1, m2, m3⟩ := hc2 i (by rw [HRL.out]; exact c1)
      have hmem : R.getD i q0Z ∈ R := by
        have : R.getD i q0Z = R[i]'(by rw [HRL.out]; exact c1) := by simp [List.getD_eq_getElem?_getD, HRL.out, c1]
        rw [this]; exact List.getElem_mem _
      obtain ⟨hn1, hn2⟩ := HNF.out _ hmem
      obtain ⟨p0, p1, p2, p3, hp⟩ : ∃ p0 p1 p2 p3, R.getD i q0Z = (p0, p1, p2, p3) := ⟨_, _, _, _, rfl⟩
      rw [hp] at k0 k1 k2 k3 m0 m1 m2 m3 hn1
      simp only at k0 k1 k2 k3 m0 m1 m2 m3
      have CP := Lib.hid (fun u => show Calls Try.prog 12 #[(.agg #[.int .i64 (p0), .int .i64 (p1), .int .i64 (p2), .int .i64 (p3)])] u fun e w' => e = .returned (.agg #[.int .i64 (p0), .int .i64 (p1), .int .i64 (p2), .int .i64 (p3)]) ∧ Below u.heap.size u w' from by
        have := told_any p0 p1 p2 p3 u
        obtain ⟨s0, s1, s2, s3⟩ := r_same hn1
        rw [s0, s1, s2, s3] at this
        exact this)
      have e5 := eq4_true (a := p0) (b := p1) (c := p2) (d := p3) ⟨rfl, rfl, rfl, rfl⟩
      have ob1 : Old wr b1 := hb1; have ob2 : Old wr b2 := hb2
      clear hbw hc1 hc2 hmem hn1 hn2 hp
      go_wp2_with fail
      refine region_ord [(0, 0), (1, 0), (2, 0), (3, 0), (4, 0), (5, 0), (6, 0), (7, 0), (8, 1), (9, 0)] (by kernel_rfl) (by kernel_rfl) (fun _ _ d _ _ h => by cases d <;> exact h) (fun hS => ?_)
      (refine wpG_read (v := ?_) rfl (.inl ⟨by rfl, fun wx hbx => ?_⟩) ?_; rotate_left; (focus (obtain ⟨cx0, fx0, zx0⟩ := bk hbx (b1) (by first | omega | (simp; done) | (simp; omega)); have bx0 := bkB hbx (b1) (by first | omega | (simp; done) | (simp; omega)); obtain ⟨cx1, fx1, zx1⟩ := bk hbx (b2) (by first | omega | (simp; done) | (simp; omega)); have bx1 := bkB hbx (b2) (by first | omega | (simp; done) | (simp; omega)); go_simp; (try go_bits); (try with_reducible rfl))); try simp only [Act.put, List.setIfInBounds_toArray, List.set_cons_zero, List.set_cons_succ])
      (refine wpG_read (v := ?_) rfl (.inl ⟨by rfl, fun wx hbx => ?_⟩) ?_; rotate_left; (focus (obtain ⟨cx0, fx0, zx0⟩ := bk hbx (b1) (by first | omega | (simp; done) | (simp; omega)); have bx0 := bkB hbx (b1) (by first | omega | (simp; done) | (simp; omega)); obtain ⟨cx1, fx1, zx1⟩ := bk hbx (b2) (by first | omega | (simp; done) | (simp; omega)); have bx1 := bkB hbx (b2) (by first | omega | (simp; done) | (simp; omega)); go_simp; (try go_bits); (try with_reducible rfl))); try simp only [Act.put, List.setIfInBounds_toArray, List.set_cons_zero, List.set_cons_succ])
      (refine wpG_read (v := ?_) rfl (.inl ⟨by rfl, fun wx hbx => ?_⟩) ?_; rotate_left; (focus (obtain ⟨cx0, fx0, zx0⟩ := bk hbx (b1) (by first | omega | (simp; done) | (simp; omega)); have bx0 := bkB hbx (b1) (by first | omega | (simp; done) | (simp; omega)); obtain ⟨cx1, fx1, zx1⟩ := bk hbx (b2) (by first | omega | (simp; done) | (simp; omega)); have bx1 := bkB hbx (b2) (by first | omega | (simp; done) | (simp; omega)); go_simp; (try go_bits); (try with_reducible rfl))); try simp only [Act.put, List.setIfInBounds_toArray, List.set_cons_zero, List.set_cons_succ])
      (refine wpG_read (v := ?_) rfl (.inl ⟨by rfl, fun wx hbx => ?_⟩) ?_; rotate_left; (focus (obtain ⟨cx0, fx0, zx0⟩ := bk hbx (b1) (by first | omega | (simp; done) | (simp; omega)); have bx0 := bkB hbx (b1) (by first | omega | (simp; done) | (simp; omega)); obtain ⟨cx1, fx1, zx1⟩ := bk hbx (b2) (by first | omega | (simp; done) | (simp; omega)); have bx1 := bkB hbx (b2) (by first | omega | (simp; done) | (simp; omega)); go_simp; (try go_bits); (try with_reducible rfl))); try simp only [Act.put, List.setIfInBounds_toArray, List.set_cons_zero, List.set_cons_succ])
      (refine wpG_read (v := ?_) rfl (.inl ⟨by rfl, fun wx hbx => ?_⟩) ?_; rotate_left; (focus (obtain ⟨cx0, fx0, zx0⟩ := bk hbx (b1) (by first | omega | (simp; done) | (simp; omega)); have bx0 := bkB hbx (b1) (by first | omega | (simp; done) | (simp; omega)); obtain ⟨cx1, fx1, zx1⟩ := bk hbx (b2) (by first | omega | (simp; done) | (simp; omega)); have bx1 := bkB hbx (b2) (by first | omega | (simp; done) | (simp; omega)); go_simp; (try go_bits); (try with_reducible rfl))); try simp only [Act.put, List.setIfInBounds_toArray, List.set_cons_zero, List.set_cons_succ])
      (refine wpG_read (v := ?_) rfl (.inl ⟨by rfl, fun wx hbx => ?_⟩) ?_; rotate_left; (focus (obtain ⟨cx0, fx0, zx0⟩ := bk hbx (b1) (by first | omega | (simp; done) | (simp; omega)); have bx0 := bkB hbx (b1) (by first | omega | (simp; done) | (simp; omega)); obtain ⟨cx1, fx1, zx1⟩ := bk hbx (b2) (by first | omega | (simp; done) | (simp; omega)); have bx1 := bkB hbx (b2) (by first | omega | (simp; done) | (simp; omega)); go_simp; (try go_bits); (try with_reducible rfl))); try simp only [Act.put, List.setIfInBounds_toArray, List.set_cons_zero, List.set_cons_succ])
      (refine wpG_read (v := ?_) rfl (.inl ⟨by rfl, fun wx hbx => ?_⟩) ?_; rotate_left; (focus (obtain ⟨cx0, fx0, zx0⟩ := bk hbx (b1) (by first | omega | (simp; done) | (simp; omega)); have bx0 := bkB hbx (b1) (by first | omega | (simp; done) | (simp; omega)); obtain ⟨cx1, fx1, zx1⟩ := bk hbx (b2) (by first | omega | (simp; done) | (simp; omega)); have bx1 := bkB hbx (b2) (by first | omega | (simp; done) | (simp; omega)); go_simp; (try go_bits); (try with_reducible rfl))); try simp only [Act.put, List.setIfInBounds_toArray, List.set_cons_zero, List.set_cons_succ])
      (refine wpG_read (v := ?_) rfl (.inl ⟨by rfl, fun wx hbx => ?_⟩) ?_; rotate_left; (focus (obtain ⟨cx0, fx0, zx0⟩ := bk hbx (b1) (by first | omega | (simp; done) | (simp; omega)); have bx0 := bkB hbx (b1) (by first | omega | (simp; done) | (simp; omega)); obtain ⟨cx1, fx1, zx1⟩ := bk hbx (b2) (by first | omega | (simp; done) | (simp; omega)); have bx1 := bkB hbx (b2) (by first | omega | (simp; done) | (simp; omega)); go_simp; (try go_bits); (try with_reducible rfl))); try simp only [Act.put, List.setIfInBounds_toArray, List.set_cons_zero, List.set_cons_succ])
      (refine wpG_make rfl (fun K hK => ?_); go_simp; (go_at_call 12; (with_reducible refine (CP.out _).mono ?_); rintro e v1 ⟨rfl, hb⟩; have hz := hb.size; refine (fun hB => ?_ : Below wr.heap.size wr v1 → _) ?_; rotate_left; (focus ((repeat' (first | (with_reducible exact Below.refl _ _) | (with_reducible assumption) | (with_reducible refine below_from_drew ?_) | (with_reducible refine Below.alloc ?_ ?_ _) | (with_reducible refine Below.drew ?_) | (with_reducible refine below_drewN ?_ _) | (with_reducible refine Below.setCell ?_ ?_ _) | (with_reducible refine below_via ?_ (by assumption) ?_) | (with_reducible refine below_ov ?_ ?_ _ _) | go_size)); done)); (try simp only [World.size_alloc, World.size_setCell, World.size_drew, ov_size] at hz)); (try simp only []); refine hK _ _ ?_ (fun hS2 => ?_); (focus ((repeat' (first | (with_reducible exact Below.refl _ _) | (with_reducible assumption) | (with_reducible refine below_from_drew ?_) | (with_reducible refine Below.alloc ?_ ?_ _) | (with_reducible refine Below.drew ?_) | (with_reducible refine below_drewN ?_ _) | (with_reducible refine Below.setCell ?_ ?_ _) | (with_reducible refine below_via ?_ (by assumption) ?_) | (with_reducible refine below_ov ?_ ?_ _ _) | go_size)); done)); clear hK K hS; have hS := hS2; clear hS2; (try clear hb); try simp only [Act.put, List.setIfInBounds_toArray, List.set_cons_zero, List.set_cons_succ])
      (refine wpG_read (v := ?_) rfl (.inl ⟨by rfl, fun wx hbx => ?_⟩) ?_; rotate_left; (focus (obtain ⟨cx0, fx0, zx0⟩ := bk hbx (b1) (by first | omega | (simp; done) | (simp; omega)); have bx0 := bkB hbx (b1) (by first | omega | (simp; done) | (simp; omega)); obtain ⟨cx1, fx1, zx1⟩ := bk hbx (b2) (by first | omega | (simp; done) | (simp; omega)); have bx1 := bkB hbx (b2) (by first | omega | (simp; done) | (simp; omega)); go_simp; (try go_bits); (try with_reducible rfl))); try simp only [Act.put, List.setIfInBounds_toArray, List.set_cons_zero, List.set_cons_succ])
      refine wpG_nil ?_
      have HX2 := Lib.hid (HB.out.trans (hB.mono HB.out.size))
      clear hB hS hz
      go_wp2_with fail
      exact ⟨⟨i + 1, by push_cast; rfl, c1, HX2.out⟩, by simp only [intOf]; omega⟩
    · have c2 : (rl : Int) ≤ i := by omega
      have h0 := has_below hbw HG0.out
      have f0 := h0.cells; have l0 := h0.lt; have oo0 : Old wr w.heap.size := h0.lt
      have HKW := Lib.hid (HK0.out.below hbw); have JW := Lib.hid (J2.out.below hbw)
      clear hbw h0
      go_wp2_with (first | (go_at_call 27; (with_reducible refine (CH.out _ (HKW.out.below (by (repeat' (first | (with_reducible exact Below.refl _ _) | (with_reducible assumption) | (with_reducible refine below_from_drew ?_) | (with_reducible refine Below.alloc ?_ ?_ _) | (with_reducible refine Below.drew ?_) | (with_reducible refine below_drewN ?_ _) | (with_reducible refine Below.setCell ?_ ?_ _) | (with_reducible refine below_via ?_ (by assumption) ?_) | (with_reducible refine below_ov ?_ ?_ _ _) | go_size))))).mono ?_); rintro e v1 ⟨rfl, hb⟩; have hz := hb.size; refine (fun hB => ?_ : Below wr.heap.size wr v1 → _) ?_; rotate_left; (focus ((repeat' (first | (with_reducible exact Below.refl _ _) | (with_reducible assumption) | (with_reducible refine below_from_drew ?_) | (with_reducible refine Below.alloc ?_ ?_ _) | (with_reducible refine Below.drew ?_) | (with_reducible refine below_drewN ?_ _) | (with_reducible refine Below.setCell ?_ ?_ _) | (with_reducible refine below_via ?_ (by assumption) ?_) | (with_reducible refine below_ov ?_ ?_ _ _) | go_size)); done)); (try simp only [World.size_alloc, World.size_setCell, World.size_drew, ov_size] at hz)) | (go_at_call 56; (with_reducible refine (CG.out _ _ _ (JW.out.below (by (repeat' (first | (with_reducible exact Below.refl _ _) | (with_reducible assumption) | (with_reducible refine below_from_drew ?_) | (with_reducible refine Below.alloc ?_ ?_ _) | (with_reducible refine Below.drew ?_) | (with_reducible refine below_drewN ?_ _) | (with_reducible refine Below.setCell ?_ ?_ _) | (with_reducible refine below_via ?_ (by assumption) ?_) | (with_reducible refine below_ov ?_ ?_ _ _) | go_size))))).mono ?_); rintro e v2 ⟨rfl, hb⟩; have hz := hb.size; refine (fun hB => ?_ : Below wr.heap.size wr v2 → _) ?_; rotate_left; (focus ((repeat' (first | (with_reducible exact Below.refl _ _) | (with_reducible assumption) | (with_reducible refine below_from_drew ?_) | (with_reducible refine Below.alloc ?_ ?_ _) | (with_reducible refine Below.drew ?_) | (with_reducible refine below_drewN ?_ _) | (with_reducible refine Below.setCell ?_ ?_ _) | (with_reducible refine below_via ?_ (by assumption) ?_) | (with_reducible refine below_ov ?_ ?_ _ _) | go_size)); done)); (try simp only [World.size_alloc, World.size_setCell, World.size_drew, ov_size] at hz)) | (go_at_call 12; (with_reducible refine (CT.out _).mono ?_); rintro e v3 ⟨rfl, hb⟩; have hz := hb.size; refine (fun hB => ?_ : Below wr.heap.size wr v3 → _) ?_; rotate_left; (focus ((repeat' (first | (with_reducible exact Below.refl _ _) | (with_reducible assumption) | (with_reducible refine below_from_drew ?_) | (with_reducible refine Below.alloc ?_ ?_ _) | (with_reducible refine Below.drew ?_) | (with_reducible refine below_drewN ?_ _) | (with_reducible refine Below.setCell ?_ ?_ _) | (with_reducible refine below_via ?_ (by assumption) ?_) | (with_reducible refine below_ov ?_ ?_ _ _) | go_size)); done)); (try simp only [World.size_alloc, World.size_setCell, World.size_drew, ov_size] at hz)))
      have HX2 := Lib.hid (HBY.out.trans ((HB.out.trans (hB.mono HB.out.size)).mono hzY))
      clear hB hz
      go_ret
      exact ⟨rfl, HX2.out⟩
end Go.Proofs.Ytkpamofamcndnaa
