/- clapboardref28: New, in, At, Colour by contract. clapboardref28: Colour, Paint, Move by contract. clapboardref28: Move by contract. clapboardlaw28.same by contract. -/
import Derived.Test.YtkpamofamcndnaaRasMS
import Derived.Test.YtkpamofamcndnaaBut
namespace Go.Proofs.Ytkpamofamcndnaa
open Go.RowKit Go.Shelf
set_option linter.unusedSimpArgs false
set_option linter.unusedVariables false
-- below_from_drew
attribute [local go_sem] ov_cell_same ov_cell_other ov_frozen_same ov_frozen_other ov_size ov_setCell_same ov_setCell_other cell_alloc_old frozen_alloc_old setCell_alloc_old old_alloc old_ov old_drew old_drewN old_setCell
attribute [local go_sem ↓] run_max2 run_min2 eql_rect eq_nil8
theorem infoI8 : (Try.prog.info? 3).map (fun i => (i.zero, i.size, i.bytes)) = some (some (.int .i64 0), 1, 8) := by kernel_rfl
/-- The document's image: its colours, row by row. -/
def PicT (w : World) (a : Option Addr) (W H : Nat) (f : Nat → Nat → Int) : Prop := 0 < W * H → ∃ b cs, a = some ⟨b, 0, none⟩ ∧ Has w b cs 3 ∧ ∀ y x, y < H → x < W → cs[y * W + x]? = some (.int .i64 (f y x))
theorem PicT.below {w w1 : World} {a : Option Addr} {W H : Nat} {f : Nat → Nat → Int} (h : PicT w a W H f) (hb : Below w.heap.size w w1) : PicT w1 a W H f := fun h0 => by
  obtain ⟨b, cs, e, h1, h2⟩ := h h0
  exact ⟨b, cs, e, has_below hb h1, h2⟩
/-- A pixel's place. -/
theorem place_lt {W H x y : Nat} (hx : x < W) (hy : y < H) : y * W + x < W * H := by
  have : (y + 1) * W ≤ H * W := Nat.mul_le_mul_right W hy
  rw [Nat.add_mul, Nat.one_mul, Nat.mul_comm H W] at this
  omega
theorem place_inj {W x x' y y' : Nat} (hx : x < W) (hx' : x' < W) (e : y * W + x = y' * W + x') : y = y' ∧ x = x' := by
  have h1 : (y * W + x) / W = y := by rw [Nat.mul_comm, Nat.mul_add_div (by omega), Nat.div_eq_of_lt hx]; rfl
  have h2 : (y' * W + x') / W = y' := by rw [Nat.mul_comm, Nat.mul_add_div (by omega), Nat.div_eq_of_lt hx']; rfl
  have : y = y' := by rw [← h1, ← h2, e]
  subst this
  exact ⟨rfl, by omega⟩
theorem place_small {W H : Nat} (hW : W ≤ 24) (hH : H ≤ 24) : W * H ≤ 576 := Nat.mul_le_mul hW hH
set_option maxHeartbeats 1000000 in
theorem rnew28_any (W H : Nat) (w : World) (hW : W ≤ 24) (hH : H ≤ 24) :
    Calls Try.prog 38 #[.int .i64 W, .int .i64 H] w fun e w' => ∃ b cs, (e = .returned (.agg #[.int .i64 W, .int .i64 H, .slice (some ⟨b, 0, none⟩) (W * H) (W * H)]) ∧ Has w' b cs 3 ∧ w.heap.size ≤ b ∧ cs.size = W * H ∧ ∀ k, k < W * H → cs[k]? = some (.int .i64 0)) ∧ Below w.heap.size w w' := by
  have hs := place_small hW hH
  have hmk := run_make_row' (P := Try.prog) 71 3 (.int .i64 0) 8 Try.underlying71 infoI8 rfl .i64 .i64 (W * H) (by omega) (by omega)
  have hmu : wrap64 ((W : Int) * (H : Int)) = ((W * H : Nat) : Int) := by
    push_cast
    have : ((W * H : Nat) : Int) ≤ 576 := by omega
    push_cast at this
    have h0 : (0 : Int) ≤ (W : Int) * H := Int.mul_nonneg (by omega) (by omega)
    unfold wrap64; omega
  generalize W * H = n at *
  go_enter Try.func38, Try.ntmps38
  go_wp2_with fail
  refine bodyPost_ret (by simp [results, Try.results38, go_sem]; try rfl) rfl ?_
  exact ⟨w.heap.size + 1, _, ⟨rfl, has_new (by simp), by omega, by simp [madeCells], fun k hk => by simp [madeCells, hk, Nat.mod_one]⟩, by (repeat' (first | (with_reducible exact Below.refl _ _) | (with_reducible assumption) | (with_reducible refine below_from_drew ?_) | (with_reducible refine Below.alloc ?_ ?_ _) | (with_reducible refine Below.drew ?_) | (with_reducible refine below_drewN ?_ _) | (with_reducible refine Below.setCell ?_ ?_ _) | (with_reducible refine below_via ?_ (by assumption) ?_) | (with_reducible refine below_ov ?_ ?_ _ _) | go_size))⟩
theorem rin28_any (W H n c : Nat) (a : Option Addr) (x y : Int) (w : World) (b : Bool) (hb : decide (0 ≤ x ∧ x < W ∧ 0 ≤ y ∧ y < H) = b) :
    Calls Try.prog 71 #[.agg #[.int .i64 W, .int .i64 H, .slice a n c], .int .i64 x, .int .i64 y] w fun e w' => e = .returned (.bool b) ∧ Below w.heap.size w w' := by
  have h : x < 0 ∨ (0 ≤ x ∧ y < 0) ∨ (0 ≤ x ∧ 0 ≤ y ∧ (W : Int) ≤ x) ∨ (0 ≤ x ∧ 0 ≤ y ∧ x < W ∧ (H : Int) ≤ y) ∨ (0 ≤ x ∧ 0 ≤ y ∧ x < W ∧ y < H) := by omega
  rcases h with k1 | ⟨k1, k2⟩ | ⟨k1, k2, k3⟩ | ⟨k1, k2, k3, k4⟩ | ⟨k1, k2, k3, k4⟩
  iterate 4
    · obtain rfl : b = false := by rw [← hb]; exact decide_eq_false (by omega)
      clear hb
      go_enter Try.func71, Try.ntmps71
      go_wp2_with fail
      go_ret
      exact ⟨by first | rfl | (show Ending.returned (.bool (decide (y < (H : Int)))) = _; rw [decide_eq_false (by omega)]), by (repeat' (first | (with_reducible exact Below.refl _ _) | (with_reducible assumption) | (with_reducible refine below_from_drew ?_) | (with_reducible refine Below.alloc ?_ ?_ _) | (with_reducible refine Below.drew ?_) | (with_reducible refine below_drewN ?_ _) | (with_reducible refine Below.setCell ?_ ?_ _) | (with_reducible refine below_via ?_ (by assumption) ?_) | (with_reducible refine below_ov ?_ ?_ _ _) | go_size))⟩
  · obtain rfl : b = true := by rw [← hb]; exact decide_eq_true (by omega)
    clear hb
    go_enter Try.func71, Try.ntmps71
    go_wp2_with fail
    go_ret
    exact ⟨by first | rfl | (show Ending.returned (.bool (decide (y < (H : Int)))) = _; rw [decide_eq_true (by omega)]), by (repeat' (first | (with_reducible exact Below.refl _ _) | (with_reducible assumption) | (with_reducible refine below_from_drew ?_) | (with_reducible refine Below.alloc ?_ ?_ _) | (with_reducible refine Below.drew ?_) | (with_reducible refine below_drewN ?_ _) | (with_reducible refine Below.setCell ?_ ?_ _) | (with_reducible refine below_via ?_ (by assumption) ?_) | (with_reducible refine below_ov ?_ ?_ _ _) | go_size))⟩
theorem wrap_small {z : Int} (h0 : 0 ≤ z) (h1 : z ≤ 1000000) : wrap64 z = z := by unfold wrap64; omega
set_option maxRecDepth 100000 in
set_option maxHeartbeats 1000000 in
theorem rat28_any (W H c : Nat) (a : Option Addr) (f : Nat → Nat → Int) (x y : Int) (w : World) (hW : W ≤ 24) (hH : H ≤ 24) (h : PicT w a W H f) :
    Calls Try.prog 69 #[.agg #[.int .i64 W, .int .i64 H, .slice a (W * H) c], .int .i64 x, .int .i64 y] w fun e w' => e = .returned (.int .i64 (atF W H f x y)) ∧ Below w.heap.size w w' := by
  by_cases k : 0 ≤ x ∧ x < W ∧ 0 ≤ y ∧ y < H
  · have HIN := Lib.hid (fun u => rin28_any W H (W * H) c a x y u true (decide_eq_true k))
    have hat : atF W H f x y = f y.toNat x.toNat := by unfold atF; rw [if_pos k]
    rw [hat]
    obtain ⟨i, rfl⟩ : ∃ i : Nat, x = i := ⟨x.toNat, by omega⟩
    obtain ⟨j, rfl⟩ : ∃ j : Nat, y = j := ⟨y.toNat, by omega⟩
    have hi : i < W := by omega
    have hj : j < H := by omega
    have hlt := place_lt hi hj
    have hsm := place_small hW hH
    obtain ⟨b, cs, rfl, hb, hc⟩ := h (by omega)
    have hv := hc j i hj hi
    have e0 := (hb.cells _).trans hv
    have l0 := hb.lt; have o0 : Old w b := l0
    obtain ⟨q, hq⟩ : ∃ q, j * W = q := ⟨_, rfl⟩
    rw [hq] at e0 hlt
    have m1 : (j : Int) * W = q := by rw [← hq]; push_cast; rfl
    generalize W * H = n at *
    have g1 : (q : Int) + i < n := by omega
    have g2 : (0 : Int) ≤ (q : Int) + i := by omega
    have m2 : wrap64 ((j : Int) * W) = q := by rw [m1]; exact wrap_small (by omega) (by omega)
    have m3 : wrap64 ((q : Int) + i) = (q : Int) + i := wrap_small g2 (by clear m1 m2; omega)
    clear m1
    simp only [Int.toNat_natCast]
    clear hat k h hb hc hv hq hi hj hW hH
    go_enter Try.func69, Try.ntmps69
    go_wp2_with (((go_at_call 71; (with_reducible refine (HIN.out _).mono ?_); rintro e w1 ⟨rfl, hb⟩; refine Exists.elim (after1 (w := w) (b0 := w.heap.size) (cs0 := ?_) (T0 := ?_) hb ?_ ?_) ?_; rotate_left 2; (focus ((repeat' (first | (with_reducible exact Below.refl _ _) | (with_reducible assumption) | (with_reducible refine below_from_drew ?_) | (with_reducible refine Below.alloc ?_ ?_ _) | (with_reducible refine Below.drew ?_) | (with_reducible refine below_drewN ?_ _) | (with_reducible refine Below.setCell ?_ ?_ _) | (with_reducible refine below_via ?_ (by assumption) ?_) | (with_reducible refine below_ov ?_ ?_ _ _) | go_size)); done)); (focus ((repeat' (first | (with_reducible refine has_drew ?_) | (with_reducible refine has_drewN ?_) | (with_reducible refine has_new ?_; (first | (with_reducible rfl) | omega | (simp; done) | (simp; omega))) | (with_reducible refine has_ov_same ?_; (first | (with_reducible rfl) | omega | (simp; done) | (simp; omega))) | (with_reducible refine has_alloc ?_) | (with_reducible refine has_ov_other ?_ ?_; (focus (first | (with_reducible rfl) | omega | (simp; done) | (simp; omega)))) | (with_reducible assumption) | (with_reducible exact has_below hB (by assumption)))); done)); rintro u1 ⟨rfl, hB, hz, z0, o0⟩; (try simp only [World.size_alloc, World.size_setCell, World.size_drew, ov_size] at hz))); obtain ⟨hca, hfa, hoa⟩ := bcell3 hB)
    go_ret
    exact ⟨rfl, by (repeat' (first | (with_reducible exact Below.refl _ _) | (with_reducible assumption) | (with_reducible refine below_from_drew ?_) | (with_reducible refine Below.alloc ?_ ?_ _) | (with_reducible refine Below.drew ?_) | (with_reducible refine below_drewN ?_ _) | (with_reducible refine Below.setCell ?_ ?_ _) | (with_reducible refine below_via ?_ (by assumption) ?_) | (with_reducible refine below_ov ?_ ?_ _ _) | go_size))⟩
  · have HIN := Lib.hid (fun u => rin28_any W H (W * H) c a x y u false (decide_eq_false k))
    have hat : atF W H f x y = 0 := by unfold atF; rw [if_neg k]
    rw [hat]
    clear hat k h
    go_enter Try.func69, Try.ntmps69
    go_wp2_with (go_at_call 71; (with_reducible refine (HIN.out _).mono ?_); rintro e w1 ⟨rfl, hb⟩; refine Exists.elim (after1 (w := w) (b0 := w.heap.size) (cs0 := ?_) (T0 := ?_) hb ?_ ?_) ?_; rotate_left 2; (focus ((repeat' (first | (with_reducible exact Below.refl _ _) | (with_reducible assumption) | (with_reducible refine below_from_drew ?_) | (with_reducible refine Below.alloc ?_ ?_ _) | (with_reducible refine Below.drew ?_) | (with_reducible refine below_drewN ?_ _) | (with_reducible refine Below.setCell ?_ ?_ _) | (with_reducible refine below_via ?_ (by assumption) ?_) | (with_reducible refine below_ov ?_ ?_ _ _) | go_size)); done)); (focus ((repeat' (first | (with_reducible refine has_drew ?_) | (with_reducible refine has_drewN ?_) | (with_reducible refine has_new ?_; (first | (with_reducible rfl) | omega | (simp; done) | (simp; omega))) | (with_reducible refine has_ov_same ?_; (first | (with_reducible rfl) | omega | (simp; done) | (simp; omega))) | (with_reducible refine has_alloc ?_) | (with_reducible refine has_ov_other ?_ ?_; (focus (first | (with_reducible rfl) | omega | (simp; done) | (simp; omega)))) | (with_reducible assumption) | (with_reducible exact has_below hB (by assumption)))); done)); rintro u1 ⟨rfl, hB, hz, z0, o0⟩; (try simp only [World.size_alloc, World.size_setCell, World.size_drew, ov_size] at hz))
    go_ret
    exact ⟨rfl, by (repeat' (first | (with_reducible exact Below.refl _ _) | (with_reducible assumption) | (with_reducible refine below_from_drew ?_) | (with_reducible refine Below.alloc ?_ ?_ _) | (with_reducible refine Below.drew ?_) | (with_reducible refine below_drewN ?_ _) | (with_reducible refine Below.setCell ?_ ?_ _) | (with_reducible refine below_via ?_ (by assumption) ?_) | (with_reducible refine below_ov ?_ ?_ _ _) | go_size))⟩
end Go.Proofs.Ytkpamofamcndnaa
namespace Go.Proofs.Ytkpamofamcndnaa
open Go.RowKit Go.Shelf
set_option linter.unusedSimpArgs false
set_option linter.unusedVariables false
-- below_from_drew
attribute [local go_sem] ov_cell_same ov_cell_other ov_frozen_same ov_frozen_other ov_size ov_setCell_same ov_setCell_other cell_alloc_old frozen_alloc_old setCell_alloc_old old_alloc old_ov old_drew old_drewN old_setCell
attribute [local go_sem ↓] run_max2 run_min2 eql_rect eq_nil8
/-- The document's items; its rectangles. -/
def ItemsR (w : World) (a : Option Addr) (l : List ItemZ) : Prop := 0 < l.length → ∃ b off, a = some ⟨b, off, none⟩ ∧ b < w.heap.size ∧ ∀ i, i < l.length → w.cell? ⟨b, off + i * 5, none⟩ = some (.int .i64 (l.getD i item0).r.1) ∧ w.cell? ⟨b, off + i * 5 + 1, none⟩ = some (.int .i64 (l.getD i item0).r.2.1) ∧ w.cell? ⟨b, off + i * 5 + 2, none⟩ = some (.int .i64 (l.getD i item0).r.2.2.1) ∧ w.cell? ⟨b, off + i * 5 + 3, none⟩ = some (.int .i64 (l.getD i item0).r.2.2.2) ∧ w.cell? ⟨b, off + i * 5 + 4, none⟩ = some (.int .i64 (l.getD i item0).c)
theorem ItemsR.below {w w1 : World} {a : Option Addr} {l : List ItemZ} (h : ItemsR w a l) (hb : Below w.heap.size w w1) : ItemsR w1 a l := fun h0 => by
  obtain ⟨b, off, h1, h2, h3⟩ := h h0
  refine ⟨b, off, h1, Nat.lt_of_lt_of_le h2 hb.size, fun i hi => ?_⟩
  have hc : ∀ o, w1.cell? ⟨b, o, none⟩ = w.cell? ⟨b, o, none⟩ := fun o => hb.cell (p := ⟨b, o, none⟩) h2
  rw [hc, hc, hc, hc, hc]
  exact h3 i hi
/-- The colour that items have at a pixel. -/
def colF (l : List ItemZ) (x y : Int) : Int := l.foldl (fun o q => if hasQ q.r x y then q.c else o) 0
theorem colF_take {l : List ItemZ} {k : Nat} (h : k < l.length) (x y : Int) : colF (l.take (k + 1)) x y = if hasQ (l.getD k item0).r x y then (l.getD k item0).c else colF (l.take k) x y := by
  unfold colF
  rw [List.take_succ_eq_append_getElem h, List.foldl_append]
  simp [List.getD_eq_getElem?_getD, h]
theorem rhas_q (q : RectQ) (x y : Int) (w : World) : Calls Try.prog 70 #[rectVal q, .int .i64 x, .int .i64 y] w fun e w' => e = .returned (.bool (hasQ q x y)) ∧ Below w.heap.size w w' := rhas_any _ _ _ _ x y w
set_option maxRecDepth 100000 in
set_option maxHeartbeats 2000000 in
theorem colour_any (a : Option Addr) (n c : Nat) (l : List ItemZ) (x y : Int) (w : World) (hn : l.length = n) (hn2 : n ≤ 1000000) (h : ItemsR w a l) :
    Calls Try.prog 73 #[.slice a n c, .int .i64 x, .int .i64 y] w fun e w' => e = .returned (.int .i64 (colF l x y)) ∧ Below w.heap.size w w' := by
  have HN := Lib.hid hn; have HL := Lib.hid h
  clear hn h
  go_enter Try.func73, Try.ntmps73
  go_wp2_with fail
  go_loopw [7, 8] (fun cv iv wr => ∃ i : Nat, iv = .int .i64 i ∧ i ≤ n ∧ cv = .int .i64 (colF (l.take i) x y) ∧ Below w.heap.size w wr) (fun _ iv _ => n - (intOf iv).toNat)
  case atStart => exact ⟨0, rfl, Nat.zero_le _, rfl, Below.refl _ _⟩
  case round =>
    obtain ⟨i, rfl, hi, rfl, hb⟩ := hrel
    have hzr := hb.size
    have HB := Lib.hid hb
    rcases Nat.lt_or_ge i n with c1 | c1
    · have c2 : (i : Int) < n := by omega
      have c3 : (0 : Int) ≤ i := by omega
      obtain ⟨b, off, rfl, hbl, hc⟩ := (HL.out.below hb) (by rw [HN.out]; omega)
      obtain ⟨k0, k1, k2, k3, k4⟩ := hc i (by rw [HN.out]; omega)
      have hob : Old wr b := hbl
      have HCT := Lib.hid (colF_take (l := l) (k := i) (by rw [HN.out]; omega) x y)
      clear hc hb
      generalize l.getD i item0 = q at *
      obtain ⟨nd, pt, ⟨q0, q1, q2, q3⟩, qc⟩ := q
      simp only at k0 k1 k2 k3 k4
      have HH := Lib.hid (fun u => rhas_q (q0, q1, q2, q3) x y u)
      simp only [rectVal] at HH
      cases hq : hasQ (q0, q1, q2, q3) x y with
      | true =>
        simp only [hq, if_true] at HCT
        rw [hq] at HH
        clear hq
        go_wp2_with (((go_at_call 70; (with_reducible refine (HH.out _).mono ?_); rintro e u1 ⟨rfl, hb⟩; have hz := hb.size; refine (fun hB => ?_ : Below wr.heap.size wr u1 → _) ?_; rotate_left; (focus ((repeat' (first | (with_reducible exact Below.refl _ _) | (with_reducible assumption) | (with_reducible refine below_from_drew ?_) | (with_reducible refine Below.alloc ?_ ?_ _) | (with_reducible refine Below.drew ?_) | (with_reducible refine below_drewN ?_ _) | (with_reducible refine Below.setCell ?_ ?_ _) | (with_reducible refine below_via ?_ (by assumption) ?_) | (with_reducible refine below_ov ?_ ?_ _ _) | go_size)); done)); (try simp only [World.size_alloc, World.size_setCell, World.size_drew, ov_size] at hz))); obtain ⟨hca, hfa, hoa⟩ := bcell3 hB)
        exact ⟨⟨i + 1, by push_cast; rfl, c1, by rw [HCT.out], HB.out.trans (hB.mono hzr)⟩, by simp only [intOf]; omega⟩
      | false =>
        simp only [hq, Bool.false_eq_true, if_false] at HCT
        rw [hq] at HH
        clear hq
        go_wp2_with (((go_at_call 70; (with_reducible refine (HH.out _).mono ?_); rintro e u1 ⟨rfl, hb⟩; have hz := hb.size; refine (fun hB => ?_ : Below wr.heap.size wr u1 → _) ?_; rotate_left; (focus ((repeat' (first | (with_reducible exact Below.refl _ _) | (with_reducible assumption) | (with_reducible refine below_from_drew ?_) | (with_reducible refine Below.alloc ?_ ?_ _) | (with_reducible refine Below.drew ?_) | (with_reducible refine below_drewN ?_ _) | (with_reducible refine Below.setCell ?_ ?_ _) | (with_reducible refine below_via ?_ (by assumption) ?_) | (with_reducible refine below_ov ?_ ?_ _ _) | go_size)); done)); (try simp only [World.size_alloc, World.size_setCell, World.size_drew, ov_size] at hz))); obtain ⟨hca, hfa, hoa⟩ := bcell3 hB)
        exact ⟨⟨i + 1, by push_cast; rfl, c1, by rw [HCT.out], HB.out.trans (hB.mono hzr)⟩, by simp only [intOf]; omega⟩
    · obtain rfl : i = n := by omega
      rw [List.take_of_length_le (by rw [HN.out]; exact Nat.le_refl _)]
      go_wp2_with fail
      go_ret
      exact ⟨rfl, HB.out⟩
/-- A row's first number. -/
@[irreducible] def mulP (y W : Nat) : Nat := y * W
theorem mulP_eq (y W : Nat) : mulP y W = y * W := by unfold mulP; rfl
theorem wrap_mulP {y W : Nat} (h : mulP y W ≤ 1000000) : wrap64 ((y : Int) * (W : Int)) = (mulP y W : Int) := by
  rw [mulP_eq] at h ⊢
  have e : (y : Int) * (W : Int) = ((y * W : Nat) : Int) := by push_cast; rfl
  rw [e]
  exact wrap_small (by omega) (by omega)
/-- A pixel's number, in the program's words. -/
theorem place_nums {W H x y n : Nat} (hx : x < W) (hy : y < H) (hn : W * H = n) (hs : n ≤ 576) : mulP y W ≤ 1000000 ∧ mulP y W + x < n ∧ ((mulP y W : Int) + x < n) ∧ (0 : Int) ≤ (mulP y W : Int) + x := by
  have hlt := place_lt hx hy
  rw [hn, ← mulP_eq] at hlt
  exact ⟨by omega, hlt, by omega, by omega⟩
attribute [local go_sem] wrap_mulP
/-- Pixels written so far. -/
def PicTo (cs : Array Value) (W H k : Nat) (g : Nat → Nat → Int) : Prop := cs.size = W * H ∧ ∀ j i, j < H → i < W → j * W + i < k → cs[j * W + i]? = some (.int .i64 (g j i))
theorem PicTo.step {cs : Array Value} {W H x y : Nat} {g : Nat → Nat → Int} (h : PicTo cs W H (y * W + x) g) (hx : x < W) (hy : y < H) : PicTo (cs.setIfInBounds (y * W + x) (.int .i64 (g y x))) W H (y * W + (x + 1)) g := by
  have hlt := place_lt hx hy
  refine ⟨by rw [Array.size_setIfInBounds]; exact h.1, fun j i hj hi hk => ?_⟩
  rw [Array.getElem?_setIfInBounds]
  by_cases e : y * W + x = j * W + i
  · obtain ⟨rfl, rfl⟩ := place_inj hx hi e
    rw [if_pos rfl, if_pos (by rw [h.1]; exact hlt)]
  · rw [if_neg e]
    exact h.2 j i hj hi (by omega)
theorem PicTo.row {cs : Array Value} {W H y : Nat} {g : Nat → Nat → Int} (h : PicTo cs W H (y * W + W) g) : PicTo cs W H ((y + 1) * W + 0) g := by
  rw [Nat.add_mul, Nat.one_mul, Nat.add_zero]; exact h
theorem PicTo.done {w : World} {b : Nat} {cs : Array Value} {W H : Nat} {g : Nat → Nat → Int} (h : PicTo cs W H (H * W + 0) g) (hb : Has w b cs 3) : PicT w (some ⟨b, 0, none⟩) W H g := fun _ =>
  ⟨b, cs, rfl, hb, fun y x hy hx => h.2 y x hy hx (by have := place_lt hx hy; rw [Nat.mul_comm H W]; omega)⟩
def partsF (P : List RectQ) (l : List ItemZ) (f : Nat → Nat → Int) : Nat → Nat → Int := fun y x => if P.any (fun q => hasQ q x y) then colF l x y else f y x
theorem any_take {P : List RectQ} {k : Nat} (h : k < P.length) (x y : Int) : (P.take (k + 1)).any (fun q => hasQ q x y) = ((P.take k).any (fun q => hasQ q x y) || hasQ (P.getD k q0Z) x y) := by
  rw [List.take_succ_eq_append_getElem h, List.any_append]
  simp [List.getD_eq_getElem?_getD, h]
/-- Where the loops of Paint stand. -/
def RPO (w X : World) (b W H : Nat) (g : Nat → Nat → Int) (yv : Value) (wr : World) : Prop :=
  ∃ (y : Nat) (cs : Array Value), yv = .int .i64 y ∧ y ≤ H ∧ Has wr b cs 3 ∧ PicTo cs W H (y * W + 0) g ∧ But b X.heap.size X wr ∧ Below w.heap.size w wr
def RPI (w X : World) (b W H y : Nat) (g : Nat → Nat → Int) (xv : Value) (wr : World) : Prop :=
  ∃ (x : Nat) (cs : Array Value), xv = .int .i64 x ∧ x ≤ W ∧ Has wr b cs 3 ∧ PicTo cs W H (y * W + x) g ∧ But b X.heap.size X wr ∧ Below w.heap.size w wr
set_option maxRecDepth 100000 in
set_option maxHeartbeats 4000000 in
theorem rpaint28_any (W H c : Nat) (a a1 a2 : Option Addr) (n1 c1 n2 c2 : Nat) (f : Nat → Nat → Int) (l : List ItemZ) (P : List RectQ) (w : World) (hW : W ≤ 24) (hH : H ≤ 24) (h : PicT w a W H f) (hl : l.length = n1) (hn1 : n1 ≤ 1000000) (hil : ItemsR w a1 l) (hp : P.length = n2) (hn2 : n2 ≤ 1000000) (hpl : RectsAt w a2 P) :
    Calls Try.prog 44 #[.agg #[.int .i64 W, .int .i64 H, .slice a (W * H) c], .slice a1 n1 c1, .slice a2 n2 c2] w fun e w' => ∃ al ca, e = .returned (.agg #[.int .i64 W, .int .i64 H, .slice al (W * H) ca]) ∧ PicT w' al W H (partsF P l f) ∧ Below w.heap.size w w' := by
  have HA := Lib.hid (fun u (hb : Below w.heap.size w u) x y => rat28_any W H c a f x y u hW hH (h.below hb))
  have HCO := Lib.hid (fun u (hb : Below w.heap.size w u) x y => colour_any a1 n1 c1 l x y u hl hn1 (hil.below hb))
  have HP := Lib.hid hp; have HPL := Lib.hid hpl
  have HNW := Lib.hid (fun u => rnew28_any W H u hW hH)
  have hsm := place_small hW hH
  have hnn : ∃ n, W * H = n := ⟨_, rfl⟩
  obtain ⟨n, hn⟩ := hnn
  rw [hn] at HA HNW hsm ⊢
  have HNN := Lib.hid hn
  clear h hl hil hp hpl hn
  go_enter Try.func44, Try.ntmps44
  go_wp2_with ((go_at_call 38); (with_reducible refine (HNW.out _).mono ?_); rintro e u1 ⟨b, cs, ⟨rfl, hbs, hbn, hsz, hcs⟩, hb⟩)
  refine name_world (f := Code.wp _ _ _ _) (fun X hX => ?_)
  obtain ⟨p3, hp3⟩ : ∃ k, w.heap.size = k := ⟨_, rfl⟩
  obtain ⟨p7, hp7⟩ : ∃ k, u1.heap.size = k := ⟨_, rfl⟩
  have hzu : w.heap.size + 2 ≤ u1.heap.size := by have := hb.size; simp at this; omega
  have hbW : Below w.heap.size w X := by rw [hX]; (repeat' (first | (with_reducible exact Below.refl _ _) | (with_reducible assumption) | (with_reducible refine below_from_drew ?_) | (with_reducible refine Below.alloc ?_ ?_ _) | (with_reducible refine Below.drew ?_) | (with_reducible refine below_drewN ?_ _) | (with_reducible refine Below.setCell ?_ ?_ _) | (with_reducible refine below_via ?_ (by assumption) ?_) | (with_reducible refine below_ov ?_ ?_ _ _) | go_size))
  clear hzu
  have h3 : Has u1 w.heap.size #[.int .i64 W, .int .i64 H, .slice a n c] 73 := has_below hb (by (repeat' (first | (with_reducible refine has_drew ?_) | (with_reducible refine has_drewN ?_) | (with_reducible refine has_new ?_; (first | (with_reducible rfl) | omega | (simp; done) | (simp; omega))) | (with_reducible refine has_ov_same ?_; (first | (with_reducible rfl) | omega | (simp; done) | (simp; omega))) | (with_reducible refine has_alloc ?_) | (with_reducible refine has_ov_other ?_ ?_; (focus (first | (with_reducible rfl) | omega | (simp; done) | (simp; omega)))) | (with_reducible assumption) | (with_reducible exact has_below hB (by assumption)))))
  have h6 : Has u1 (w.heap.size + 1) #[.int .i64 0, .int .i64 0, .slice none 0 0] 73 := has_below hb (has_new (by simp))
  have hx3 := has_alloc (o := .cells #[.int .i64 W, .int .i64 H, .slice (some ⟨b, 0, none⟩) n n] 73) h3
  have hx6 := has_alloc (o := .cells #[.int .i64 W, .int .i64 H, .slice (some ⟨b, 0, none⟩) n n] 73) h6
  have hxb := has_alloc (o := .cells #[.int .i64 W, .int .i64 H, .slice (some ⟨b, 0, none⟩) n n] 73) hbs
  have hx7 : Has X p7 #[.int .i64 W, .int .i64 H, .slice (some ⟨b, 0, none⟩) n n] 73 := by rw [hX, ← hp7]; exact has_new rfl
  rw [← hX] at hx3 hx6 hxb
  have hbw : w.heap.size ≤ b := by simp at hbn; omega
  have HBW := Lib.hid hbW; have HX3 := Lib.hid hx3; have HX6 := Lib.hid hx6; have HX7 := Lib.hid hx7; have HXB := Lib.hid hxb; have HBB := Lib.hid hbw
  rw [hp3, hp7]
  rw [hp3] at HX3 HX6
  have n3 : p3 ≠ b := fun e => absurd (has_type (e ▸ HX3.out) hxb) (by decide)
  have n6 : p3 + 1 ≠ b := fun e => absurd (has_type (e ▸ HX6.out) hxb) (by decide)
  have n7 : p7 ≠ b := fun e => absurd (has_type (e ▸ HX7.out) hxb) (by decide)
  have N3 := Lib.hid n3; have N6 := Lib.hid n6; have N7 := Lib.hid n7
  have h0 : RPO w X b W H (partsF P l f) (.int .i64 0) X := ⟨0, cs, rfl, Nat.zero_le _, hxb, ⟨by rw [hsz]; exact HNN.out.symm, fun j i _ _ hk => by omega⟩, But.refl _ _ _, hbW⟩
  have H0 := Lib.hid h0
  have hzX : w.heap.size ≤ X.heap.size := hbW.size
  clear h0 hX h3 h6 hx3 hx6 hx7 hxb hbs hbn hsz hcs hb hbW hp7 hbw n3 n6 n7
  go_loopw [8] (fun yv wr => RPO w X b W H (partsF P l f) yv wr) (fun yv _ => H - (intOf yv).toNat)
  case atStart => exact H0.out
  case round =>
    clear H0
    unfold RPO at hrel
    obtain ⟨y, cs, rfl, hy, hbs, hto, hbut, hbw⟩ := hrel
    have q3 := hbut.has HX3.out N3.out
    have e3 := q3.cells; have l3 := q3.lt; have o3 : Old wr p3 := l3
    have HBS := Lib.hid hbs; have HTO := Lib.hid hto; have HBU := Lib.hid hbut; have HBE := Lib.hid hbw
    clear hbs hto hbut hbw q3
    rcases Nat.lt_or_ge y H with c3 | c3
    · have c4 : (y : Int) < H := by omega
      have h0 : RPI w X b W H y (partsF P l f) (.int .i64 0) wr := ⟨0, cs, rfl, Nat.zero_le _, HBS.out, HTO.out, HBU.out, HBE.out⟩
      have H0 := Lib.hid h0
      clear h0
      go_wp2_with fail
      clear e3 l3 o3 HBS HTO HBU HBE
      go_loopw [9] (fun xv wr => RPI w X b W H y (partsF P l f) xv wr) (fun xv _ => W - (intOf xv).toNat)
      case atStart => exact H0.out
      case round =>
        clear H0
        unfold RPI at hrel
        obtain ⟨x, cs, rfl, hx, hbs, hto, hbut, hbw⟩ := hrel
        have q3 := hbut.has HX3.out N3.out
        have e3 := q3.cells; have l3 := q3.lt; have o3 : Old wr p3 := l3
        have HQ3 := Lib.hid q3; have HQ7 := Lib.hid (hbut.has HX7.out N7.out)
        have HBS := Lib.hid hbs; have HTO := Lib.hid hto; have HBU := Lib.hid hbut; have HBE := Lib.hid hbw
        have hzr : w.heap.size ≤ wr.heap.size := hbw.size
        clear hbs hto hbut hbw q3
        rcases Nat.lt_or_ge x W with d1 | d1
        · have d2 : (x : Int) < W := by omega
          obtain ⟨V, rfl⟩ : ∃ V : World, V = wr := ⟨_, rfl⟩
          go_wp2_with (go_at_call 69; (with_reducible refine (HA.out _ HBE.out _ _).mono ?_); rintro e u2 ⟨rfl, hb⟩; have hz := hb.size; refine (fun hB => ?_ : Below V.heap.size V u2 → _) ?_; rotate_left; (focus ((repeat' (first | (with_reducible exact Below.refl _ _) | (with_reducible assumption) | (with_reducible refine below_from_drew ?_) | (with_reducible refine Below.alloc ?_ ?_ _) | (with_reducible refine Below.drew ?_) | (with_reducible refine below_drewN ?_ _) | (with_reducible refine Below.setCell ?_ ?_ _) | (with_reducible refine below_via ?_ (by assumption) ?_) | (with_reducible refine below_ov ?_ ?_ _ _) | go_size)); done)); (try simp only [World.size_alloc, World.size_setCell, World.size_drew, ov_size] at hz))
          have hat : atF W H f (x : Int) (y : Int) = f y x := by unfold atF; rw [if_pos (by omega)]; rfl
          rw [hat]
          have hb2 := HBE.out.trans (hB.mono hzr)
          have hQ3 := has_below hB HQ3.out; have hQ7 := has_below hB HQ7.out
          have hBS := has_below hB HBS.out
          have HBS := Lib.hid hBS; have HQ3 := Lib.hid hQ3; have HQ7 := Lib.hid hQ7; have HBE2 := Lib.hid hb2; have HBU := Lib.hid (HBU.out.then hB HBU.out.size)
          have hz2 : w.heap.size ≤ u2.heap.size := hb2.size
          clear hat hb2 hQ3 hQ7 hBS hb hB hz e3 l3 o3
          have h0 : ∃ i : Nat, Value.int .i64 0 = .int .i64 i ∧ i ≤ n2 ∧ Value.int .i64 (f y x) = .int .i64 (partsF (P.take i) l f y x) ∧ Below u2.heap.size u2 u2 := ⟨0, rfl, Nat.zero_le _, rfl, Below.refl _ _⟩
          have H0 := Lib.hid h0
          clear h0
          go_wp2_with fail
          go_loopw [10, 11] (fun cv iv wr => ∃ i : Nat, iv = .int .i64 i ∧ i ≤ n2 ∧ cv = .int .i64 (partsF (P.take i) l f y x) ∧ Below u2.heap.size u2 wr) (fun _ iv _ => n2 - (intOf iv).toNat)
          case atStart => exact H0.out
          case round =>
            clear H0
            obtain ⟨i, rfl, hi, rfl, hbe⟩ := hrel
            have hzq := hbe.size
            have HB := Lib.hid hbe
            rcases Nat.lt_or_ge i n2 with f1 | f1
            · have f2 : (i : Int) < n2 := by omega
              have f3 : (0 : Int) ≤ i := by omega
              obtain ⟨bp, offp, rfl, hbp, hcp⟩ := (HPL.out.below (HBE2.out.trans (hbe.mono hz2))) (by rw [HP.out]; omega)
              obtain ⟨k0, k1, k2, k3⟩ := hcp i (by rw [HP.out]; omega)
              have hop : Old wr bp := hbp
              have HTK := Lib.hid (any_take (P := P) (k := i) (by rw [HP.out]; omega) x y)
              have hbw2 := HBE2.out.trans (hbe.mono hz2)
              have HBW2 := Lib.hid hbw2
              have hzw2 : w.heap.size ≤ wr.heap.size := hbw2.size
              clear hcp hbe hbw2
              generalize P.getD i q0Z = q at *
              obtain ⟨q0, q1, q2, q3⟩ := q
              simp only at k0 k1 k2 k3
              have HH := Lib.hid (fun u => rhas_q (q0, q1, q2, q3) x y u)
              simp only [rectVal] at HH
              cases hq : hasQ (q0, q1, q2, q3) (x : Int) (y : Int) with
              | true =>
                rw [hq] at HH HTK
                clear hq
                go_wp2_with (first | (go_at_call 70; (with_reducible refine (HH.out _).mono ?_); rintro e u3 ⟨rfl, hb⟩; have hz := hb.size; refine (fun hB => ?_ : Below wr.heap.size wr u3 → _) ?_; rotate_left; (focus ((repeat' (first | (with_reducible exact Below.refl _ _) | (with_reducible assumption) | (with_reducible refine below_from_drew ?_) | (with_reducible refine Below.alloc ?_ ?_ _) | (with_reducible refine Below.drew ?_) | (with_reducible refine below_drewN ?_ _) | (with_reducible refine Below.setCell ?_ ?_ _) | (with_reducible refine below_via ?_ (by assumption) ?_) | (with_reducible refine below_ov ?_ ?_ _ _) | go_size)); done)); (try simp only [World.size_alloc, World.size_setCell, World.size_drew, ov_size] at hz)) | (go_at_call 73; (with_reducible refine (HCO.out _ (HBW2.out.trans (Below.mono (by (repeat' (first | (with_reducible exact Below.refl _ _) | (with_reducible assumption) | (with_reducible refine below_from_drew ?_) | (with_reducible refine Below.alloc ?_ ?_ _) | (with_reducible refine Below.drew ?_) | (with_reducible refine below_drewN ?_ _) | (with_reducible refine Below.setCell ?_ ?_ _) | (with_reducible refine below_via ?_ (by assumption) ?_) | (with_reducible refine below_ov ?_ ?_ _ _) | go_size))) hzw2)) _ _).mono ?_); rintro e u4 ⟨rfl, hb⟩; have hz := hb.size; refine (fun hB => ?_ : Below wr.heap.size wr u4 → _) ?_; rotate_left; (focus ((repeat' (first | (with_reducible exact Below.refl _ _) | (with_reducible assumption) | (with_reducible refine below_from_drew ?_) | (with_reducible refine Below.alloc ?_ ?_ _) | (with_reducible refine Below.drew ?_) | (with_reducible refine below_drewN ?_ _) | (with_reducible refine Below.setCell ?_ ?_ _) | (with_reducible refine below_via ?_ (by assumption) ?_) | (with_reducible refine below_ov ?_ ?_ _ _) | go_size)); done)); (try simp only [World.size_alloc, World.size_setCell, World.size_drew, ov_size] at hz)))
                exact ⟨⟨i + 1, by push_cast; rfl, f1, by unfold partsF; rw [HTK.out, Bool.or_true]; rfl, HB.out.trans (hB.mono hzq)⟩, by simp only [intOf]; omega⟩
              | false =>
                rw [hq] at HH HTK
                clear hq
                go_wp2_with (go_at_call 70; (with_reducible refine (HH.out _).mono ?_); rintro e u3 ⟨rfl, hb⟩; have hz := hb.size; refine (fun hB => ?_ : Below wr.heap.size wr u3 → _) ?_; rotate_left; (focus ((repeat' (first | (with_reducible exact Below.refl _ _) | (with_reducible assumption) | (with_reducible refine below_from_drew ?_) | (with_reducible refine Below.alloc ?_ ?_ _) | (with_reducible refine Below.drew ?_) | (with_reducible refine below_drewN ?_ _) | (with_reducible refine Below.setCell ?_ ?_ _) | (with_reducible refine below_via ?_ (by assumption) ?_) | (with_reducible refine below_ov ?_ ?_ _ _) | go_size)); done)); (try simp only [World.size_alloc, World.size_setCell, World.size_drew, ov_size] at hz))
                exact ⟨⟨i + 1, by push_cast; rfl, f1, by unfold partsF; rw [HTK.out, Bool.or_false], HB.out.trans (hB.mono hzq)⟩, by simp only [intOf]; omega⟩
            · obtain rfl : i = n2 := by omega
              rw [List.take_of_length_le (by rw [HP.out]; exact Nat.le_refl _)]
              obtain ⟨g0, gn, g1, g2⟩ := place_nums d1 c3 HNN.out hsm
              obtain ⟨q, hqq⟩ : ∃ q, mulP y W + x = q := ⟨_, rfl⟩
              have hq : y * W + x = q := by rw [← mulP_eq]; exact hqq
              have HQE := Lib.hid hqq
              have hS := has_below hbe HBS.out
              have hq3 := has_below hbe HQ3.out; have hq7 := has_below hbe HQ7.out
              have e3 := hq3.cells; have l3 := hq3.lt; have o3 : Old wr p3 := l3
              have e7 := hq7.cells; have l7 := hq7.lt; have o7 : Old wr p7 := l7
              have es : wr.cell? ⟨b, mulP y W + x, none⟩ = _ := hS.cells (mulP y W + x)
              have hbig : b < wr.heap.size := hS.lt
              have hfz := hS.frozen (mulP y W + x)
              have hcsz : mulP y W + x < cs.size := by rw [HTO.out.1, HNN.out]; exact gn
              obtain ⟨v0, es2⟩ : ∃ v, wr.cell? ⟨b, mulP y W + x, none⟩ = some v := ⟨_, es.trans (Array.getElem?_eq_getElem hcsz)⟩
              have hold : Old wr b := hbig
              have HS := Lib.hid hS; have HBE3 := Lib.hid hbe
              have hz3 := hbe.size
              clear hS hq hqq es hbe hcsz hq3 hq7
              go_wp2_with fail
              have hw : wr.setCell ⟨b, mulP y W + x, none⟩ (.int .i64 (partsF P l f y x)) = ov wr b (cs.setIfInBounds (mulP y W + x) (.int .i64 (partsF P l f y x))) 3 := by
                have k1 : ov wr b cs 3 = wr := ov_self HS.out
                have k2 : (ov wr b cs 3).setCell ⟨b, mulP y W + x, none⟩ (.int .i64 (partsF P l f y x)) = ov wr b (cs.setIfInBounds (mulP y W + x) (.int .i64 (partsF P l f y x))) 3 := ov_setCell_same
                rw [k1] at k2
                exact k2
              rw [hw]
              refine ⟨⟨x + 1, cs.setIfInBounds (mulP y W + x) (.int .i64 (partsF P l f y x)), by push_cast; rfl, by omega, has_ov_same HS.out.lt, ?_, (HBU.out.then HBE3.out HBU.out.size).ovs _ _, below_ov (HBE2.out.trans (HBE3.out.mono hz2)) HBB.out _ _⟩, by simp only [intOf]; omega⟩
              rw [mulP_eq]; exact HTO.out.step d1 c3
        · obtain rfl : x = W := by omega
          go_wp2_with fail
          exact ⟨⟨y + 1, cs, by push_cast; rfl, c3, HBS.out, HTO.out.row, HBU.out, HBE.out⟩, by simp only [intOf]; omega⟩
    · obtain rfl : y = H := by omega
      have q6 := HBU.out.has HX6.out N6.out
      have q7 := HBU.out.has HX7.out N7.out
      have e7 := q7.cells; have l7 := q7.lt; have o7 : Old wr p7 := l7
      have e6 := q6.cells; have l6 := q6.lt; have o6 : Old wr (p3 + 1) := l6
      have n76 : p3 + 1 ≠ p7 := by
        intro e
        have := has_fun (e ▸ HX6.out) HX7.out
        simp at this
      have n67 : ¬ p7 = p3 + 1 := fun e => n76 e.symm
      have HQ6 := Lib.hid q6
      clear q6 q7
      rw [← ov_self HQ6.out]
      go_wp2_with fail
      refine bodyPost_ret (by simp [results, Try.results44, go_sem, l6, o6]; try rfl) rfl ?_
      have nb6 : b ≠ p3 + 1 := fun e => N6.out e.symm
      have hbb : Has (ov wr (p3 + 1) #[.int .i64 W, .int .i64 y, .slice (some ⟨b, 0, none⟩) n n] 73) b cs 3 := has_ov_other nb6 HBS.out
      refine ⟨_, _, rfl, HTO.out.done hbb, below_ov HBE.out (by omega) _ _⟩
end Go.Proofs.Ytkpamofamcndnaa
namespace Go.Proofs.Ytkpamofamcndnaa
open Go.RowKit Go.Shelf
set_option linter.unusedSimpArgs false
set_option linter.unusedVariables false
-- below_from_drew
attribute [local go_sem] ov_cell_same ov_cell_other ov_frozen_same ov_frozen_other ov_size ov_setCell_same ov_setCell_other cell_alloc_old frozen_alloc_old setCell_alloc_old old_alloc old_ov old_drew old_drewN old_setCell
attribute [local go_sem ↓] run_max2 run_min2 eql_rect eq_nil8
attribute [local go_sem] wrap_mulP
theorem rpi_step {w X V u : World} {b W H y x : Nat} {cs : Array Value} {G : Nat → Nat → Int} (hS : Has V b cs 3) (hB : Below V.heap.size V u) (hto : PicTo cs W H (y * W + x) G) (hbut : But b X.heap.size X V) (hbe : Below w.heap.size w V) (hbw : w.heap.size ≤ b) (d1 : x < W) (c3 : y < H) (v : Int) (hv : G y x = v) :
    RPI w X b W H y G (.int .i64 ((x : Int) + 1)) (u.setCell ⟨b, mulP y W + x, none⟩ (.int .i64 v)) := by
  subst hv
  have hSu := has_below hB hS
  have hw : u.setCell ⟨b, mulP y W + x, none⟩ (.int .i64 (G y x)) = ov u b (cs.setIfInBounds (mulP y W + x) (.int .i64 (G y x))) 3 := by
    have k1 : ov u b cs 3 = u := ov_self hSu
    have k2 : (ov u b cs 3).setCell ⟨b, mulP y W + x, none⟩ (.int .i64 (G y x)) = ov u b (cs.setIfInBounds (mulP y W + x) (.int .i64 (G y x))) 3 := ov_setCell_same
    rw [k1] at k2
    exact k2
  rw [hw]
  refine ⟨x + 1, _, by push_cast; rfl, d1, has_ov_same hSu.lt, ?_, (hbut.then hB hbut.size).ovs _ _, below_ov (hbe.trans (hB.mono hbe.size)) hbw _ _⟩
  rw [mulP_eq]; exact hto.step d1 c3
/-- The document's move. -/
def rmoveF (W H : Nat) (q : RectQ) (dx dy : Int) (f : Nat → Nat → Int) : Nat → Nat → Int := fun y x => if (hasQ q x y && (hasQ q ((x : Int) - dx) ((y : Int) - dy) && decide (0 ≤ (x : Int) - dx ∧ (x : Int) - dx < W ∧ 0 ≤ (y : Int) - dy ∧ (y : Int) - dy < H))) = true then atF W H f ((x : Int) - dx) ((y : Int) - dy) else f y x
set_option maxRecDepth 100000 in
set_option maxHeartbeats 8000000 in
theorem rmove28_any (W H c : Nat) (a : Option Addr) (q : RectQ) (dx dy : Int) (f : Nat → Nat → Int) (w : World) (hW : W ≤ 24) (hH : H ≤ 24) (h : PicT w a W H f) (hdx : -1000 ≤ dx ∧ dx ≤ 1000) (hdy : -1000 ≤ dy ∧ dy ≤ 1000) :
    Calls Try.prog 42 #[.agg #[.int .i64 W, .int .i64 H, .slice a (W * H) c], rectVal q, .int .i64 dx, .int .i64 dy] w fun e w' => ∃ al ca, e = .returned (.agg #[.int .i64 W, .int .i64 H, .slice al (W * H) ca]) ∧ PicT w' al W H (rmoveF W H q dx dy f) ∧ Below w.heap.size w w' := by
  have HA := Lib.hid (fun u (hb : Below w.heap.size w u) x y => rat28_any W H c a f x y u hW hH (h.below hb))
  have HNW := Lib.hid (fun u => rnew28_any W H u hW hH)
  have hsm := place_small hW hH
  have hnn : ∃ n, W * H = n := ⟨_, rfl⟩
  obtain ⟨n, hn⟩ := hnn
  rw [hn] at HA HNW hsm ⊢
  have HNN := Lib.hid hn
  have HHS := Lib.hid (fun u x y b (hb : hasQ q x y = b) => hb ▸ rhas_q q x y u)
  have HIN := Lib.hid (fun u x y b hb => rin28_any W H n c a x y u b hb)
  obtain ⟨G, hG⟩ : ∃ G, rmoveF W H q dx dy f = G := ⟨_, rfl⟩
  have HG := Lib.hid (fun (y x : Nat) => (congrFun (congrFun hG y) x).symm)
  rw [hG]
  obtain ⟨q0, q1, q2, q3⟩ := q
  simp only [rectVal] at HHS ⊢
  obtain ⟨k1, k2⟩ := hdx
  obtain ⟨k3, k4⟩ := hdy
  clear h hn hG
  go_enter Try.func42, Try.ntmps42
  go_wp2_with ((go_at_call 38); (with_reducible refine (HNW.out _).mono ?_); rintro e u1 ⟨b, cs, ⟨rfl, hbs, hbn, hsz, hcs⟩, hb⟩)
  refine name_world (f := Code.wp _ _ _ _) (fun X hX => ?_)
  obtain ⟨p3, hp3⟩ : ∃ k, w.heap.size = k := ⟨_, rfl⟩
  obtain ⟨p7, hp7⟩ : ∃ k, u1.heap.size = k := ⟨_, rfl⟩
  have hzu : w.heap.size + 3 ≤ u1.heap.size := by have := hb.size; simp at this; omega
  have hbW : Below w.heap.size w X := by rw [hX]; (repeat' (first | (with_reducible exact Below.refl _ _) | (with_reducible assumption) | (with_reducible refine below_from_drew ?_) | (with_reducible refine Below.alloc ?_ ?_ _) | (with_reducible refine Below.drew ?_) | (with_reducible refine below_drewN ?_ _) | (with_reducible refine Below.setCell ?_ ?_ _) | (with_reducible refine below_via ?_ (by assumption) ?_) | (with_reducible refine below_ov ?_ ?_ _ _) | go_size))
  clear hzu
  have h3 : Has u1 w.heap.size #[.int .i64 W, .int .i64 H, .slice a n c] 73 := has_below hb (by (repeat' (first | (with_reducible refine has_drew ?_) | (with_reducible refine has_drewN ?_) | (with_reducible refine has_new ?_; (first | (with_reducible rfl) | omega | (simp; done) | (simp; omega))) | (with_reducible refine has_ov_same ?_; (first | (with_reducible rfl) | omega | (simp; done) | (simp; omega))) | (with_reducible refine has_alloc ?_) | (with_reducible refine has_ov_other ?_ ?_; (focus (first | (with_reducible rfl) | omega | (simp; done) | (simp; omega)))) | (with_reducible assumption) | (with_reducible exact has_below hB (by assumption)))))
  have h5 : Has u1 (w.heap.size + 1) #[.int .i64 q0, .int .i64 q1, .int .i64 q2, .int .i64 q3] 82 := has_below hb (by (repeat' (first | (with_reducible refine has_drew ?_) | (with_reducible refine has_drewN ?_) | (with_reducible refine has_new ?_; (first | (with_reducible rfl) | omega | (simp; done) | (simp; omega))) | (with_reducible refine has_ov_same ?_; (first | (with_reducible rfl) | omega | (simp; done) | (simp; omega))) | (with_reducible refine has_alloc ?_) | (with_reducible refine has_ov_other ?_ ?_; (focus (first | (with_reducible rfl) | omega | (simp; done) | (simp; omega)))) | (with_reducible assumption) | (with_reducible exact has_below hB (by assumption)))))
  have h6 : Has u1 (w.heap.size + 2) #[.int .i64 0, .int .i64 0, .slice none 0 0] 73 := has_below hb (has_new (by simp))
  have hx3 := has_alloc (o := .cells #[.int .i64 W, .int .i64 H, .slice (some ⟨b, 0, none⟩) n n] 73) h3
  have hx5 := has_alloc (o := .cells #[.int .i64 W, .int .i64 H, .slice (some ⟨b, 0, none⟩) n n] 73) h5
  have hx6 := has_alloc (o := .cells #[.int .i64 W, .int .i64 H, .slice (some ⟨b, 0, none⟩) n n] 73) h6
  have hxb := has_alloc (o := .cells #[.int .i64 W, .int .i64 H, .slice (some ⟨b, 0, none⟩) n n] 73) hbs
  have hx7 : Has X p7 #[.int .i64 W, .int .i64 H, .slice (some ⟨b, 0, none⟩) n n] 73 := by rw [hX, ← hp7]; exact has_new rfl
  rw [← hX] at hx3 hx5 hx6 hxb
  have hbw : w.heap.size ≤ b := by simp at hbn; omega
  have HBW := Lib.hid hbW; have HX3 := Lib.hid hx3; have HX5 := Lib.hid hx5; have HX6 := Lib.hid hx6; have HX7 := Lib.hid hx7; have HXB := Lib.hid hxb; have HBB := Lib.hid hbw
  rw [hp3, hp7]
  rw [hp3] at HX3 HX5 HX6
  have n3 : p3 ≠ b := fun e => absurd (has_type (e ▸ HX3.out) hxb) (by decide)
  have n5 : p3 + 1 ≠ b := fun e => absurd (has_type (e ▸ HX5.out) hxb) (by decide)
  have n6 : p3 + 2 ≠ b := fun e => absurd (has_type (e ▸ HX6.out) hxb) (by decide)
  have n7 : p7 ≠ b := fun e => absurd (has_type (e ▸ HX7.out) hxb) (by decide)
  have N3 := Lib.hid n3; have N5 := Lib.hid n5; have N6 := Lib.hid n6; have N7 := Lib.hid n7
  have h0 : RPO w X b W H G (.int .i64 0) X := ⟨0, cs, rfl, Nat.zero_le _, hxb, ⟨by rw [hsz]; exact HNN.out.symm, fun j i _ _ hk => by omega⟩, But.refl _ _ _, hbW⟩
  have H0 := Lib.hid h0
  have hzX : w.heap.size ≤ X.heap.size := hbW.size
  clear h0 hX h3 h5 h6 hx3 hx5 hx6 hx7 hxb hbs hbn hsz hcs hb hbW hp7 hbw n3 n5 n6 n7
  go_loopw [10] (fun yv wr => RPO w X b W H G yv wr) (fun yv _ => H - (intOf yv).toNat)
  case atStart => exact H0.out
  case round =>
    clear H0
    unfold RPO at hrel
    obtain ⟨y, cs, rfl, hy, hbs, hto, hbut, hbw⟩ := hrel
    have q3 := hbut.has HX3.out N3.out
    have e3 := q3.cells; have l3 := q3.lt; have o3 : Old wr p3 := l3
    have HBS := Lib.hid hbs; have HTO := Lib.hid hto; have HBU := Lib.hid hbut; have HBE := Lib.hid hbw
    clear hbs hto hbut hbw q3
    rcases Nat.lt_or_ge y H with c3 | c3
    · have c4 : (y : Int) < H := by omega
      have h0 : RPI w X b W H y G (.int .i64 0) wr := ⟨0, cs, rfl, Nat.zero_le _, HBS.out, HTO.out, HBU.out, HBE.out⟩
      have H0 := Lib.hid h0
      clear h0
      go_wp2_with fail
      clear e3 l3 o3 HBS HTO HBU HBE
      go_loopw [11] (fun xv wr => RPI w X b W H y G xv wr) (fun xv _ => W - (intOf xv).toNat)
      case atStart => exact H0.out
      case round =>
        clear H0
        unfold RPI at hrel
        obtain ⟨x, cs, rfl, hx, hbs, hto, hbut, hbw⟩ := hrel
        have q3 := hbut.has HX3.out N3.out
        have e3 := q3.cells; have l3 := q3.lt; have o3 : Old wr p3 := l3
        have HBS := Lib.hid hbs; have HTO := Lib.hid hto; have HBU := Lib.hid hbut; have HBE := Lib.hid hbw
        have hzr : w.heap.size ≤ wr.heap.size := hbw.size
        rcases Nat.lt_or_ge x W with d1 | d1
        · have d2 : (x : Int) < W := by omega
          have q5 := hbut.has HX5.out N5.out; have q7 := hbut.has HX7.out N7.out
          have e5 := q5.cells; have l5 := q5.lt; have o5 : Old wr (p3 + 1) := l5
          have e7 := q7.cells; have l7 := q7.lt; have o7 : Old wr p7 := l7
          obtain ⟨g0, gn, g1, g2⟩ := place_nums d1 c3 HNN.out hsm
          have es : wr.cell? ⟨b, mulP y W + x, none⟩ = _ := hbs.cells (mulP y W + x)
          have hcsz : mulP y W + x < cs.size := by rw [HTO.out.1, HNN.out]; exact gn
          obtain ⟨v0, es2⟩ : ∃ v, wr.cell? ⟨b, mulP y W + x, none⟩ = some v := ⟨_, es.trans (Array.getElem?_eq_getElem hcsz)⟩
          have hbig : b < wr.heap.size := hbs.lt
          have hfz := hbs.frozen (mulP y W + x)
          have hold : Old wr b := hbig
          clear hbs hto hbut hbw q3 q5 q7 es hcsz
          obtain ⟨V, rfl⟩ : ∃ V : World, V = wr := ⟨_, rfl⟩
          have HGV := Lib.hid (HG.out y x)
          obtain ⟨sx, hsx⟩ : ∃ s, (x : Int) - dx = s := ⟨_, rfl⟩
          obtain ⟨sy, hsy⟩ : ∃ s, (y : Int) - dy = s := ⟨_, rfl⟩
          have b1 : -2000 ≤ sx ∧ sx ≤ 2000 := by omega
          have b2 : -2000 ≤ sy ∧ sy ≤ 2000 := by omega
          have m1 : wrap64 sx = sx := by unfold wrap64; omega
          have m2 : wrap64 sy = sy := by unfold wrap64; omega
          have hat : atF W H f (x : Int) (y : Int) = f y x := by unfold atF; rw [if_pos (by omega)]; rfl
          have HAT := Lib.hid (fun u hb => HA.out u hb x y)
          rw [hat] at HAT
          have HG2 := HGV.out
          unfold rmoveF at HG2
          rw [hsx, hsy] at HG2
          obtain ⟨t1, ht1⟩ : ∃ t, hasQ (q0, q1, q2, q3) (x : Int) (y : Int) = t := ⟨_, rfl⟩
          obtain ⟨t2, ht2⟩ : ∃ t, hasQ (q0, q1, q2, q3) sx sy = t := ⟨_, rfl⟩
          obtain ⟨t3, ht3⟩ : ∃ t, decide (0 ≤ sx ∧ sx < W ∧ 0 ≤ sy ∧ sy < H) = t := ⟨_, rfl⟩
          rw [ht1, ht2, ht3] at HG2
          have C1 := Lib.hid (fun u => HHS.out u x y t1 ht1)
          have C2 := Lib.hid (fun u => HHS.out u sx sy t2 ht2)
          have C3 := Lib.hid (fun u => HIN.out u sx sy t3 ht3)
          have HG3 := Lib.hid HG2
          have HSX := Lib.hid hsx
          have HFZ := Lib.hid hfz
          clear hat HGV HG2 ht1 ht2 ht3 HHS HIN
          have ht : t1 = false ∨ (t1 = true ∧ t2 = false) ∨ (t1 = true ∧ t2 = true ∧ t3 = false) ∨ (t1 = true ∧ t2 = true ∧ t3 = true) := by cases t1 <;> cases t2 <;> cases t3 <;> simp
          rcases ht with rfl | ⟨rfl, rfl⟩ | ⟨rfl, rfl, rfl⟩ | ⟨rfl, rfl, rfl⟩
          all_goals
            go_wp2_with (first | (((go_at_call 69; (with_reducible refine (HAT.out _ (HBE.out.trans (Below.mono (by (repeat' (first | (with_reducible exact Below.refl _ _) | (with_reducible assumption) | (with_reducible refine below_from_drew ?_) | (with_reducible refine Below.alloc ?_ ?_ _) | (with_reducible refine Below.drew ?_) | (with_reducible refine below_drewN ?_ _) | (with_reducible refine Below.setCell ?_ ?_ _) | (with_reducible refine below_via ?_ (by assumption) ?_) | (with_reducible refine below_ov ?_ ?_ _ _) | go_size))) hzr))).mono ?_); rintro e u2 ⟨rfl, hb⟩; have hz := hb.size; refine (fun hB => ?_ : Below V.heap.size V u2 → _) ?_; rotate_left; (focus ((repeat' (first | (with_reducible exact Below.refl _ _) | (with_reducible assumption) | (with_reducible refine below_from_drew ?_) | (with_reducible refine Below.alloc ?_ ?_ _) | (with_reducible refine Below.drew ?_) | (with_reducible refine below_drewN ?_ _) | (with_reducible refine Below.setCell ?_ ?_ _) | (with_reducible refine below_via ?_ (by assumption) ?_) | (with_reducible refine below_ov ?_ ?_ _ _) | go_size)); done)); (try simp only [World.size_alloc, World.size_setCell, World.size_drew, ov_size] at hz))); obtain ⟨hca, hfa, hoa⟩ := bcell3 hB) | (((go_at_call 69; (with_reducible refine (HA.out _ (HBE.out.trans (Below.mono (by (repeat' (first | (with_reducible exact Below.refl _ _) | (with_reducible assumption) | (with_reducible refine below_from_drew ?_) | (with_reducible refine Below.alloc ?_ ?_ _) | (with_reducible refine Below.drew ?_) | (with_reducible refine below_drewN ?_ _) | (with_reducible refine Below.setCell ?_ ?_ _) | (with_reducible refine below_via ?_ (by assumption) ?_) | (with_reducible refine below_ov ?_ ?_ _ _) | go_size))) hzr)) sx sy).mono ?_); rintro e u6 ⟨rfl, hb⟩; have hz := hb.size; refine (fun hB => ?_ : Below V.heap.size V u6 → _) ?_; rotate_left; (focus ((repeat' (first | (with_reducible exact Below.refl _ _) | (with_reducible assumption) | (with_reducible refine below_from_drew ?_) | (with_reducible refine Below.alloc ?_ ?_ _) | (with_reducible refine Below.drew ?_) | (with_reducible refine below_drewN ?_ _) | (with_reducible refine Below.setCell ?_ ?_ _) | (with_reducible refine below_via ?_ (by assumption) ?_) | (with_reducible refine below_ov ?_ ?_ _ _) | go_size)); done)); (try simp only [World.size_alloc, World.size_setCell, World.size_drew, ov_size] at hz))); obtain ⟨hca, hfa, hoa⟩ := bcell3 hB) | (((go_at_call 70; (with_reducible refine (C1.out _).mono ?_); rintro e u3 ⟨rfl, hb⟩; have hz := hb.size; refine (fun hB => ?_ : Below V.heap.size V u3 → _) ?_; rotate_left; (focus ((repeat' (first | (with_reducible exact Below.refl _ _) | (with_reducible assumption) | (with_reducible refine below_from_drew ?_) | (with_reducible refine Below.alloc ?_ ?_ _) | (with_reducible refine Below.drew ?_) | (with_reducible refine below_drewN ?_ _) | (with_reducible refine Below.setCell ?_ ?_ _) | (with_reducible refine below_via ?_ (by assumption) ?_) | (with_reducible refine below_ov ?_ ?_ _ _) | go_size)); done)); (try simp only [World.size_alloc, World.size_setCell, World.size_drew, ov_size] at hz))); obtain ⟨hca, hfa, hoa⟩ := bcell3 hB) | (((go_at_call 70; (with_reducible refine (C2.out _).mono ?_); rintro e u4 ⟨rfl, hb⟩; have hz := hb.size; refine (fun hB => ?_ : Below V.heap.size V u4 → _) ?_; rotate_left; (focus ((repeat' (first | (with_reducible exact Below.refl _ _) | (with_reducible assumption) | (with_reducible refine below_from_drew ?_) | (with_reducible refine Below.alloc ?_ ?_ _) | (with_reducible refine Below.drew ?_) | (with_reducible refine below_drewN ?_ _) | (with_reducible refine Below.setCell ?_ ?_ _) | (with_reducible refine below_via ?_ (by assumption) ?_) | (with_reducible refine below_ov ?_ ?_ _ _) | go_size)); done)); (try simp only [World.size_alloc, World.size_setCell, World.size_drew, ov_size] at hz))); obtain ⟨hca, hfa, hoa⟩ := bcell3 hB) | (((go_at_call 71; (with_reducible refine (C3.out _).mono ?_); rintro e u5 ⟨rfl, hb⟩; have hz := hb.size; refine (fun hB => ?_ : Below V.heap.size V u5 → _) ?_; rotate_left; (focus ((repeat' (first | (with_reducible exact Below.refl _ _) | (with_reducible assumption) | (with_reducible refine below_from_drew ?_) | (with_reducible refine Below.alloc ?_ ?_ _) | (with_reducible refine Below.drew ?_) | (with_reducible refine below_drewN ?_ _) | (with_reducible refine Below.setCell ?_ ?_ _) | (with_reducible refine below_via ?_ (by assumption) ?_) | (with_reducible refine below_ov ?_ ?_ _ _) | go_size)); done)); (try simp only [World.size_alloc, World.size_setCell, World.size_drew, ov_size] at hz))); obtain ⟨hca, hfa, hoa⟩ := bcell3 hB))
            have hg := HG3.out
            simp only [Bool.false_and, Bool.and_false, Bool.true_and, Bool.and_true, Bool.and_self, Bool.false_eq_true, if_false, if_true] at hg
            exact ⟨rpi_step HBS.out hB HTO.out HBU.out HBE.out HBB.out d1 c3 _ hg, by simp only [intOf]; omega⟩
        · obtain rfl : x = W := by omega
          clear hbs hto hbut hbw q3
          go_wp2_with fail
          exact ⟨⟨y + 1, cs, by push_cast; rfl, c3, HBS.out, HTO.out.row, HBU.out, HBE.out⟩, by simp only [intOf]; omega⟩
    · obtain rfl : y = H := by omega
      have q6 := HBU.out.has HX6.out N6.out
      have q7 := HBU.out.has HX7.out N7.out
      have e7 := q7.cells; have l7 := q7.lt; have o7 : Old wr p7 := l7
      have e6 := q6.cells; have l6 := q6.lt; have o6 : Old wr (p3 + 2) := l6
      have n76 : p3 + 2 ≠ p7 := by
        intro e
        have := has_fun (e ▸ HX6.out) HX7.out
        simp at this
      have n67 : ¬ p7 = p3 + 2 := fun e => n76 e.symm
      have HQ6 := Lib.hid q6
      clear q6 q7
      rw [← ov_self HQ6.out]
      go_wp2_with fail
      refine bodyPost_ret (by simp [results, Try.results42, go_sem, l6, o6]; try rfl) rfl ?_
      have nb6 : b ≠ p3 + 2 := fun e => N6.out e.symm
      have hbb : Has (ov wr (p3 + 2) #[.int .i64 W, .int .i64 y, .slice (some ⟨b, 0, none⟩) n n] 73) b cs 3 := has_ov_other nb6 HBS.out
      refine ⟨_, _, rfl, HTO.out.done hbb, below_ov HBE.out (by omega) _ _⟩
end Go.Proofs.Ytkpamofamcndnaa
namespace Go.Proofs.Ytkpamofamcndnaa
open Go.RowKit Go.Shelf
set_option linter.unusedSimpArgs false
set_option linter.unusedVariables false
-- below_from_drew
attribute [local go_sem] ov_cell_same ov_cell_other ov_frozen_same ov_frozen_other ov_size ov_setCell_same ov_setCell_other cell_alloc_old frozen_alloc_old setCell_alloc_old old_alloc old_ov old_drew old_drewN old_setCell
attribute [local go_sem ↓] run_max2 run_min2 eql_rect eq_nil8
theorem atF_congr {W H : Nat} {f g : Nat → Nat → Int} (h : ∀ i j, i < H → j < W → f i j = g i j) (x y : Int) : atF W H f x y = atF W H g x y := by
  unfold atF
  split
  · exact h _ _ (by omega) (by omega)
  · rfl
theorem atF_rng {W H : Nat} {f : Nat → Nat → Int} (h : ∀ i j, i < H → j < W → 0 ≤ f i j ∧ f i j ≤ 255) (x y : Int) : 0 ≤ atF W H f x y ∧ atF W H f x y ≤ 255 := by
  unfold atF
  split
  · exact h _ _ (by omega) (by omega)
  · omega
set_option maxRecDepth 100000 in
set_option maxHeartbeats 4000000 in
theorem same28_any (L : ImgL) (f g : Nat → Nat → Int) (a : Option Addr) (n c : Nat) (w : World) (hs : L.W ≤ 24 ∧ L.H ≤ 24) (hn : L.W * L.H = n) (h : ImgAt w L f) (hp : PicT w a L.W L.H g) (he : ∀ i j, i < L.H → j < L.W → f i j = g i j) :
    Calls Try.prog 45 #[ptrTo L.p, .agg #[.int .i64 L.W, .int .i64 L.H, .slice a n c]] w fun e w' => e = .returned (.bool true) ∧ Below w.heap.size w w' := by
  have HSZ := Lib.hid (fun u (hb : Below w.heap.size w u) => size_any L f u (h.below hb))
  have HAT := Lib.hid (fun u (hb : Below w.heap.size w u) x y => at_any L f x y u (h.below hb))
  have HRA := Lib.hid (fun u (hb : Below w.heap.size w u) x y => rat28_any L.W L.H c a g x y u hs.1 hs.2 (hp.below hb))
  have HEQ := Lib.hid (atF_congr he)
  have HRG := Lib.hid (atF_rng h.rng)
  rw [hn] at HRA
  clear h hp he
  obtain ⟨p, W, H, ra, cap, rk, ck⟩ := L
  simp only at *
  clear hn
  have s1 : (W : Int) ≤ 24 := by omega
  have s2 : (H : Int) ≤ 24 := by omega
  go_enter Try.func45, Try.ntmps45
  go_wp2_with (go_at_call 46; (with_reducible refine (HSZ.out _ (by (repeat' (first | (with_reducible exact Below.refl _ _) | (with_reducible assumption) | (with_reducible refine below_from_drew ?_) | (with_reducible refine Below.alloc ?_ ?_ _) | (with_reducible refine Below.drew ?_) | (with_reducible refine below_drewN ?_ _) | (with_reducible refine Below.setCell ?_ ?_ _) | (with_reducible refine below_via ?_ (by assumption) ?_) | (with_reducible refine below_ov ?_ ?_ _ _) | go_size)))).mono ?_); rintro e w1 ⟨rfl, hb⟩; refine Exists.elim (after1 (w := w) (b0 := w.heap.size) (cs0 := ?_) (T0 := ?_) hb ?_ ?_) ?_; rotate_left 2; (focus ((repeat' (first | (with_reducible exact Below.refl _ _) | (with_reducible assumption) | (with_reducible refine below_from_drew ?_) | (with_reducible refine Below.alloc ?_ ?_ _) | (with_reducible refine Below.drew ?_) | (with_reducible refine below_drewN ?_ _) | (with_reducible refine Below.setCell ?_ ?_ _) | (with_reducible refine below_via ?_ (by assumption) ?_) | (with_reducible refine below_ov ?_ ?_ _ _) | go_size)); done)); (focus ((repeat' (first | (with_reducible refine has_drew ?_) | (with_reducible refine has_drewN ?_) | (with_reducible refine has_new ?_; (first | (with_reducible rfl) | omega | (simp; done) | (simp; omega))) | (with_reducible refine has_ov_same ?_; (first | (with_reducible rfl) | omega | (simp; done) | (simp; omega))) | (with_reducible refine has_alloc ?_) | (with_reducible refine has_ov_other ?_ ?_; (focus (first | (with_reducible rfl) | omega | (simp; done) | (simp; omega)))) | (with_reducible assumption) | (with_reducible exact has_below hB (by assumption)))); done)); rintro u1 ⟨rfl, hB, hz, z0, o0⟩; (try simp only [World.size_alloc, World.size_setCell, World.size_drew, ov_size] at hz))
  refine name_world (f := Code.wp _ _ _ _) (fun X hX => ?_)
  have hbX : Below w.heap.size w X := by rw [hX]; (repeat' (first | (with_reducible exact Below.refl _ _) | (with_reducible assumption) | (with_reducible refine below_from_drew ?_) | (with_reducible refine Below.alloc ?_ ?_ _) | (with_reducible refine Below.drew ?_) | (with_reducible refine below_drewN ?_ _) | (with_reducible refine Below.setCell ?_ ?_ _) | (with_reducible refine below_via ?_ (by assumption) ?_) | (with_reducible refine below_ov ?_ ?_ _ _) | go_size))
  have hbox : Has X w.heap.size #[.int .i64 W, .int .i64 H, .slice a n c] 73 := by rw [hX]; (repeat' (first | (with_reducible refine has_drew ?_) | (with_reducible refine has_drewN ?_) | (with_reducible refine has_new ?_; (first | (with_reducible rfl) | omega | (simp; done) | (simp; omega))) | (with_reducible refine has_ov_same ?_; (first | (with_reducible rfl) | omega | (simp; done) | (simp; omega))) | (with_reducible refine has_alloc ?_) | (with_reducible refine has_ov_other ?_ ?_; (focus (first | (with_reducible rfl) | omega | (simp; done) | (simp; omega)))) | (with_reducible assumption) | (with_reducible exact has_below hB (by assumption))))
  have HBX := Lib.hid hbX; have HXX := Lib.hid hbox
  have hzX : w.heap.size ≤ X.heap.size := hbX.size
  clear hX hbX hbox hb hB hz z0 o0
  obtain ⟨p0, hp0⟩ : ∃ k, w.heap.size = k := ⟨_, rfl⟩
  rw [hp0] at HXX ⊢
  have HP0 := Lib.hid hp0
  clear hp0
  go_loopw [7] (fun yv wr => ∃ y : Int, yv = .int .i64 y ∧ -1 ≤ y ∧ y ≤ (H : Int) + 1 ∧ Below X.heap.size X wr) (fun yv _ => ((H : Int) + 1 - intOf yv).toNat)
  case atStart => exact ⟨-1, rfl, by omega, by omega, Below.refl _ _⟩
  case round =>
    obtain ⟨y, rfl, hy1, hy2, hbv⟩ := hrel
    have hzv := hbv.size
    have HBV := Lib.hid hbv
    clear hbv
    rcases Int.lt_or_le H y with cy | cy
    · go_wp2_with fail
      go_ret
      exact ⟨rfl, HBX.out.trans (HBV.out.mono hzX)⟩
    · go_wp2_with fail
      go_loopw [8] (fun xv wr => ∃ x : Int, xv = .int .i64 x ∧ -1 ≤ x ∧ x ≤ (W : Int) + 1 ∧ Below X.heap.size X wr) (fun xv _ => ((W : Int) + 1 - intOf xv).toNat)
      case atStart => exact ⟨-1, rfl, by omega, by omega, HBV.out⟩
      case round =>
        clear HBV hzv
        obtain ⟨x, rfl, hx1, hx2, hbv⟩ := hrel
        have hzv := hbv.size
        have HBV := Lib.hid hbv
        clear hbv
        rcases Int.lt_or_le W x with cx | cx
        · go_wp2_with fail
          exact ⟨⟨y + 1, rfl, by omega, by omega, HBV.out⟩, by simp only [intOf]; omega⟩
        · have hx0 := has_below HBV.out HXX.out
          have e0 := hx0.cells; have l0 := hx0.lt; have o0 : Old wr p0 := l0
          have hbw := HBX.out.trans (HBV.out.mono hzX)
          have HBW := Lib.hid hbw
          have hzw : w.heap.size ≤ wr.heap.size := hbw.size
          have HA1 := Lib.hid (fun u hb => HAT.out u hb x y)
          have HA2 := Lib.hid (fun u hb => HRA.out u hb x y)
          have hrg := HRG.out x y
          rw [← HEQ.out] at HA2
          generalize atF W H f x y = v at *
          obtain ⟨v1, v2⟩ := hrg
          clear hbw
          go_wp2_with fail
          refine region_ord [(0, 0), (1, 0), (2, 0), (5, 0), (6, 0), (7, 0), (3, 1), (4, 0), (8, 1), (9, 0)] (by kernel_rfl) (by kernel_rfl) (fun _ _ d _ _ h => by cases d <;> exact h) (fun hS => ?_)
          (refine wpG_read (v := ?_) rfl (.inl ⟨by rfl, fun wx hbx => ?_⟩) ?_; rotate_left; (focus (obtain ⟨cx0, fx0, zx0⟩ := bk hbx (p0) (by first | omega | (simp; done) | (simp; omega)); go_simp; (try go_bits); (try with_reducible rfl))); try simp only [Act.put, List.setIfInBounds_toArray, List.set_cons_zero, List.set_cons_succ])
          (refine wpG_read (v := ?_) rfl (.inl ⟨by rfl, fun wx hbx => ?_⟩) ?_; rotate_left; (focus (obtain ⟨cx0, fx0, zx0⟩ := bk hbx (p0) (by first | omega | (simp; done) | (simp; omega)); go_simp; (try go_bits); (try with_reducible rfl))); try simp only [Act.put, List.setIfInBounds_toArray, List.set_cons_zero, List.set_cons_succ])
          (refine wpG_read (v := ?_) rfl (.inl ⟨by rfl, fun wx hbx => ?_⟩) ?_; rotate_left; (focus (obtain ⟨cx0, fx0, zx0⟩ := bk hbx (p0) (by first | omega | (simp; done) | (simp; omega)); go_simp; (try go_bits); (try with_reducible rfl))); try simp only [Act.put, List.setIfInBounds_toArray, List.set_cons_zero, List.set_cons_succ])
          (refine wpG_read (v := ?_) rfl (.inl ⟨by rfl, fun wx hbx => ?_⟩) ?_; rotate_left; (focus (obtain ⟨cx0, fx0, zx0⟩ := bk hbx (p0) (by first | omega | (simp; done) | (simp; omega)); go_simp; (try go_bits); (try with_reducible rfl))); try simp only [Act.put, List.setIfInBounds_toArray, List.set_cons_zero, List.set_cons_succ])
          (refine wpG_read (v := ?_) rfl (.inl ⟨by rfl, fun wx hbx => ?_⟩) ?_; rotate_left; (focus (obtain ⟨cx0, fx0, zx0⟩ := bk hbx (p0) (by first | omega | (simp; done) | (simp; omega)); go_simp; (try go_bits); (try with_reducible rfl))); try simp only [Act.put, List.setIfInBounds_toArray, List.set_cons_zero, List.set_cons_succ])
          (refine wpG_read (v := ?_) rfl (.inl ⟨by rfl, fun wx hbx => ?_⟩) ?_; rotate_left; (focus (obtain ⟨cx0, fx0, zx0⟩ := bk hbx (p0) (by first | omega | (simp; done) | (simp; omega)); go_simp; (try go_bits); (try with_reducible rfl))); try simp only [Act.put, List.setIfInBounds_toArray, List.set_cons_zero, List.set_cons_succ])
          (refine wpG_make rfl (fun K hK => ?_); go_simp; (go_at_call 48; (with_reducible refine (HA1.out _ (HBW.out.trans (Below.mono (by (repeat' (first | (with_reducible exact Below.refl _ _) | (with_reducible assumption) | (with_reducible refine below_from_drew ?_) | (with_reducible refine Below.alloc ?_ ?_ _) | (with_reducible refine Below.drew ?_) | (with_reducible refine below_drewN ?_ _) | (with_reducible refine Below.setCell ?_ ?_ _) | (with_reducible refine below_via ?_ (by assumption) ?_) | (with_reducible refine below_ov ?_ ?_ _ _) | go_size))) hzw))).mono ?_); rintro e w1 ⟨rfl, hb⟩; refine Exists.elim (after1 (w := wr) (b0 := p0) (cs0 := ?_) (T0 := ?_) hb ?_ ?_) ?_; rotate_left 2; (focus ((repeat' (first | (with_reducible exact Below.refl _ _) | (with_reducible assumption) | (with_reducible refine below_from_drew ?_) | (with_reducible refine Below.alloc ?_ ?_ _) | (with_reducible refine Below.drew ?_) | (with_reducible refine below_drewN ?_ _) | (with_reducible refine Below.setCell ?_ ?_ _) | (with_reducible refine below_via ?_ (by assumption) ?_) | (with_reducible refine below_ov ?_ ?_ _ _) | go_size)); done)); (focus ((repeat' (first | (with_reducible refine has_drew ?_) | (with_reducible refine has_drewN ?_) | (with_reducible refine has_new ?_; (first | (with_reducible rfl) | omega | (simp; done) | (simp; omega))) | (with_reducible refine has_ov_same ?_; (first | (with_reducible rfl) | omega | (simp; done) | (simp; omega))) | (with_reducible refine has_alloc ?_) | (with_reducible refine has_ov_other ?_ ?_; (focus (first | (with_reducible rfl) | omega | (simp; done) | (simp; omega)))) | (with_reducible assumption) | (with_reducible exact has_below hB (by assumption)))); done)); rintro u2 ⟨rfl, hB, hz, z0, o0⟩; (try simp only [World.size_alloc, World.size_setCell, World.size_drew, ov_size] at hz)); (try simp only []); refine hK _ _ ?_ (fun hS2 => ?_); (focus ((repeat' (first | (with_reducible exact Below.refl _ _) | (with_reducible assumption) | (with_reducible refine below_from_drew ?_) | (with_reducible refine Below.alloc ?_ ?_ _) | (with_reducible refine Below.drew ?_) | (with_reducible refine below_drewN ?_ _) | (with_reducible refine Below.setCell ?_ ?_ _) | (with_reducible refine below_via ?_ (by assumption) ?_) | (with_reducible refine below_ov ?_ ?_ _ _) | go_size)); done)); clear hK K hS; have hS := hS2; clear hS2; (try clear hb); try simp only [Act.put, List.setIfInBounds_toArray, List.set_cons_zero, List.set_cons_succ])
          (refine wpG_read (v := ?_) rfl (.inl ⟨by rfl, fun wx hbx => ?_⟩) ?_; rotate_left; (focus (obtain ⟨cx0, fx0, zx0⟩ := bk hbx (p0) (by first | omega | (simp; done) | (simp; omega)); go_simp; (try go_bits); (try with_reducible rfl))); try simp only [Act.put, List.setIfInBounds_toArray, List.set_cons_zero, List.set_cons_succ])
          (refine wpG_make rfl (fun K hK => ?_); go_simp; (go_at_call 69; (with_reducible refine (HA2.out _ (HBW.out.trans (Below.mono (by (repeat' (first | (with_reducible exact Below.refl _ _) | (with_reducible assumption) | (with_reducible refine below_from_drew ?_) | (with_reducible refine Below.alloc ?_ ?_ _) | (with_reducible refine Below.drew ?_) | (with_reducible refine below_drewN ?_ _) | (with_reducible refine Below.setCell ?_ ?_ _) | (with_reducible refine below_via ?_ (by assumption) ?_) | (with_reducible refine below_ov ?_ ?_ _ _) | go_size))) hzw))).mono ?_); rintro e w1 ⟨rfl, hb⟩; refine Exists.elim (after1 (w := wr) (b0 := p0) (cs0 := ?_) (T0 := ?_) hb ?_ ?_) ?_; rotate_left 2; (focus ((repeat' (first | (with_reducible exact Below.refl _ _) | (with_reducible assumption) | (with_reducible refine below_from_drew ?_) | (with_reducible refine Below.alloc ?_ ?_ _) | (with_reducible refine Below.drew ?_) | (with_reducible refine below_drewN ?_ _) | (with_reducible refine Below.setCell ?_ ?_ _) | (with_reducible refine below_via ?_ (by assumption) ?_) | (with_reducible refine below_ov ?_ ?_ _ _) | go_size)); done)); (focus ((repeat' (first | (with_reducible refine has_drew ?_) | (with_reducible refine has_drewN ?_) | (with_reducible refine has_new ?_; (first | (with_reducible rfl) | omega | (simp; done) | (simp; omega))) | (with_reducible refine has_ov_same ?_; (first | (with_reducible rfl) | omega | (simp; done) | (simp; omega))) | (with_reducible refine has_alloc ?_) | (with_reducible refine has_ov_other ?_ ?_; (focus (first | (with_reducible rfl) | omega | (simp; done) | (simp; omega)))) | (with_reducible assumption) | (with_reducible exact has_below hB (by assumption)))); done)); rintro u3 ⟨rfl, hB, hz, z0, o0⟩; (try simp only [World.size_alloc, World.size_setCell, World.size_drew, ov_size] at hz)); (try simp only []); refine hK _ _ ?_ (fun hS2 => ?_); (focus ((repeat' (first | (with_reducible exact Below.refl _ _) | (with_reducible assumption) | (with_reducible refine below_from_drew ?_) | (with_reducible refine Below.alloc ?_ ?_ _) | (with_reducible refine Below.drew ?_) | (with_reducible refine below_drewN ?_ _) | (with_reducible refine Below.setCell ?_ ?_ _) | (with_reducible refine below_via ?_ (by assumption) ?_) | (with_reducible refine below_ov ?_ ?_ _ _) | go_size)); done)); clear hK K hS; have hS := hS2; clear hS2; (try clear hb); try simp only [Act.put, List.setIfInBounds_toArray, List.set_cons_zero, List.set_cons_succ])
          (refine wpG_read (v := ?_) rfl (.inl ⟨by rfl, fun wx hbx => ?_⟩) ?_; rotate_left; (focus (obtain ⟨cx0, fx0, zx0⟩ := bk hbx (p0) (by first | omega | (simp; done) | (simp; omega)); go_simp; (try go_bits); (try with_reducible rfl))); try simp only [Act.put, List.setIfInBounds_toArray, List.set_cons_zero, List.set_cons_succ])
          refine wpG_nil ?_
          go_wp2_with fail
          refine ⟨⟨x + 1, rfl, by omega, by omega, ?_⟩, by simp only [intOf]; omega⟩
          have q := HBV.out
          (repeat' (first | (with_reducible exact Below.refl _ _) | (with_reducible assumption) | (with_reducible refine below_from_drew ?_) | (with_reducible refine Below.alloc ?_ ?_ _) | (with_reducible refine Below.drew ?_) | (with_reducible refine below_drewN ?_ _) | (with_reducible refine Below.setCell ?_ ?_ _) | (with_reducible refine below_via ?_ (by assumption) ?_) | (with_reducible refine below_ov ?_ ?_ _ _) | go_size))
end Go.Proofs.Ytkpamofamcndnaa
