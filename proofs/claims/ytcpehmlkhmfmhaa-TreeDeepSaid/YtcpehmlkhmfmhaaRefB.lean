/- clapboardref10: Parent, Kids by contract. -/
import Derived.Test.YtcpehmlkhmfmhaaRefA
namespace Go.Proofs.Ytcpehmlkhmfmhaa
open Go.RowKit
set_option linter.unusedSimpArgs false
set_option linter.unusedVariables false
-- below_from_drew
attribute [local go_sem] ov_cell_same ov_cell_other ov_frozen_same ov_frozen_other ov_size ov_setCell_same ov_setCell_other cell_alloc_old frozen_alloc_old setCell_alloc_old old_alloc old_ov old_drew old_drewN old_setCell
attribute [local go_sem ↓] run_max2 run_min2

theorem getD_ahead {A C : Rows} {x : Int × Int} {t : Nat} (h : t < A.length) : (A ++ x :: C).getD (A.length - 1 - t) (0, 0) = A.reverse.getD t (0, 0) := by
  simp only [List.getD_eq_getElem?_getD]
  rw [List.getElem?_append_left (by omega), List.getElem?_reverse h]
set_option maxRecDepth 100000 in
set_option maxHeartbeats 2000000 in
theorem par_any (a : Option Addr) (l c : Nat) (next n d : Int) (R A C : Rows) (w : World) (hl : R.length = l) (hm : l ≤ 1000000) (h : RowsAt w a R) (hR : R = A ++ (n, d) :: C) :
    Calls Try.prog 63 #[.agg #[.slice a l c, .int .i64 next], .int .i64 (A.length : Nat)] w fun e w' => e = .returned (.int .i64 ((A.length : Int) - 1 - (subR (d - 1) A.reverse).length)) ∧ Below w.heap.size w w' := by
  have hlen : l = A.length + (C.length + 1) := by rw [← hl, hR]; simp
  obtain ⟨b, off, rfl, hb, hc⟩ := h (by omega)
  have hgi := getD_split (A := A) (C := C) (x := (n, d))
  rw [← hR] at hgi
  have q2 := (hc A.length (by omega)).2
  rw [hgi] at q2
  simp only at q2
  have hrl : A.reverse.length = A.length := by simp
  have hsub : (subR (d - 1) A.reverse).length ≤ A.length := by
    obtain ⟨B, hB, _⟩ := subR_split (d - 1) A.reverse
    have := congrArg List.length hB
    rw [List.length_append] at this; omega
  have HC := Lib.hid hc; have HR := Lib.hid hR; have HL := Lib.hid hl
  have hob : Old w b := hb
  have HSE := Lib.hid (fun (h : (subR (d - 1) A.reverse).length < A.reverse.length) => subR_end h)
  have HSA := Lib.hid (fun t (h : t < (subR (d - 1) A.reverse).length) => subR_at h)
  have HLEN := Lib.hid hlen; have HRL := Lib.hid hrl
  clear hc hR hl h hgi hlen hrl
  generalize hs : (subR (d - 1) A.reverse).length = s at *
  generalize hAl : A.length = i at *
  have HAL := Lib.hid hAl
  clear hs hAl
  have hi1 : (i : Int) < l := by have := HLEN.out; omega
  go_enter Try.func63, Try.ntmps63
  go_wp2_with fail
  go_loopw [5] (fun jv wr => ∃ t : Nat, jv = .int .i64 ((i : Int) - 1 - t) ∧ t ≤ s ∧ Below w.heap.size w wr ∧ Has wr w.heap.size #[.slice (some ⟨b, off, none⟩) l c, .int .i64 next] 28) (fun jv _ => (intOf jv + 1).toNat)
  case atStart => exact ⟨0, by go_num, Nat.zero_le _, by (repeat' (first | (with_reducible exact Below.refl _ _) | (with_reducible assumption) | (with_reducible refine below_from_drew ?_) | (with_reducible refine Below.alloc ?_ ?_ _) | (with_reducible refine Below.drew ?_) | (with_reducible refine below_drewN ?_ _) | (with_reducible refine Below.setCell ?_ ?_ _) | (with_reducible refine below_via ?_ (by assumption) ?_) | (with_reducible refine below_ov ?_ ?_ _ _) | go_size)), has_new rfl⟩
  case round =>
    obtain ⟨t, rfl, ht, hbw, hh⟩ := hrel
    have hq := hbw.size
    have g0 := has_cell hh (o := 0) rfl
    have lb := hh.lt
    have e2 := (hbw.cell (p := ⟨b, off + i * 2 + 1, none⟩) hb).trans q2
    have lb2 : b < wr.heap.size := by omega
    have HBW := Lib.hid hbw; have HH := Lib.hid hh
    clear hbw hh
    rcases Nat.lt_or_ge t i with c1 | c1
    · have hj : (i : Int) - 1 - t = ((i - 1 - t : Nat) : Int) := by omega
      have gj := ((HC.out (i - 1 - t) (by rw [HL.out]; omega)).2)
      have ej := (HBW.out.cell (p := ⟨b, off + (i - 1 - t) * 2 + 1, none⟩) hb).trans gj
      have hxj : R.getD (i - 1 - t) (0, 0) = A.reverse.getD t (0, 0) := by rw [HR.out, ← HAL.out]; exact getD_ahead (by rw [HAL.out]; exact c1)
      rw [hxj] at ej
      rw [hj]
      have c3 : (0 : Int) ≤ ((i - 1 - t : Nat) : Int) := by omega
      have c9 : ((i - 1 - t : Nat) : Int) < l := by omega
      have HJJ := Lib.hid hj
      generalize hJ : i - 1 - t = j at *
      have HJ := Lib.hid hJ
      clear hJ gj hxj hj
      by_cases c4 : t < s
      · have c5 := (HSA.out t c4).2
        generalize (A.reverse.getD t (0, 0)).2 = e at *
        have c6 : d ≤ e := by omega
        go_wp2_with fail
        refine region_ord [(0, 0), (1, 0), (2, 0), (3, 0), (4, 0), (5, 0), (6, 0), (7, 0), (8, 0), (9, 0), (10, 0), (11, 0), (12, 0), (13, 0), (14, 0), (15, 0), (16, 0)] (by kernel_rfl) (by kernel_rfl) (fun _ _ d _ _ h => by cases d <;> exact h) (fun hS => ?_)
        (refine wpG_read (v := ?_) rfl (.inl ⟨by rfl, fun wx hbx => ?_⟩) ?_; rotate_left; (focus (obtain ⟨cx0, fx0, zx0⟩ := bk hbx (w.heap.size) (by first | omega | (simp; done) | (simp; omega)); obtain ⟨cx1, fx1, zx1⟩ := bk hbx (b) (by first | omega | (simp; done) | (simp; omega)); go_simp; (try go_bits); (try with_reducible rfl))); try simp only [Act.put, List.setIfInBounds_toArray, List.set_cons_zero, List.set_cons_succ])
        (refine wpG_read (v := ?_) rfl (.inl ⟨by rfl, fun wx hbx => ?_⟩) ?_; rotate_left; (focus (obtain ⟨cx0, fx0, zx0⟩ := bk hbx (w.heap.size) (by first | omega | (simp; done) | (simp; omega)); obtain ⟨cx1, fx1, zx1⟩ := bk hbx (b) (by first | omega | (simp; done) | (simp; omega)); go_simp; (try go_bits); (try with_reducible rfl))); try simp only [Act.put, List.setIfInBounds_toArray, List.set_cons_zero, List.set_cons_succ])
        (refine wpG_read (v := ?_) rfl (.inl ⟨by rfl, fun wx hbx => ?_⟩) ?_; rotate_left; (focus (obtain ⟨cx0, fx0, zx0⟩ := bk hbx (w.heap.size) (by first | omega | (simp; done) | (simp; omega)); obtain ⟨cx1, fx1, zx1⟩ := bk hbx (b) (by first | omega | (simp; done) | (simp; omega)); go_simp; (try go_bits); (try with_reducible rfl))); try simp only [Act.put, List.setIfInBounds_toArray, List.set_cons_zero, List.set_cons_succ])
        (first | (refine wpG_pass rfl (by rfl) ?_; simp only [Act.put, List.setIfInBounds_toArray, List.set_cons_zero, List.set_cons_succ]) | (refine wpG_read (v := ?_) rfl (.inl ⟨by rfl, fun wx hbx => ?_⟩) ?_; rotate_left; (focus (obtain ⟨cx0, fx0, zx0⟩ := bk hbx (w.heap.size) (by first | omega | (simp; done) | (simp; omega)); obtain ⟨cx1, fx1, zx1⟩ := bk hbx (b) (by first | omega | (simp; done) | (simp; omega)); go_simp; (try go_bits); (try with_reducible rfl))); try simp only [Act.put, List.setIfInBounds_toArray, List.set_cons_zero, List.set_cons_succ]))
        (first | (refine wpG_pass rfl (by rfl) ?_; simp only [Act.put, List.setIfInBounds_toArray, List.set_cons_zero, List.set_cons_succ]) | (refine wpG_read (v := ?_) rfl (.inl ⟨by rfl, fun wx hbx => ?_⟩) ?_; rotate_left; (focus (obtain ⟨cx0, fx0, zx0⟩ := bk hbx (w.heap.size) (by first | omega | (simp; done) | (simp; omega)); obtain ⟨cx1, fx1, zx1⟩ := bk hbx (b) (by first | omega | (simp; done) | (simp; omega)); go_simp; (try go_bits); (try with_reducible rfl))); try simp only [Act.put, List.setIfInBounds_toArray, List.set_cons_zero, List.set_cons_succ]))
        (first | (refine wpG_pass rfl (by rfl) ?_; simp only [Act.put, List.setIfInBounds_toArray, List.set_cons_zero, List.set_cons_succ]) | (refine wpG_read (v := ?_) rfl (.inl ⟨by rfl, fun wx hbx => ?_⟩) ?_; rotate_left; (focus (obtain ⟨cx0, fx0, zx0⟩ := bk hbx (w.heap.size) (by first | omega | (simp; done) | (simp; omega)); obtain ⟨cx1, fx1, zx1⟩ := bk hbx (b) (by first | omega | (simp; done) | (simp; omega)); go_simp; (try go_bits); (try with_reducible rfl))); try simp only [Act.put, List.setIfInBounds_toArray, List.set_cons_zero, List.set_cons_succ]))
        (first | (refine wpG_pass rfl (by rfl) ?_; simp only [Act.put, List.setIfInBounds_toArray, List.set_cons_zero, List.set_cons_succ]) | (refine wpG_read (v := ?_) rfl (.inl ⟨by rfl, fun wx hbx => ?_⟩) ?_; rotate_left; (focus (obtain ⟨cx0, fx0, zx0⟩ := bk hbx (w.heap.size) (by first | omega | (simp; done) | (simp; omega)); obtain ⟨cx1, fx1, zx1⟩ := bk hbx (b) (by first | omega | (simp; done) | (simp; omega)); go_simp; (try go_bits); (try with_reducible rfl))); try simp only [Act.put, List.setIfInBounds_toArray, List.set_cons_zero, List.set_cons_succ]))
        (first | (refine wpG_pass rfl (by rfl) ?_; simp only [Act.put, List.setIfInBounds_toArray, List.set_cons_zero, List.set_cons_succ]) | (refine wpG_read (v := ?_) rfl (.inl ⟨by rfl, fun wx hbx => ?_⟩) ?_; rotate_left; (focus (obtain ⟨cx0, fx0, zx0⟩ := bk hbx (w.heap.size) (by first | omega | (simp; done) | (simp; omega)); obtain ⟨cx1, fx1, zx1⟩ := bk hbx (b) (by first | omega | (simp; done) | (simp; omega)); go_simp; (try go_bits); (try with_reducible rfl))); try simp only [Act.put, List.setIfInBounds_toArray, List.set_cons_zero, List.set_cons_succ]))
        (first | (refine wpG_pass rfl (by rfl) ?_; simp only [Act.put, List.setIfInBounds_toArray, List.set_cons_zero, List.set_cons_succ]) | (refine wpG_read (v := ?_) rfl (.inl ⟨by rfl, fun wx hbx => ?_⟩) ?_; rotate_left; (focus (obtain ⟨cx0, fx0, zx0⟩ := bk hbx (w.heap.size) (by first | omega | (simp; done) | (simp; omega)); obtain ⟨cx1, fx1, zx1⟩ := bk hbx (b) (by first | omega | (simp; done) | (simp; omega)); go_simp; (try go_bits); (try with_reducible rfl))); try simp only [Act.put, List.setIfInBounds_toArray, List.set_cons_zero, List.set_cons_succ]))
        (first | (refine wpG_pass rfl (by rfl) ?_; simp only [Act.put, List.setIfInBounds_toArray, List.set_cons_zero, List.set_cons_succ]) | (refine wpG_read (v := ?_) rfl (.inl ⟨by rfl, fun wx hbx => ?_⟩) ?_; rotate_left; (focus (obtain ⟨cx0, fx0, zx0⟩ := bk hbx (w.heap.size) (by first | omega | (simp; done) | (simp; omega)); obtain ⟨cx1, fx1, zx1⟩ := bk hbx (b) (by first | omega | (simp; done) | (simp; omega)); go_simp; (try go_bits); (try with_reducible rfl))); try simp only [Act.put, List.setIfInBounds_toArray, List.set_cons_zero, List.set_cons_succ]))
        (first | (refine wpG_pass rfl (by rfl) ?_; simp only [Act.put, List.setIfInBounds_toArray, List.set_cons_zero, List.set_cons_succ]) | (refine wpG_read (v := ?_) rfl (.inl ⟨by rfl, fun wx hbx => ?_⟩) ?_; rotate_left; (focus (obtain ⟨cx0, fx0, zx0⟩ := bk hbx (w.heap.size) (by first | omega | (simp; done) | (simp; omega)); obtain ⟨cx1, fx1, zx1⟩ := bk hbx (b) (by first | omega | (simp; done) | (simp; omega)); go_simp; (try go_bits); (try with_reducible rfl))); try simp only [Act.put, List.setIfInBounds_toArray, List.set_cons_zero, List.set_cons_succ]))
        (first | (refine wpG_pass rfl (by rfl) ?_; simp only [Act.put, List.setIfInBounds_toArray, List.set_cons_zero, List.set_cons_succ]) | (refine wpG_read (v := ?_) rfl (.inl ⟨by rfl, fun wx hbx => ?_⟩) ?_; rotate_left; (focus (obtain ⟨cx0, fx0, zx0⟩ := bk hbx (w.heap.size) (by first | omega | (simp; done) | (simp; omega)); obtain ⟨cx1, fx1, zx1⟩ := bk hbx (b) (by first | omega | (simp; done) | (simp; omega)); go_simp; (try go_bits); (try with_reducible rfl))); try simp only [Act.put, List.setIfInBounds_toArray, List.set_cons_zero, List.set_cons_succ]))
        (first | (refine wpG_pass rfl (by rfl) ?_; simp only [Act.put, List.setIfInBounds_toArray, List.set_cons_zero, List.set_cons_succ]) | (refine wpG_read (v := ?_) rfl (.inl ⟨by rfl, fun wx hbx => ?_⟩) ?_; rotate_left; (focus (obtain ⟨cx0, fx0, zx0⟩ := bk hbx (w.heap.size) (by first | omega | (simp; done) | (simp; omega)); obtain ⟨cx1, fx1, zx1⟩ := bk hbx (b) (by first | omega | (simp; done) | (simp; omega)); go_simp; (try go_bits); (try with_reducible rfl))); try simp only [Act.put, List.setIfInBounds_toArray, List.set_cons_zero, List.set_cons_succ]))
        (first | (refine wpG_pass rfl (by rfl) ?_; simp only [Act.put, List.setIfInBounds_toArray, List.set_cons_zero, List.set_cons_succ]) | (refine wpG_read (v := ?_) rfl (.inl ⟨by rfl, fun wx hbx => ?_⟩) ?_; rotate_left; (focus (obtain ⟨cx0, fx0, zx0⟩ := bk hbx (w.heap.size) (by first | omega | (simp; done) | (simp; omega)); obtain ⟨cx1, fx1, zx1⟩ := bk hbx (b) (by first | omega | (simp; done) | (simp; omega)); go_simp; (try go_bits); (try with_reducible rfl))); try simp only [Act.put, List.setIfInBounds_toArray, List.set_cons_zero, List.set_cons_succ]))
        (first | (refine wpG_pass rfl (by rfl) ?_; simp only [Act.put, List.setIfInBounds_toArray, List.set_cons_zero, List.set_cons_succ]) | (refine wpG_read (v := ?_) rfl (.inl ⟨by rfl, fun wx hbx => ?_⟩) ?_; rotate_left; (focus (obtain ⟨cx0, fx0, zx0⟩ := bk hbx (w.heap.size) (by first | omega | (simp; done) | (simp; omega)); obtain ⟨cx1, fx1, zx1⟩ := bk hbx (b) (by first | omega | (simp; done) | (simp; omega)); go_simp; (try go_bits); (try with_reducible rfl))); try simp only [Act.put, List.setIfInBounds_toArray, List.set_cons_zero, List.set_cons_succ]))
        (first | (refine wpG_pass rfl (by rfl) ?_; simp only [Act.put, List.setIfInBounds_toArray, List.set_cons_zero, List.set_cons_succ]) | (refine wpG_read (v := ?_) rfl (.inl ⟨by rfl, fun wx hbx => ?_⟩) ?_; rotate_left; (focus (obtain ⟨cx0, fx0, zx0⟩ := bk hbx (w.heap.size) (by first | omega | (simp; done) | (simp; omega)); obtain ⟨cx1, fx1, zx1⟩ := bk hbx (b) (by first | omega | (simp; done) | (simp; omega)); go_simp; (try go_bits); (try with_reducible rfl))); try simp only [Act.put, List.setIfInBounds_toArray, List.set_cons_zero, List.set_cons_succ]))
        (refine wpG_read (v := ?_) rfl (.inl ⟨by rfl, fun wx hbx => ?_⟩) ?_; rotate_left; (focus (obtain ⟨cx0, fx0, zx0⟩ := bk hbx (w.heap.size) (by first | omega | (simp; done) | (simp; omega)); obtain ⟨cx1, fx1, zx1⟩ := bk hbx (b) (by first | omega | (simp; done) | (simp; omega)); go_simp; (try go_bits); (try with_reducible rfl))); try simp only [Act.put, List.setIfInBounds_toArray, List.set_cons_zero, List.set_cons_succ])
        refine wpG_nil ?_
        go_wp2_with fail
        go_roundw
        case rel => exact ⟨t + 1, by have := HJJ.out; go_num, by omega, by have q := HBW.out; (repeat' (first | (with_reducible exact Below.refl _ _) | (with_reducible assumption) | (with_reducible refine below_from_drew ?_) | (with_reducible refine Below.alloc ?_ ?_ _) | (with_reducible refine Below.drew ?_) | (with_reducible refine below_drewN ?_ _) | (with_reducible refine Below.setCell ?_ ?_ _) | (with_reducible refine below_via ?_ (by assumption) ?_) | (with_reducible refine below_ov ?_ ?_ _ _) | go_size)), by have q := HH.out; (repeat' (first | (with_reducible refine has_drew ?_) | (with_reducible refine has_drewN ?_) | (with_reducible refine has_new ?_; (first | (with_reducible rfl) | omega | (simp; done) | (simp; omega))) | (with_reducible refine has_ov_same ?_; (first | (with_reducible rfl) | omega | (simp; done) | (simp; omega))) | (with_reducible refine has_alloc ?_) | (with_reducible refine has_ov_other ?_ ?_; (focus (first | (with_reducible rfl) | omega | (simp; done) | (simp; omega)))) | (with_reducible assumption)))⟩
        case measure => simp [intOf]
      · obtain rfl : t = s := by omega
        have c5 := HSE.out (by rw [HRL.out]; exact c1)
        generalize (A.reverse.getD t (0, 0)).2 = e at *
        have c6 : e < d := by omega
        have c7 : decide (d ≤ e) = false := by simp; omega
        go_wp2_with fail
        refine region_ord [(0, 0), (1, 0), (2, 0), (3, 0), (4, 0), (5, 0), (6, 0), (7, 0), (8, 0), (9, 0), (10, 0), (11, 0), (12, 0), (13, 0), (14, 0), (15, 0), (16, 0)] (by kernel_rfl) (by kernel_rfl) (fun _ _ d _ _ h => by cases d <;> exact h) (fun hS => ?_)
        (refine wpG_read (v := ?_) rfl (.inl ⟨by rfl, fun wx hbx => ?_⟩) ?_; rotate_left; (focus (obtain ⟨cx0, fx0, zx0⟩ := bk hbx (w.heap.size) (by first | omega | (simp; done) | (simp; omega)); obtain ⟨cx1, fx1, zx1⟩ := bk hbx (b) (by first | omega | (simp; done) | (simp; omega)); go_simp; (try go_bits); (try with_reducible rfl))); try simp only [Act.put, List.setIfInBounds_toArray, List.set_cons_zero, List.set_cons_succ])
        (refine wpG_read (v := ?_) rfl (.inl ⟨by rfl, fun wx hbx => ?_⟩) ?_; rotate_left; (focus (obtain ⟨cx0, fx0, zx0⟩ := bk hbx (w.heap.size) (by first | omega | (simp; done) | (simp; omega)); obtain ⟨cx1, fx1, zx1⟩ := bk hbx (b) (by first | omega | (simp; done) | (simp; omega)); go_simp; (try go_bits); (try with_reducible rfl))); try simp only [Act.put, List.setIfInBounds_toArray, List.set_cons_zero, List.set_cons_succ])
        (refine wpG_read (v := ?_) rfl (.inl ⟨by rfl, fun wx hbx => ?_⟩) ?_; rotate_left; (focus (obtain ⟨cx0, fx0, zx0⟩ := bk hbx (w.heap.size) (by first | omega | (simp; done) | (simp; omega)); obtain ⟨cx1, fx1, zx1⟩ := bk hbx (b) (by first | omega | (simp; done) | (simp; omega)); go_simp; (try go_bits); (try with_reducible rfl))); try simp only [Act.put, List.setIfInBounds_toArray, List.set_cons_zero, List.set_cons_succ])
        (first | (refine wpG_pass rfl (by rfl) ?_; simp only [Act.put, List.setIfInBounds_toArray, List.set_cons_zero, List.set_cons_succ]) | (refine wpG_read (v := ?_) rfl (.inl ⟨by rfl, fun wx hbx => ?_⟩) ?_; rotate_left; (focus (obtain ⟨cx0, fx0, zx0⟩ := bk hbx (w.heap.size) (by first | omega | (simp; done) | (simp; omega)); obtain ⟨cx1, fx1, zx1⟩ := bk hbx (b) (by first | omega | (simp; done) | (simp; omega)); go_simp; (try go_bits); (try with_reducible rfl))); try simp only [Act.put, List.setIfInBounds_toArray, List.set_cons_zero, List.set_cons_succ]))
        (first | (refine wpG_pass rfl (by rfl) ?_; simp only [Act.put, List.setIfInBounds_toArray, List.set_cons_zero, List.set_cons_succ]) | (refine wpG_read (v := ?_) rfl (.inl ⟨by rfl, fun wx hbx => ?_⟩) ?_; rotate_left; (focus (obtain ⟨cx0, fx0, zx0⟩ := bk hbx (w.heap.size) (by first | omega | (simp; done) | (simp; omega)); obtain ⟨cx1, fx1, zx1⟩ := bk hbx (b) (by first | omega | (simp; done) | (simp; omega)); go_simp; (try go_bits); (try with_reducible rfl))); try simp only [Act.put, List.setIfInBounds_toArray, List.set_cons_zero, List.set_cons_succ]))
        (first | (refine wpG_pass rfl (by rfl) ?_; simp only [Act.put, List.setIfInBounds_toArray, List.set_cons_zero, List.set_cons_succ]) | (refine wpG_read (v := ?_) rfl (.inl ⟨by rfl, fun wx hbx => ?_⟩) ?_; rotate_left; (focus (obtain ⟨cx0, fx0, zx0⟩ := bk hbx (w.heap.size) (by first | omega | (simp; done) | (simp; omega)); obtain ⟨cx1, fx1, zx1⟩ := bk hbx (b) (by first | omega | (simp; done) | (simp; omega)); go_simp; (try go_bits); (try with_reducible rfl))); try simp only [Act.put, List.setIfInBounds_toArray, List.set_cons_zero, List.set_cons_succ]))
        (first | (refine wpG_pass rfl (by rfl) ?_; simp only [Act.put, List.setIfInBounds_toArray, List.set_cons_zero, List.set_cons_succ]) | (refine wpG_read (v := ?_) rfl (.inl ⟨by rfl, fun wx hbx => ?_⟩) ?_; rotate_left; (focus (obtain ⟨cx0, fx0, zx0⟩ := bk hbx (w.heap.size) (by first | omega | (simp; done) | (simp; omega)); obtain ⟨cx1, fx1, zx1⟩ := bk hbx (b) (by first | omega | (simp; done) | (simp; omega)); go_simp; (try go_bits); (try with_reducible rfl))); try simp only [Act.put, List.setIfInBounds_toArray, List.set_cons_zero, List.set_cons_succ]))
        (first | (refine wpG_pass rfl (by rfl) ?_; simp only [Act.put, List.setIfInBounds_toArray, List.set_cons_zero, List.set_cons_succ]) | (refine wpG_read (v := ?_) rfl (.inl ⟨by rfl, fun wx hbx => ?_⟩) ?_; rotate_left; (focus (obtain ⟨cx0, fx0, zx0⟩ := bk hbx (w.heap.size) (by first | omega | (simp; done) | (simp; omega)); obtain ⟨cx1, fx1, zx1⟩ := bk hbx (b) (by first | omega | (simp; done) | (simp; omega)); go_simp; (try go_bits); (try with_reducible rfl))); try simp only [Act.put, List.setIfInBounds_toArray, List.set_cons_zero, List.set_cons_succ]))
        (first | (refine wpG_pass rfl (by rfl) ?_; simp only [Act.put, List.setIfInBounds_toArray, List.set_cons_zero, List.set_cons_succ]) | (refine wpG_read (v := ?_) rfl (.inl ⟨by rfl, fun wx hbx => ?_⟩) ?_; rotate_left; (focus (obtain ⟨cx0, fx0, zx0⟩ := bk hbx (w.heap.size) (by first | omega | (simp; done) | (simp; omega)); obtain ⟨cx1, fx1, zx1⟩ := bk hbx (b) (by first | omega | (simp; done) | (simp; omega)); go_simp; (try go_bits); (try with_reducible rfl))); try simp only [Act.put, List.setIfInBounds_toArray, List.set_cons_zero, List.set_cons_succ]))
        (first | (refine wpG_pass rfl (by rfl) ?_; simp only [Act.put, List.setIfInBounds_toArray, List.set_cons_zero, List.set_cons_succ]) | (refine wpG_read (v := ?_) rfl (.inl ⟨by rfl, fun wx hbx => ?_⟩) ?_; rotate_left; (focus (obtain ⟨cx0, fx0, zx0⟩ := bk hbx (w.heap.size) (by first | omega | (simp; done) | (simp; omega)); obtain ⟨cx1, fx1, zx1⟩ := bk hbx (b) (by first | omega | (simp; done) | (simp; omega)); go_simp; (try go_bits); (try with_reducible rfl))); try simp only [Act.put, List.setIfInBounds_toArray, List.set_cons_zero, List.set_cons_succ]))
        (first | (refine wpG_pass rfl (by rfl) ?_; simp only [Act.put, List.setIfInBounds_toArray, List.set_cons_zero, List.set_cons_succ]) | (refine wpG_read (v := ?_) rfl (.inl ⟨by rfl, fun wx hbx => ?_⟩) ?_; rotate_left; (focus (obtain ⟨cx0, fx0, zx0⟩ := bk hbx (w.heap.size) (by first | omega | (simp; done) | (simp; omega)); obtain ⟨cx1, fx1, zx1⟩ := bk hbx (b) (by first | omega | (simp; done) | (simp; omega)); go_simp; (try go_bits); (try with_reducible rfl))); try simp only [Act.put, List.setIfInBounds_toArray, List.set_cons_zero, List.set_cons_succ]))
        (first | (refine wpG_pass rfl (by rfl) ?_; simp only [Act.put, List.setIfInBounds_toArray, List.set_cons_zero, List.set_cons_succ]) | (refine wpG_read (v := ?_) rfl (.inl ⟨by rfl, fun wx hbx => ?_⟩) ?_; rotate_left; (focus (obtain ⟨cx0, fx0, zx0⟩ := bk hbx (w.heap.size) (by first | omega | (simp; done) | (simp; omega)); obtain ⟨cx1, fx1, zx1⟩ := bk hbx (b) (by first | omega | (simp; done) | (simp; omega)); go_simp; (try go_bits); (try with_reducible rfl))); try simp only [Act.put, List.setIfInBounds_toArray, List.set_cons_zero, List.set_cons_succ]))
        (first | (refine wpG_pass rfl (by rfl) ?_; simp only [Act.put, List.setIfInBounds_toArray, List.set_cons_zero, List.set_cons_succ]) | (refine wpG_read (v := ?_) rfl (.inl ⟨by rfl, fun wx hbx => ?_⟩) ?_; rotate_left; (focus (obtain ⟨cx0, fx0, zx0⟩ := bk hbx (w.heap.size) (by first | omega | (simp; done) | (simp; omega)); obtain ⟨cx1, fx1, zx1⟩ := bk hbx (b) (by first | omega | (simp; done) | (simp; omega)); go_simp; (try go_bits); (try with_reducible rfl))); try simp only [Act.put, List.setIfInBounds_toArray, List.set_cons_zero, List.set_cons_succ]))
        (first | (refine wpG_pass rfl (by rfl) ?_; simp only [Act.put, List.setIfInBounds_toArray, List.set_cons_zero, List.set_cons_succ]) | (refine wpG_read (v := ?_) rfl (.inl ⟨by rfl, fun wx hbx => ?_⟩) ?_; rotate_left; (focus (obtain ⟨cx0, fx0, zx0⟩ := bk hbx (w.heap.size) (by first | omega | (simp; done) | (simp; omega)); obtain ⟨cx1, fx1, zx1⟩ := bk hbx (b) (by first | omega | (simp; done) | (simp; omega)); go_simp; (try go_bits); (try with_reducible rfl))); try simp only [Act.put, List.setIfInBounds_toArray, List.set_cons_zero, List.set_cons_succ]))
        (first | (refine wpG_pass rfl (by rfl) ?_; simp only [Act.put, List.setIfInBounds_toArray, List.set_cons_zero, List.set_cons_succ]) | (refine wpG_read (v := ?_) rfl (.inl ⟨by rfl, fun wx hbx => ?_⟩) ?_; rotate_left; (focus (obtain ⟨cx0, fx0, zx0⟩ := bk hbx (w.heap.size) (by first | omega | (simp; done) | (simp; omega)); obtain ⟨cx1, fx1, zx1⟩ := bk hbx (b) (by first | omega | (simp; done) | (simp; omega)); go_simp; (try go_bits); (try with_reducible rfl))); try simp only [Act.put, List.setIfInBounds_toArray, List.set_cons_zero, List.set_cons_succ]))
        (first | (refine wpG_pass rfl (by rfl) ?_; simp only [Act.put, List.setIfInBounds_toArray, List.set_cons_zero, List.set_cons_succ]) | (refine wpG_read (v := ?_) rfl (.inl ⟨by rfl, fun wx hbx => ?_⟩) ?_; rotate_left; (focus (obtain ⟨cx0, fx0, zx0⟩ := bk hbx (w.heap.size) (by first | omega | (simp; done) | (simp; omega)); obtain ⟨cx1, fx1, zx1⟩ := bk hbx (b) (by first | omega | (simp; done) | (simp; omega)); go_simp; (try go_bits); (try with_reducible rfl))); try simp only [Act.put, List.setIfInBounds_toArray, List.set_cons_zero, List.set_cons_succ]))
        (refine wpG_read (v := ?_) rfl (.inl ⟨by rfl, fun wx hbx => ?_⟩) ?_; rotate_left; (focus (obtain ⟨cx0, fx0, zx0⟩ := bk hbx (w.heap.size) (by first | omega | (simp; done) | (simp; omega)); obtain ⟨cx1, fx1, zx1⟩ := bk hbx (b) (by first | omega | (simp; done) | (simp; omega)); go_simp; (try go_bits); (try with_reducible rfl))); try simp only [Act.put, List.setIfInBounds_toArray, List.set_cons_zero, List.set_cons_succ])
        refine wpG_nil ?_
        go_wp2_with fail
        go_ret
        exact ⟨by rw [HJJ.out]; rfl, by have q := HBW.out; (repeat' (first | (with_reducible exact Below.refl _ _) | (with_reducible assumption) | (with_reducible refine below_from_drew ?_) | (with_reducible refine Below.alloc ?_ ?_ _) | (with_reducible refine Below.drew ?_) | (with_reducible refine below_drewN ?_ _) | (with_reducible refine Below.setCell ?_ ?_ _) | (with_reducible refine below_via ?_ (by assumption) ?_) | (with_reducible refine below_ov ?_ ?_ _ _) | go_size))⟩
    · obtain rfl : t = s := by omega
      have hj : (i : Int) - 1 - t = -1 := by omega
      rw [hj]
      go_wp2_with fail
      refine region_ord [(0, 0), (1, 0), (2, 0), (3, 0), (4, 0), (5, 0), (6, 0), (7, 0), (8, 0), (9, 0), (10, 0), (11, 0), (12, 0), (13, 0), (14, 0), (15, 0), (16, 0)] (by kernel_rfl) (by kernel_rfl) (fun _ _ d _ _ h => by cases d <;> exact h) (fun hS => ?_)
      (refine wpG_read (v := ?_) rfl (.inl ⟨by rfl, fun wx hbx => ?_⟩) ?_; rotate_left; (focus (obtain ⟨cx0, fx0, zx0⟩ := bk hbx (w.heap.size) (by first | omega | (simp; done) | (simp; omega)); obtain ⟨cx1, fx1, zx1⟩ := bk hbx (b) (by first | omega | (simp; done) | (simp; omega)); go_simp; (try go_bits); (try with_reducible rfl))); try simp only [Act.put, List.setIfInBounds_toArray, List.set_cons_zero, List.set_cons_succ])
      (refine wpG_read (v := ?_) rfl (.inl ⟨by rfl, fun wx hbx => ?_⟩) ?_; rotate_left; (focus (obtain ⟨cx0, fx0, zx0⟩ := bk hbx (w.heap.size) (by first | omega | (simp; done) | (simp; omega)); obtain ⟨cx1, fx1, zx1⟩ := bk hbx (b) (by first | omega | (simp; done) | (simp; omega)); go_simp; (try go_bits); (try with_reducible rfl))); try simp only [Act.put, List.setIfInBounds_toArray, List.set_cons_zero, List.set_cons_succ])
      (refine wpG_read (v := ?_) rfl (.inl ⟨by rfl, fun wx hbx => ?_⟩) ?_; rotate_left; (focus (obtain ⟨cx0, fx0, zx0⟩ := bk hbx (w.heap.size) (by first | omega | (simp; done) | (simp; omega)); obtain ⟨cx1, fx1, zx1⟩ := bk hbx (b) (by first | omega | (simp; done) | (simp; omega)); go_simp; (try go_bits); (try with_reducible rfl))); try simp only [Act.put, List.setIfInBounds_toArray, List.set_cons_zero, List.set_cons_succ])
      (first | (refine wpG_pass rfl (by rfl) ?_; simp only [Act.put, List.setIfInBounds_toArray, List.set_cons_zero, List.set_cons_succ]) | (refine wpG_read (v := ?_) rfl (.inl ⟨by rfl, fun wx hbx => ?_⟩) ?_; rotate_left; (focus (obtain ⟨cx0, fx0, zx0⟩ := bk hbx (w.heap.size) (by first | omega | (simp; done) | (simp; omega)); obtain ⟨cx1, fx1, zx1⟩ := bk hbx (b) (by first | omega | (simp; done) | (simp; omega)); go_simp; (try go_bits); (try with_reducible rfl))); try simp only [Act.put, List.setIfInBounds_toArray, List.set_cons_zero, List.set_cons_succ]))
      (first | (refine wpG_pass rfl (by rfl) ?_; simp only [Act.put, List.setIfInBounds_toArray, List.set_cons_zero, List.set_cons_succ]) | (refine wpG_read (v := ?_) rfl (.inl ⟨by rfl, fun wx hbx => ?_⟩) ?_; rotate_left; (focus (obtain ⟨cx0, fx0, zx0⟩ := bk hbx (w.heap.size) (by first | omega | (simp; done) | (simp; omega)); obtain ⟨cx1, fx1, zx1⟩ := bk hbx (b) (by first | omega | (simp; done) | (simp; omega)); go_simp; (try go_bits); (try with_reducible rfl))); try simp only [Act.put, List.setIfInBounds_toArray, List.set_cons_zero, List.set_cons_succ]))
      (first | (refine wpG_pass rfl (by rfl) ?_; simp only [Act.put, List.setIfInBounds_toArray, List.set_cons_zero, List.set_cons_succ]) | (refine wpG_read (v := ?_) rfl (.inl ⟨by rfl, fun wx hbx => ?_⟩) ?_; rotate_left; (focus (obtain ⟨cx0, fx0, zx0⟩ := bk hbx (w.heap.size) (by first | omega | (simp; done) | (simp; omega)); obtain ⟨cx1, fx1, zx1⟩ := bk hbx (b) (by first | omega | (simp; done) | (simp; omega)); go_simp; (try go_bits); (try with_reducible rfl))); try simp only [Act.put, List.setIfInBounds_toArray, List.set_cons_zero, List.set_cons_succ]))
      (first | (refine wpG_pass rfl (by rfl) ?_; simp only [Act.put, List.setIfInBounds_toArray, List.set_cons_zero, List.set_cons_succ]) | (refine wpG_read (v := ?_) rfl (.inl ⟨by rfl, fun wx hbx => ?_⟩) ?_; rotate_left; (focus (obtain ⟨cx0, fx0, zx0⟩ := bk hbx (w.heap.size) (by first | omega | (simp; done) | (simp; omega)); obtain ⟨cx1, fx1, zx1⟩ := bk hbx (b) (by first | omega | (simp; done) | (simp; omega)); go_simp; (try go_bits); (try with_reducible rfl))); try simp only [Act.put, List.setIfInBounds_toArray, List.set_cons_zero, List.set_cons_succ]))
      (first | (refine wpG_pass rfl (by rfl) ?_; simp only [Act.put, List.setIfInBounds_toArray, List.set_cons_zero, List.set_cons_succ]) | (refine wpG_read (v := ?_) rfl (.inl ⟨by rfl, fun wx hbx => ?_⟩) ?_; rotate_left; (focus (obtain ⟨cx0, fx0, zx0⟩ := bk hbx (w.heap.size) (by first | omega | (simp; done) | (simp; omega)); obtain ⟨cx1, fx1, zx1⟩ := bk hbx (b) (by first | omega | (simp; done) | (simp; omega)); go_simp; (try go_bits); (try with_reducible rfl))); try simp only [Act.put, List.setIfInBounds_toArray, List.set_cons_zero, List.set_cons_succ]))
      (first | (refine wpG_pass rfl (by rfl) ?_; simp only [Act.put, List.setIfInBounds_toArray, List.set_cons_zero, List.set_cons_succ]) | (refine wpG_read (v := ?_) rfl (.inl ⟨by rfl, fun wx hbx => ?_⟩) ?_; rotate_left; (focus (obtain ⟨cx0, fx0, zx0⟩ := bk hbx (w.heap.size) (by first | omega | (simp; done) | (simp; omega)); obtain ⟨cx1, fx1, zx1⟩ := bk hbx (b) (by first | omega | (simp; done) | (simp; omega)); go_simp; (try go_bits); (try with_reducible rfl))); try simp only [Act.put, List.setIfInBounds_toArray, List.set_cons_zero, List.set_cons_succ]))
      (first | (refine wpG_pass rfl (by rfl) ?_; simp only [Act.put, List.setIfInBounds_toArray, List.set_cons_zero, List.set_cons_succ]) | (refine wpG_read (v := ?_) rfl (.inl ⟨by rfl, fun wx hbx => ?_⟩) ?_; rotate_left; (focus (obtain ⟨cx0, fx0, zx0⟩ := bk hbx (w.heap.size) (by first | omega | (simp; done) | (simp; omega)); obtain ⟨cx1, fx1, zx1⟩ := bk hbx (b) (by first | omega | (simp; done) | (simp; omega)); go_simp; (try go_bits); (try with_reducible rfl))); try simp only [Act.put, List.setIfInBounds_toArray, List.set_cons_zero, List.set_cons_succ]))
      (first | (refine wpG_pass rfl (by rfl) ?_; simp only [Act.put, List.setIfInBounds_toArray, List.set_cons_zero, List.set_cons_succ]) | (refine wpG_read (v := ?_) rfl (.inl ⟨by rfl, fun wx hbx => ?_⟩) ?_; rotate_left; (focus (obtain ⟨cx0, fx0, zx0⟩ := bk hbx (w.heap.size) (by first | omega | (simp; done) | (simp; omega)); obtain ⟨cx1, fx1, zx1⟩ := bk hbx (b) (by first | omega | (simp; done) | (simp; omega)); go_simp; (try go_bits); (try with_reducible rfl))); try simp only [Act.put, List.setIfInBounds_toArray, List.set_cons_zero, List.set_cons_succ]))
      (first | (refine wpG_pass rfl (by rfl) ?_; simp only [Act.put, List.setIfInBounds_toArray, List.set_cons_zero, List.set_cons_succ]) | (refine wpG_read (v := ?_) rfl (.inl ⟨by rfl, fun wx hbx => ?_⟩) ?_; rotate_left; (focus (obtain ⟨cx0, fx0, zx0⟩ := bk hbx (w.heap.size) (by first | omega | (simp; done) | (simp; omega)); obtain ⟨cx1, fx1, zx1⟩ := bk hbx (b) (by first | omega | (simp; done) | (simp; omega)); go_simp; (try go_bits); (try with_reducible rfl))); try simp only [Act.put, List.setIfInBounds_toArray, List.set_cons_zero, List.set_cons_succ]))
      (first | (refine wpG_pass rfl (by rfl) ?_; simp only [Act.put, List.setIfInBounds_toArray, List.set_cons_zero, List.set_cons_succ]) | (refine wpG_read (v := ?_) rfl (.inl ⟨by rfl, fun wx hbx => ?_⟩) ?_; rotate_left; (focus (obtain ⟨cx0, fx0, zx0⟩ := bk hbx (w.heap.size) (by first | omega | (simp; done) | (simp; omega)); obtain ⟨cx1, fx1, zx1⟩ := bk hbx (b) (by first | omega | (simp; done) | (simp; omega)); go_simp; (try go_bits); (try with_reducible rfl))); try simp only [Act.put, List.setIfInBounds_toArray, List.set_cons_zero, List.set_cons_succ]))
      (first | (refine wpG_pass rfl (by rfl) ?_; simp only [Act.put, List.setIfInBounds_toArray, List.set_cons_zero, List.set_cons_succ]) | (refine wpG_read (v := ?_) rfl (.inl ⟨by rfl, fun wx hbx => ?_⟩) ?_; rotate_left; (focus (obtain ⟨cx0, fx0, zx0⟩ := bk hbx (w.heap.size) (by first | omega | (simp; done) | (simp; omega)); obtain ⟨cx1, fx1, zx1⟩ := bk hbx (b) (by first | omega | (simp; done) | (simp; omega)); go_simp; (try go_bits); (try with_reducible rfl))); try simp only [Act.put, List.setIfInBounds_toArray, List.set_cons_zero, List.set_cons_succ]))
      (first | (refine wpG_pass rfl (by rfl) ?_; simp only [Act.put, List.setIfInBounds_toArray, List.set_cons_zero, List.set_cons_succ]) | (refine wpG_read (v := ?_) rfl (.inl ⟨by rfl, fun wx hbx => ?_⟩) ?_; rotate_left; (focus (obtain ⟨cx0, fx0, zx0⟩ := bk hbx (w.heap.size) (by first | omega | (simp; done) | (simp; omega)); obtain ⟨cx1, fx1, zx1⟩ := bk hbx (b) (by first | omega | (simp; done) | (simp; omega)); go_simp; (try go_bits); (try with_reducible rfl))); try simp only [Act.put, List.setIfInBounds_toArray, List.set_cons_zero, List.set_cons_succ]))
      (first | (refine wpG_pass rfl (by rfl) ?_; simp only [Act.put, List.setIfInBounds_toArray, List.set_cons_zero, List.set_cons_succ]) | (refine wpG_read (v := ?_) rfl (.inl ⟨by rfl, fun wx hbx => ?_⟩) ?_; rotate_left; (focus (obtain ⟨cx0, fx0, zx0⟩ := bk hbx (w.heap.size) (by first | omega | (simp; done) | (simp; omega)); obtain ⟨cx1, fx1, zx1⟩ := bk hbx (b) (by first | omega | (simp; done) | (simp; omega)); go_simp; (try go_bits); (try with_reducible rfl))); try simp only [Act.put, List.setIfInBounds_toArray, List.set_cons_zero, List.set_cons_succ]))
      (refine wpG_read (v := ?_) rfl (.inl ⟨by rfl, fun wx hbx => ?_⟩) ?_; rotate_left; (focus (obtain ⟨cx0, fx0, zx0⟩ := bk hbx (w.heap.size) (by first | omega | (simp; done) | (simp; omega)); obtain ⟨cx1, fx1, zx1⟩ := bk hbx (b) (by first | omega | (simp; done) | (simp; omega)); go_simp; (try go_bits); (try with_reducible rfl))); try simp only [Act.put, List.setIfInBounds_toArray, List.set_cons_zero, List.set_cons_succ])
      refine wpG_nil ?_
      go_wp2_with fail
      go_ret
      exact ⟨by rw [hj]; rfl, by have q := HBW.out; (repeat' (first | (with_reducible exact Below.refl _ _) | (with_reducible assumption) | (with_reducible refine below_from_drew ?_) | (with_reducible refine Below.alloc ?_ ?_ _) | (with_reducible refine Below.drew ?_) | (with_reducible refine below_drewN ?_ _) | (with_reducible refine Below.setCell ?_ ?_ _) | (with_reducible refine below_via ?_ (by assumption) ?_) | (with_reducible refine below_ov ?_ ?_ _ _) | go_size))⟩
/-- The places of the rows of one depth, the first one's place being i. -/
def lvlI (e : Int) : Nat → Rows → List Int
  | _, [] => []
  | i, x :: C => if x.2 = e then (i : Int) :: lvlI e (i + 1) C else lvlI e (i + 1) C
theorem lvlI_append (e : Int) : ∀ (A B : Rows) (i : Nat), lvlI e i (A ++ B) = lvlI e i A ++ lvlI e (i + A.length) B
  | [], B, i => rfl
  | x :: A, B, i => by
    show (if x.2 = e then (i : Int) :: lvlI e (i + 1) (A ++ B) else lvlI e (i + 1) (A ++ B)) = (if x.2 = e then (i : Int) :: lvlI e (i + 1) A else lvlI e (i + 1) A) ++ lvlI e (i + (A.length + 1)) B
    rw [lvlI_append e A B (i + 1), show i + 1 + A.length = i + (A.length + 1) by omega]
    split <;> rfl
theorem lvlI_len (e : Int) : ∀ (A : Rows) (i : Nat), (lvlI e i A).length = (lvl e A).length
  | [], _ => rfl
  | x :: A, i => by
    show (if x.2 = e then (i : Int) :: lvlI e (i + 1) A else lvlI e (i + 1) A).length = (if x.2 = e then x.1 :: lvl e A else lvl e A).length
    have := lvlI_len e A (i + 1)
    split <;> simp [this]
theorem lvlI_none {e : Int} : ∀ {A : Rows} {i : Nat}, (∀ x ∈ A, x.2 ≠ e) → lvlI e i A = []
  | [], _, _ => rfl
  | x :: A, i, h => by
    show (if x.2 = e then _ else _) = _
    rw [if_neg (h x (.head _)), lvlI_none (fun y hy => h y (.tail _ hy))]
theorem lvl_len2 (e : Int) : ∀ D : Rows, (lvl e D).length ≤ D.length
  | [] => Nat.le_refl _
  | x :: D => by
    show (if x.2 = e then x.1 :: lvl e D else lvl e D).length ≤ D.length + 1
    have := lvl_len2 e D
    split <;> simp <;> omega
/-- Each of these places holds the kid's number. -/
theorem lvlI_get (e : Int) : ∀ (A X : Rows) (k : Nat), k < (lvl e A).length → ∃ t : Nat, (lvlI e X.length A).getD k 0 = (t : Int) ∧ t < (X ++ A).length ∧ ((X ++ A).getD t (0, 0)).1 = (lvl e A).getD k 0
  | [], X, k, h => by simp [lvl] at h
  | x :: A, X, k, h => by
    have ih := lvlI_get e A (X ++ [x])
    have e1 : X ++ [x] ++ A = X ++ x :: A := by simp
    have e2 : (X ++ [x]).length = X.length + 1 := by simp
    rw [e1, e2] at ih
    by_cases c : x.2 = e
    · have h1 : lvlI e X.length (x :: A) = (X.length : Int) :: lvlI e (X.length + 1) A := by show (if _ then _ else _) = _; rw [if_pos c]
      have h2 : lvl e (x :: A) = x.1 :: lvl e A := by show (if _ then _ else _) = _; rw [if_pos c]
      rw [h1, h2]
      rw [h2] at h
      cases k with
      | zero => exact ⟨X.length, rfl, by simp, by rw [getD_split]; rfl⟩
      | succ k => exact ih k (by simpa using h)
    · have h1 : lvlI e X.length (x :: A) = lvlI e (X.length + 1) A := by show (if _ then _ else _) = _; rw [if_neg c]
      have h2 : lvl e (x :: A) = lvl e A := by show (if _ then _ else _) = _; rw [if_neg c]
      rw [h1, h2]
      rw [h2] at h
      exact ih k h
/-- Where the loop over the kids stands. -/
def KidsI (w : World) (a : Option Addr) (l c : Nat) (next : Int) (S' : Rows) (i : Nat) (d : Int) (sv iv : Value) (wr : World) : Prop :=
  ∃ (D E : Rows) (al : Option Addr) (ca : Nat), S' = D ++ E ∧ HeadLe (d + 1) E ∧ iv = .int .i64 ((i + 1 + D.length : Nat) : Int) ∧ sv = .slice al (lvl (d + 1) D).length ca ∧ Below w.heap.size w wr ∧ Has wr w.heap.size #[.slice a l c, .int .i64 next] 28 ∧ wr.ownsRow (w.heap.size + 1) 3 1 (.slice al (lvl (d + 1) D).length ca) (lvl (d + 1) D).length (intVals (lvlI (d + 1) (i + 1) D))
theorem infoRR : (Try.prog.info? 3).map (fun i => (i.zero, i.size, i.bytes)) = some (some (.int .i64 0), 1, 8) := by kernel_rfl
set_option maxRecDepth 100000 in
set_option maxHeartbeats 4000000 in
theorem rkids_any (a : Option Addr) (l c : Nat) (next n d : Int) (R A C : Rows) (w : World) (hl : R.length = l) (hm : l ≤ 100000) (h : RowsAt w a R) (hR : R = A ++ (n, d) :: C) (hst : Steps ((n, d) :: C)) :
    Calls Try.prog 60 #[.agg #[.slice a l c, .int .i64 next], .int .i64 (A.length : Nat)] w fun e w' => ∃ al ca, e = .returned (.slice al (kidsR d C).length ca) ∧ IntsAt w' al (lvlI (d + 1) (A.length + 1) (subR d C)) ∧ Below w.heap.size w w' := by
  obtain ⟨i0, hi, hz0, hz1, hz2⟩ := info_parts infoRR
  obtain ⟨B, hB, hBh⟩ := subR_split d C
  have hSall : ∀ x ∈ subR d C, d < x.2 := subR_all
  have hlen : l = A.length + (C.length + 1) := by rw [← hl, hR]; simp
  have hCl : C.length = (subR d C).length + B.length := by conv => lhs; rw [hB, List.length_append]
  have hst2 : HeadLe (d + 1) (subR d C) := fun x X e => by
    rw [hB, e] at hst
    exact hst.1
  have HE := Lib.hid (fun u (hb : Below w.heap.size w u) => end_any a l c next n d R A C u hl (by omega) (h.below hb) hR)
  have HE2 := Lib.hid (fun u (hb : Below w.heap.size w u) (X Y : Rows) (m e : Int) (q : R = X ++ (m, e) :: Y) => end_any a l c next m e R X Y u hl (by omega) (h.below hb) q)
  have HR := Lib.hid hR; have HB := Lib.hid hB; have HBH := Lib.hid hBh; have HSA := Lib.hid hSall; have HLEN := Lib.hid hlen; have HCL := Lib.hid hCl; have HS2 := Lib.hid hst2
  have hkl : kidsR d C = lvl (d + 1) (subR d C) := rfl
  have HKL := Lib.hid hkl
  have hil : A.length + 1 + (subR d C).length ≤ l := by omega
  clear hl h hR hst hB hBh hSall hlen hCl hst2 hkl
  generalize hS : subR d C = S' at *
  generalize hAl : A.length = i at *
  have HSS := Lib.hid hS; have HAL := Lib.hid hAl
  clear hS hAl
  go_enter Try.func60, Try.ntmps60
  go_wp2_with fail
  go_loopw [5, 6] (fun sv iv wr => KidsI w a l c next S' i d sv iv wr) (fun _ iv _ => l + 1 - (intOf iv).toNat)
  case atStart => unfold KidsI; exact ⟨[], S', none, 0, rfl, HS2.out, by go_num, rfl, by (repeat' (first | (with_reducible exact Below.refl _ _) | (with_reducible assumption) | (with_reducible refine below_from_drew ?_) | (with_reducible refine Below.alloc ?_ ?_ _) | (with_reducible refine Below.drew ?_) | (with_reducible refine below_drewN ?_ _) | (with_reducible refine Below.setCell ?_ ?_ _) | (with_reducible refine below_via ?_ (by assumption) ?_) | (with_reducible refine below_ov ?_ ?_ _ _) | go_size)), has_new rfl, World.ownsRow_nil _ _ _ _⟩
  case round =>
    unfold KidsI at hrel
    obtain ⟨D, E, al, ca, hDE, hEh, rfl, rfl, hbw, hh, hown⟩ := hrel
    have HBW := Lib.hid hbw; have HH := Lib.hid hh; have HOWN := Lib.hid hown; have HDE := Lib.hid hDE; have HEH := Lib.hid hEh
    have g0 := has_cell hh (o := 0) rfl
    have g1 := has_cell hh (o := 1) rfl
    have hlt := hh.lt
    have hSl : S'.length = D.length + E.length := by rw [hDE, List.length_append]
    have hDl := lvl_len2 (d + 1) D
    have hIL := lvlI_len (d + 1) D (i + 1)
    obtain ⟨u, rfl, hBu, hzu, z0, o0⟩ := after1 (w := w) (W := wr) (w1 := wr) (Below.refl _ _) hbw hh
    clear hDE hEh hbw hh hown g0 g1 hlt
    go_wp2_with fail
    refine (HE.out _ HBW.out).mono ?_
    rintro e w1 ⟨rfl, hb1⟩
    have HB1 := Lib.hid (below_via HBW.out hb1 HBW.out.size)
    have HH1 := Lib.hid (has_below hb1 HH.out)
    have HOWN1 := Lib.hid (row_below hb1 HOWN.out)
    cases hE : E with
    | nil =>
      subst hE
      have hDS : S' = D := by rw [HDE.out, List.append_nil]
      have d1 : decide (((i + 1 + D.length : Nat) : Int) < ((i + 1 + S'.length : Nat) : Int)) = false := by rw [hDS]; simp
      have HDS := Lib.hid hDS
      clear hb1 hDS
      go_wp2_with fail
      go_ret
      refine ⟨al, ca, by rw [HKL.out, HDS.out]; rfl, by rw [HDS.out]; exact intsAt_owned HOWN1.out (lvlI_len _ _ _), HB1.out⟩
    | cons x Y =>
      subst hE
      obtain ⟨m, e⟩ := x
      have he : e = d + 1 := by
        have q1 := HEH.out (m, e) Y rfl
        have q2 := HSA.out (m, e) (by rw [HDE.out]; simp)
        show (m, e).2 = _; omega
      subst he
      have d1 : ((i + 1 + D.length : Nat) : Int) < ((i + 1 + S'.length : Nat) : Int) := by simp at hSl; omega
      have hRm : R = (A ++ (n, d) :: D) ++ (m, d + 1) :: (Y ++ B) := by
        rw [HR.out, HB.out, HDE.out]; simp
      have hsubY : subR (d + 1) (Y ++ B) = subR (d + 1) Y := by
        by_cases cc : ∃ x ∈ Y, x.2 ≤ d + 1
        · exact subR_stop cc
        · have h2 : ∀ x ∈ Y, d + 1 < x.2 := fun x hx => Int.not_le.1 fun q => cc ⟨x, hx, q⟩
          rw [subR_append h2, subR_head (HBH.out.mono (by omega)), List.append_nil]
          have := subR_append (B := []) h2
          rw [List.append_nil] at this
          rw [this]; simp [subR]
      obtain ⟨B', hB', hBh'⟩ := subR_split (d + 1) Y
      have hYl : Y.length = (subR (d + 1) Y).length + B'.length := by conv => lhs; rw [hB', List.length_append]
      have hxl : (A ++ (n, d) :: D).length = i + 1 + D.length := by simp [HAL.out]; omega
      have HRM := Lib.hid hRm; have HSY := Lib.hid hsubY; have HXL := Lib.hid hxl
      have HFIN : Hid (S' = (D ++ (m, d + 1) :: subR (d + 1) Y) ++ B' ∧ HeadLe (d + 1) B' ∧ lvlI (d + 1) (i + 1) (D ++ (m, d + 1) :: subR (d + 1) Y) = lvlI (d + 1) (i + 1) D ++ [((i + 1 + D.length : Nat) : Int)] ∧ (lvl (d + 1) (D ++ (m, d + 1) :: subR (d + 1) Y)).length = (lvl (d + 1) D).length + 1 ∧ (D ++ (m, d + 1) :: subR (d + 1) Y).length = D.length + 1 + (subR (d + 1) Y).length) := by
        have hTall : ∀ z ∈ subR (d + 1) Y, d + 1 < z.2 := subR_all
        have e0 : lvl (d + 1) (subR (d + 1) Y) = [] := lvl_none (fun z hz => by have := hTall z hz; omega)
        have e1 : lvl (d + 1) ((m, d + 1) :: subR (d + 1) Y) = [m] := by show (if d + 1 = d + 1 then m :: lvl (d + 1) (subR (d + 1) Y) else _) = _; rw [if_pos rfl, e0]
        have e2 : lvlI (d + 1) (i + 1 + D.length) ((m, d + 1) :: subR (d + 1) Y) = [((i + 1 + D.length : Nat) : Int)] := by
          show (if d + 1 = d + 1 then _ :: lvlI (d + 1) _ (subR (d + 1) Y) else _) = _
          rw [if_pos rfl, lvlI_none (fun z hz => by have := hTall z hz; omega)]
        refine ⟨by rw [HDE.out]; simp [← hB'], hBh', by rw [lvlI_append, e2], by rw [lvl_append, e1, List.length_append]; rfl, by simp; omega⟩
      simp only [List.length_cons] at hSl
      generalize hT : subR (d + 1) Y = T at *
      have hTl : T.length ≤ Y.length := by omega
      rw [← ov_self HH1.out]
      have HOV := Lib.hid (ov_self HH1.out)
      have hzz := HH1.out.lt
      have hob1 : Old w1 w.heap.size := hzz
      generalize hLL : (lvl (d + 1) D).length = ll at *
      generalize hDD : D.length = dd at *
      have HLL := Lib.hid hLL; have HDD := Lib.hid hDD
      clear hb1 hRm hsubY hB' hBh' hYl hxl hT hLL hDD
      go_wp2_with (at_builtin; refine wpList_append_own _ rfl _ _ 44 rfl (w.heap.size + 1) 3 i0 (.int .i64 0) 1 8 Try.underlying44 hi hz0 hz1 hz2 rfl (by decide) _ _ _ rfl (by have q := HOWN1.out; rw [← HOV.out] at q; exact q.alloc _) ⟨w1.heap.size, 0, none⟩ 1 1 [.int .i64 ((i : Int) + 1 + dd)] rfl rfl ?p1 ?p2 ?p3 ?p4 ?p5 ?_)
      case p1 => exact newi_at (by simp)
      case p2 => exact one_of rfl
      case p3 => unfold maxLen; omega
      case p4 => omega
      case p5 => simp; omega
      intro v' w2 hown' hgrow hnil
      clear hnil
      rw [HOV.out] at hgrow
      have hne : v'.ownBlock ≠ some w.heap.size := row_ne hown' (by omega)
      have hB2 : Below w.heap.size w w2 := Below.grown (by have q := HB1.out; (repeat' (first | (with_reducible exact Below.refl _ _) | (with_reducible assumption) | (with_reducible refine below_from_drew ?_) | (with_reducible refine Below.alloc ?_ ?_ _) | (with_reducible refine Below.drew ?_) | (with_reducible refine below_drewN ?_ _) | (with_reducible refine Below.setCell ?_ ?_ _) | (with_reducible refine below_via ?_ (by assumption) ?_) | (with_reducible refine below_ov ?_ ?_ _ _) | go_size))) hgrow (by simp; omega) (fun bb h => by have := row_block HOWN1.out bb h; omega)
      have hH2 : Has w2 w.heap.size #[.slice a l c, .int .i64 next] 28 := has_grown hgrow (has_alloc HH1.out) (row_ne HOWN1.out (by omega))
      obtain ⟨al', ca', rfl, _, _⟩ := row_reads hown'
      have hE2 := HE2.out w2 hB2 (A ++ (n, d) :: D) (Y ++ B) m (d + 1) HRM.out
      rw [HXL.out, HSY.out, show ((i + 1 + dd : Nat) : Int) = (i : Int) + 1 + dd by omega] at hE2
      have g0 := has_cell hH2 (o := 0) rfl
      have g1 := has_cell hH2 (o := 1) rfl
      have hl2 := hH2.lt
      have HO2 := Lib.hid hown'; have HB2 := Lib.hid hB2; have HH2 := Lib.hid hH2; have HEE := Lib.hid hE2
      clear hown' hB2 hgrow hH2 hE2 hne
      go_wp2_with fail
      refine HEE.out.mono ?_
      rintro e w3 ⟨rfl, hb3⟩
      have HB3 := Lib.hid (below_via HB2.out hb3 HB2.out.size)
      have HH3 := Lib.hid (has_below hb3 HH2.out)
      have HO3 := Lib.hid (row_below hb3 HO2.out)
      clear hb3
      go_wp2_with fail
      go_roundw
      case rel =>
        obtain ⟨q1, q2, q3, q4, q5⟩ := HFIN.out
        unfold KidsI
        refine ⟨D ++ (m, d + 1) :: T, B', al', ca', q1, q2, ?_, by rw [q4], HB3.out, HH3.out, ?_⟩
        · rw [q5]; congr 1; omega
        · rw [q4, q3, intVals_snoc, show ((i + 1 + dd : Nat) : Int) = (i : Int) + 1 + dd by omega]; exact HO3.out
      case measure => have := HDD.out; simp [intOf]; omega
end Go.Proofs.Ytcpehmlkhmfmhaa
