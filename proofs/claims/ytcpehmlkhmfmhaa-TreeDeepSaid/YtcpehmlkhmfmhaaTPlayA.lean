/- clapboardlaw10: same by contract; the plain facts on parents. -/
import Derived.Test.YtcpehmlkhmfmhaaRefE
import Derived.Test.YtcpehmlkhmfmhaaTreeL
namespace Go.Proofs.Ytcpehmlkhmfmhaa
open Go.RowKit
set_option linter.unusedSimpArgs false
set_option linter.unusedVariables false
-- below_from_drew
attribute [local go_sem] ov_cell_same ov_cell_other ov_frozen_same ov_frozen_other ov_size ov_setCell_same ov_setCell_other cell_alloc_old frozen_alloc_old setCell_alloc_old old_alloc old_ov old_drew old_drewN old_setCell
attribute [local go_sem ↓] run_max2 run_min2

set_option maxRecDepth 100000 in
set_option maxHeartbeats 2000000 in
/-- Two lists that are the same. -/
theorem same_any (a1 a2 : Option Addr) (n c1 c2 : Nat) (xs : List Int) (w : World) (hn : xs.length = n) (hm : n ≤ 1000000) (h1 : IntsAt w a1 xs) (h2 : IntsAt w a2 xs) :
    Calls Try.prog 50 #[.slice a1 n c1, .slice a2 n c2] w fun e w' => e = .returned (.bool true) ∧ Below w.heap.size w w' := by
  have HN := Lib.hid hn; have H1 := Lib.hid h1; have H2 := Lib.hid h2
  clear hn h1 h2
  go_enter Try.func50, Try.ntmps50
  go_wp2_with fail
  go_loopw [5] (fun iv wr => ∃ i : Nat, iv = .int .i64 (i : Int) ∧ i ≤ n ∧ Below w.heap.size w wr) (fun iv _ => n - (intOf iv).toNat)
  case atStart => exact ⟨0, rfl, Nat.zero_le _, Below.refl _ _⟩
  case round =>
    obtain ⟨i, rfl, hi, hb⟩ := hrel
    have HB := Lib.hid hb
    clear hb
    rcases Nat.lt_or_ge i n with c | c
    · have c2' : (i : Int) < n := by omega
      have c3 : (0 : Int) ≤ (i : Int) := by omega
      obtain ⟨b1, o1, rfl, hb1, hc1⟩ := (H1.out.below HB.out) (by rw [HN.out]; omega)
      obtain ⟨b2, o2, rfl, hb2, hc2⟩ := (H2.out.below HB.out) (by rw [HN.out]; omega)
      have g1 := hc1 i (by rw [HN.out]; exact c)
      have g2 := hc2 i (by rw [HN.out]; exact c)
      generalize xs.getD i 0 = x at *
      have q1 : Old wr b1 := hb1
      have q2 : Old wr b2 := hb2
      clear hc1 hc2
      go_wp2_with fail
      refine region_ord [(0, 0), (1, 0), (2, 0), (3, 0), (4, 0), (5, 0), (6, 0), (7, 0), (8, 0)] (by kernel_rfl) (by kernel_rfl) (fun _ _ d _ _ h => by cases d <;> exact h) (fun hS => ?_)
      (refine wpG_read (v := ?_) rfl (.inl ⟨by rfl, fun wx hbx => ?_⟩) ?_; rotate_left; (focus (obtain ⟨cx0, fx0, zx0⟩ := bk hbx (b1) (by first | omega | (simp; done) | (simp; omega)); obtain ⟨cx1, fx1, zx1⟩ := bk hbx (b2) (by first | omega | (simp; done) | (simp; omega)); go_simp; (try go_bits); (try with_reducible rfl))); try simp only [Act.put, List.setIfInBounds_toArray, List.set_cons_zero, List.set_cons_succ])
      (refine wpG_read (v := ?_) rfl (.inl ⟨by rfl, fun wx hbx => ?_⟩) ?_; rotate_left; (focus (obtain ⟨cx0, fx0, zx0⟩ := bk hbx (b1) (by first | omega | (simp; done) | (simp; omega)); obtain ⟨cx1, fx1, zx1⟩ := bk hbx (b2) (by first | omega | (simp; done) | (simp; omega)); go_simp; (try go_bits); (try with_reducible rfl))); try simp only [Act.put, List.setIfInBounds_toArray, List.set_cons_zero, List.set_cons_succ])
      (refine wpG_read (v := ?_) rfl (.inl ⟨by rfl, fun wx hbx => ?_⟩) ?_; rotate_left; (focus (obtain ⟨cx0, fx0, zx0⟩ := bk hbx (b1) (by first | omega | (simp; done) | (simp; omega)); obtain ⟨cx1, fx1, zx1⟩ := bk hbx (b2) (by first | omega | (simp; done) | (simp; omega)); go_simp; (try go_bits); (try with_reducible rfl))); try simp only [Act.put, List.setIfInBounds_toArray, List.set_cons_zero, List.set_cons_succ])
      (refine wpG_read (v := ?_) rfl (.inl ⟨by rfl, fun wx hbx => ?_⟩) ?_; rotate_left; (focus (obtain ⟨cx0, fx0, zx0⟩ := bk hbx (b1) (by first | omega | (simp; done) | (simp; omega)); obtain ⟨cx1, fx1, zx1⟩ := bk hbx (b2) (by first | omega | (simp; done) | (simp; omega)); go_simp; (try go_bits); (try with_reducible rfl))); try simp only [Act.put, List.setIfInBounds_toArray, List.set_cons_zero, List.set_cons_succ])
      (refine wpG_read (v := ?_) rfl (.inl ⟨by rfl, fun wx hbx => ?_⟩) ?_; rotate_left; (focus (obtain ⟨cx0, fx0, zx0⟩ := bk hbx (b1) (by first | omega | (simp; done) | (simp; omega)); obtain ⟨cx1, fx1, zx1⟩ := bk hbx (b2) (by first | omega | (simp; done) | (simp; omega)); go_simp; (try go_bits); (try with_reducible rfl))); try simp only [Act.put, List.setIfInBounds_toArray, List.set_cons_zero, List.set_cons_succ])
      (refine wpG_read (v := ?_) rfl (.inl ⟨by rfl, fun wx hbx => ?_⟩) ?_; rotate_left; (focus (obtain ⟨cx0, fx0, zx0⟩ := bk hbx (b1) (by first | omega | (simp; done) | (simp; omega)); obtain ⟨cx1, fx1, zx1⟩ := bk hbx (b2) (by first | omega | (simp; done) | (simp; omega)); go_simp; (try go_bits); (try with_reducible rfl))); try simp only [Act.put, List.setIfInBounds_toArray, List.set_cons_zero, List.set_cons_succ])
      (refine wpG_read (v := ?_) rfl (.inl ⟨by rfl, fun wx hbx => ?_⟩) ?_; rotate_left; (focus (obtain ⟨cx0, fx0, zx0⟩ := bk hbx (b1) (by first | omega | (simp; done) | (simp; omega)); obtain ⟨cx1, fx1, zx1⟩ := bk hbx (b2) (by first | omega | (simp; done) | (simp; omega)); go_simp; (try go_bits); (try with_reducible rfl))); try simp only [Act.put, List.setIfInBounds_toArray, List.set_cons_zero, List.set_cons_succ])
      (refine wpG_read (v := ?_) rfl (.inl ⟨by rfl, fun wx hbx => ?_⟩) ?_; rotate_left; (focus (obtain ⟨cx0, fx0, zx0⟩ := bk hbx (b1) (by first | omega | (simp; done) | (simp; omega)); obtain ⟨cx1, fx1, zx1⟩ := bk hbx (b2) (by first | omega | (simp; done) | (simp; omega)); go_simp; (try go_bits); (try with_reducible rfl))); try simp only [Act.put, List.setIfInBounds_toArray, List.set_cons_zero, List.set_cons_succ])
      (refine wpG_read (v := ?_) rfl (.inl ⟨by rfl, fun wx hbx => ?_⟩) ?_; rotate_left; (focus (obtain ⟨cx0, fx0, zx0⟩ := bk hbx (b1) (by first | omega | (simp; done) | (simp; omega)); obtain ⟨cx1, fx1, zx1⟩ := bk hbx (b2) (by first | omega | (simp; done) | (simp; omega)); go_simp; (try go_bits); (try with_reducible rfl))); try simp only [Act.put, List.setIfInBounds_toArray, List.set_cons_zero, List.set_cons_succ])
      refine wpG_nil ?_
      go_wp2_with fail
      go_roundw
      case rel => exact ⟨i + 1, by go_num, by omega, by have q := HB.out; (repeat' (first | (with_reducible exact Below.refl _ _) | (with_reducible assumption) | (with_reducible refine below_from_drew ?_) | (with_reducible refine Below.alloc ?_ ?_ _) | (with_reducible refine Below.drew ?_) | (with_reducible refine below_drewN ?_ _) | (with_reducible refine Below.setCell ?_ ?_ _) | (with_reducible refine below_via ?_ (by assumption) ?_) | (with_reducible refine below_ov ?_ ?_ _ _) | go_size))⟩
      case measure => simp [intOf]; omega
    · obtain rfl : i = n := by omega
      have c2' : decide ((i : Int) < i) = false := by simp
      go_wp2_with fail
      go_ret
      exact ⟨rfl, HB.out⟩
theorem parR_at (d : Int) : ∀ (l : Rows), (∃ x ∈ l, x.2 < d) → (subR (d - 1) l).length < l.length ∧ (l.getD (subR (d - 1) l).length (0, 0)).1 = parR d l
  | [], h => by obtain ⟨x, hx, _⟩ := h; cases hx
  | y :: l, h => by
    by_cases c : y.2 < d
    · have e1 : subR (d - 1) (y :: l) = [] := by show (if d - 1 < y.2 then _ else _) = _; rw [if_neg (by omega)]
      have e2 : parR d (y :: l) = y.1 := by show (if y.2 < d then _ else _) = _; rw [if_pos c]
      rw [e1, e2]; simp
    · have e1 : subR (d - 1) (y :: l) = y :: subR (d - 1) l := by show (if d - 1 < y.2 then _ else _) = _; rw [if_pos (by omega)]
      have e2 : parR d (y :: l) = parR d l := by show (if y.2 < d then _ else _) = _; rw [if_neg c]
      have h2 : ∃ x ∈ l, x.2 < d := by
        obtain ⟨x, hx, q⟩ := h
        cases hx with
        | head => exact absurd q c
        | tail _ hx => exact ⟨x, hx, q⟩
      obtain ⟨h3, h4⟩ := parR_at d l h2
      rw [e1, e2]
      exact ⟨by simp; exact h3, by rw [List.length_cons, ← h4]; simp [List.getD_eq_getElem?_getD]⟩
/-- The parent's place holds the parent's number. -/
theorem par_place {R A C : Rows} {next n d : Int} (hw : WfR R next) (e : R = A ++ (n, d) :: C) (hA : A ≠ []) : ∃ j : Nat, (A.length : Int) - 1 - (subR (d - 1) A.reverse).length = (j : Int) ∧ j < R.length ∧ (R.getD j (0, 0)).1 = parR d A.reverse := by
  obtain ⟨hd, A1, m, A2, e1, e2, e3⟩ := hw.parent e hA
  obtain ⟨h1, h2⟩ := parR_at d A.reverse ⟨(m, d - 1), by rw [e1]; simp, by show d - 1 < d; omega⟩
  rw [List.length_reverse] at h1
  refine ⟨A.length - 1 - (subR (d - 1) A.reverse).length, by omega, by rw [e]; simp; omega, ?_⟩
  rw [e, getD_ahead h1, h2]
theorem par_root {d : Int} : ((([] : Rows).length : Int)) - 1 - (subR (d - 1) ([] : Rows).reverse).length = -1 := rfl
end Go.Proofs.Ytcpehmlkhmfmhaa
